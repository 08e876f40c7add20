/- An abstract machine over values: the words. -/
import Derived.Calls
import Derived.Orders
import Derived.Below
import Derived.Deep.LoopGhost
import Derived.Deep.OwnRows
import Derived.KernelRfl
namespace Go.Proofs.Ytpopccnnjpdmlaa.Vm
open Go Go.RowKit
set_option linter.unusedVariables false
set_option linter.unusedSimpArgs false
/-- How a slice may be used: appended to ('nl': it has no room at all; 'cl c': the room behind it is nobody else's). -/
inductive Ap where
  | no | nl | cl (c : Nat) | ow (t : Nat)
/-- a cut has no label -/
def noOw : Ap → Ap
  | .ow _ => .no
  | a => a
/-- 'fr': all that it reads was made by this call. -/
structure Mk where
  ap : Ap
  fr : Bool
def ro : Mk := ⟨.no, false⟩
inductive AV where
  | un
  | lit (v : Value)
  | sl (m : Mk) (sz : Nat) (xs : List AV)
  | agg (cs : List AV)
  | tup (cs : List AV)
  | ptr (n i off : Nat)
  | ep (fr : Bool) (cs : List AV)
  | fn (f : Nat) (cs : List AV)
  | bs (n sz len : Nat)
  | hs (sz : Nat) (xs : List AV)
  | hp (cs : List AV)
instance : Inhabited AV := ⟨.un⟩
def AV.cells : AV → List AV
  | .agg cs => cs
  | x => [x]
abbrev Gh := Nat → Nat → Option Value
def Gh.le (G G' : Gh) : Prop := ∀ b o v, G b o = some v → G' b o = some v
/-- the facts of some blocks -/
noncomputable def Gh.rng (S : Nat → Prop) (G : Gh) : Gh := fun b o => @ite _ (S b) (Classical.propDecidable _) (G b o) none
def Gh.from (base : Nat) (G : Gh) : Gh := fun b o => if base ≤ b then G b o else none
/-- A cell's value, or a whole slice, as data. -/
inductive RepD (G : Gh) : Value → AV → Prop
  | un (v : Value) : RepD G v .un
  | lit (v : Value) : v.oneCell' = true → RepD G v (.lit v)
  | sl (A : Option Addr) (n cap : Nat) (m : Mk) (sz : Nat) (xs : List AV) (b o : Nat) (f : Nat → Nat → Value) : n = xs.length → n ≤ cap → (xs ≠ [] → A = some ⟨b, o, none⟩) →
      (∀ (i : Nat) (x : AV), xs[i]? = some x → x.cells.length = sz) →
      (∀ (i : Nat) (x : AV) (j : Nat) (c : AV), xs[i]? = some x → x.cells[j]? = some c → G b (o + i * sz + j) = some (f i j) ∧ (f i j).oneCell' = true) →
      (∀ (i : Nat) (x : AV) (j : Nat) (c : AV), xs[i]? = some x → x.cells[j]? = some c → RepD G (f i j) c) → RepD G (.slice A n cap) (.sl m sz xs)
/-- A slice whose leaves may be written by anyone ('junk'); what its cells hold of slices stays. -/
inductive RepH (G : Gh) (J : Nat → Nat → Prop) : Value → AV → Prop
  | hs (A : Option Addr) (n cap sz : Nat) (xs : List AV) (b o : Nat) (f : Nat → Nat → Value) : n = xs.length → n ≤ cap → (xs ≠ [] → A = some ⟨b, o, none⟩) →
      (∀ (i : Nat) (x : AV), xs[i]? = some x → x.cells.length = sz) →
      (∀ (i : Nat) (x : AV) (j : Nat) (c : AV), xs[i]? = some x → x.cells[j]? = some c → c = .un → J b (o + i * sz + j)) →
      (∀ (i : Nat) (x : AV) (j : Nat) (c : AV), xs[i]? = some x → x.cells[j]? = some c → c ≠ .un → G b (o + i * sz + j) = some (f i j)) →
      (∀ (i : Nat) (x : AV) (j : Nat) (c : AV), xs[i]? = some x → x.cells[j]? = some c → c ≠ .un → RepH G J (f i j) c) → RepH G J (.slice A n cap) (.hs sz xs)
/-- 'bz': the size of an element, and where the row begins; 'rg': the blocks of a label; 'J': the junk cells. -/
structure X where
  G : Gh
  bx : Nat → Nat
  bz : Nat → Nat × Nat
  tl : Nat → Option (Nat × Nat × Nat)
  rg : Nat → Nat → Prop
  J : Nat → Nat → Prop
  rv : Nat → Option Value
/-- The room behind a slice. -/
def Room (x : X) (sz : Nat) (xs : List AV) (v : Value) : Ap → Prop
  | .no => True
  | .nl => ∃ A, v = .slice A 0 0
  | .cl c => (∃ A, v = .slice A 0 0) ∨ ∃ b o n cap, v = .slice (some ⟨b, o, none⟩) n cap ∧ x.tl c = some (b, o + n * sz, o + cap * sz)
  | .ow t => RepD (x.G.rng (x.rg t)) v (.sl ro sz xs) ∧ (100000 ≤ t → x.rv t = some v)
inductive Rel (x : X) (base : Nat) : Value → AV → Prop
  | un (v : Value) : Rel x base v .un
  | lit (v : Value) : v.oneCell' = true → Rel x base v (.lit v)
  | sl (v : Value) (m : Mk) (sz : Nat) (xs : List AV) : RepD x.G v (.sl m sz xs) → (m.fr = true → RepD (x.G.from base) v (.sl m sz xs)) → Room x sz xs v m.ap → Rel x base v (.sl m sz xs)
  | agg (vs : Array Value) (cs : List AV) : vs.size = cs.length → (∀ (j : Nat) (v : Value) (c : AV), vs[j]? = some v → cs[j]? = some c → Rel x base v c) → Rel x base (.agg vs) (.agg cs)
  | tup (vs : Array Value) (cs : List AV) : vs.size = cs.length → (∀ (j : Nat) (v : Value) (c : AV), vs[j]? = some v → cs[j]? = some c → Rel x base v c) → Rel x base (.tuple vs) (.tup cs)
  | ptr (n i off : Nat) : Rel x base (.pointer (some ⟨x.bx n, (x.bz n).2 + i * (x.bz n).1 + off, none⟩)) (.ptr n i off)
  | ep (b o : Nat) (fr : Bool) (cs : List AV) (f : Nat → Value) : (∀ (j : Nat) (c : AV), cs[j]? = some c → x.G b (o + j) = some (f j)) → (∀ (j : Nat) (c : AV), cs[j]? = some c → RepD x.G (f j) c) →
      (fr = true → ∀ (j : Nat) (c : AV), cs[j]? = some c → RepD (x.G.from base) (f j) c) → Rel x base (.pointer (some ⟨b, o, none⟩)) (.ep fr cs)
  | fn (f : Nat) (vs : Array Value) (cs : List AV) : vs.size = cs.length → (∀ (j : Nat) (v : Value) (c : AV), vs[j]? = some v → cs[j]? = some c → Rel x base v c) → Rel x base (.func (.func f) #[] vs) (.fn f cs)
  | bs (n sz len cap : Nat) : (x.bz n).1 = sz → len ≤ cap → Rel x base (.slice (some ⟨x.bx n, (x.bz n).2, none⟩) len cap) (.bs n sz len)
  | hs (v : Value) (sz : Nat) (xs : List AV) : RepH x.G x.J v (.hs sz xs) → Rel x base v (.hs sz xs)
  | hp (b o : Nat) (cs : List AV) (f : Nat → Value) : (∀ (j : Nat) (c : AV), cs[j]? = some c → c = .un → x.J b (o + j)) → (∀ (j : Nat) (c : AV), cs[j]? = some c → c ≠ .un → x.G b (o + j) = some (f j) ∧ RepH x.G x.J (f j) c) → Rel x base (.pointer (some ⟨b, o, none⟩)) (.hp cs)
/-- The state: variables, and boxes (each a row of elements). -/
structure AS where
  env : List (Nat × AV)
  bxs : List (Nat × List AV)
def look {α : Type} : List (Nat × α) → Nat → Option α
  | [], _ => none
  | (u, x) :: l, t => if t = u then some x else look l t
def setL {α : Type} (t : Nat) (v : α) : List (Nat × α) → List (Nat × α)
  | [] => [(t, v)]
  | (u, x) :: l => if t < u then (t, v) :: (u, x) :: l else if t = u then (t, v) :: l else (u, x) :: setL t v l
def AS.get (s : AS) (t : Nat) : AV := (look s.env t).getD .un
def AS.put (s : AS) (t : Nat) (v : AV) : AS := ⟨setL t v s.env, s.bxs⟩
def AS.putO (s : AS) : Option Nat → AV → AS
  | some t, v => s.put t v
  | none, _ => s
def AS.setB (s : AS) (n : Nat) (l : List AV) : AS := ⟨s.env, setL n l s.bxs⟩
/-- without marks -/
def strip : AV → AV
  | .sl _ sz xs => .sl ro sz xs
  | .agg cs => .agg (stripL cs)
  | .tup cs => .tup (stripL cs)
  | .fn f cs => .fn f (stripL cs)
  | .ep _ cs => .ep false cs
  | x => x
where stripL : List AV → List AV
  | [] => []
  | c :: cs => strip c :: stripL cs
/-- data alone: no pointers, no functions -/
def dat : AV → Bool
  | .un => true
  | .lit _ => true
  | .sl _ _ _ => true
  | .agg cs => datL cs
  | _ => false
where datL : List AV → Bool
  | [] => true
  | c :: cs => dat c && datL cs
/-- all that it reads was made by this call -/
def frA : AV → Bool
  | .un => true
  | .lit _ => true
  | .sl m _ _ => m.fr
  | .agg cs => frL cs
  | .tup cs => frL cs
  | _ => false
where frL : List AV → Bool
  | [] => true
  | c :: cs => frA c && frL cs
/-- a value read out of a row: nobody's to append to; fresh as the row -/
def mkF (b : Bool) : AV → AV
  | .sl _ sz xs => .sl ⟨.no, b⟩ sz xs
  | .agg cs => .agg (mkL b cs)
  | .lit v => .lit v
  | _ => .un
where mkL (b : Bool) : List AV → List AV
  | [] => []
  | c :: cs => mkF b c :: mkL b cs
/-- no class of the label d -/
def noC (d : Nat) : AV → Bool
  | .sl m _ _ => match m.ap with
    | .cl c => c / 64 != d
    | _ => true
  | .agg cs => noL d cs
  | .tup cs => noL d cs
  | .fn _ cs => noL d cs
  | _ => true
where noL (d : Nat) : List AV → Bool
  | [] => true
  | c :: cs => noC d c && noL d cs
/-- no slice of the label d -/
def noW (d : Nat) : AV → Bool
  | .sl m _ _ => match m.ap with
    | .ow k => k != d
    | _ => true
  | .agg cs => noL d cs
  | .tup cs => noL d cs
  | .fn _ cs => noL d cs
  | _ => true
where noL (d : Nat) : List AV → Bool
  | [] => true
  | c :: cs => noW d c && noL d cs
/-- no pointer to box n -/
def noB (n : Nat) : AV → Bool
  | .ptr k _ _ => k != n
  | .bs k _ _ => k != n
  | .agg cs => noL n cs
  | .tup cs => noL n cs
  | .fn _ cs => noL n cs
  | _ => true
where noL (n : Nat) : List AV → Bool
  | [] => true
  | c :: cs => noB n c && noL n cs
/-- the class c is appended to by another: no more room -/
def dem (c : Nat) : AV → AV
  | .sl m sz xs => match m.ap with
    | .cl k => if k = c then .sl ⟨.no, m.fr⟩ sz xs else .sl m sz xs
    | _ => .sl m sz xs
  | .agg cs => .agg (demL c cs)
  | .tup cs => .tup (demL c cs)
  | .fn f cs => .fn f (demL c cs)
  | x => x
where demL (c : Nat) : List AV → List AV
  | [] => []
  | x :: cs => dem c x :: demL c cs
def mapV {α β : Type} (f : α → β) : List (Nat × α) → List (Nat × β)
  | [] => []
  | (t, v) :: l => (t, f v) :: mapV f l
def AS.dem (s : AS) (c : Nat) : AS := ⟨mapV (Vm.dem c) s.env, mapV (dem.demL c) s.bxs⟩
def allV {α : Type} (p : α → Bool) : List (Nat × α) → Bool
  | [] => true
  | (_, v) :: l => p v && allV p l
def AS.noC (s : AS) (d : Nat) : Bool := allV (Vm.noC d) s.env && allV (noC.noL d) s.bxs
def AS.noW (s : AS) (d : Nat) : Bool := allV (Vm.noW d) s.env && allV (noW.noL d) s.bxs
def AS.noB (s : AS) (n : Nat) : Bool := allV (Vm.noB n) s.env && allV (noB.noL n) s.bxs
/-- classes of a result, in the caller's labels; 'b': all arguments were fresh -/
def relab (d : Nat) (b : Bool) : AV → AV
  | .sl m sz xs => .sl ⟨match m.ap with | .cl c => .cl (64 * d + c) | a => a, m.fr || b⟩ sz xs
  | .agg cs => .agg (relabL d b cs)
  | .tup cs => .tup (relabL d b cs)
  | x => x
where relabL (d : Nat) (b : Bool) : List AV → List AV
  | [] => []
  | c :: cs => relab d b c :: relabL d b cs
/-- may stand as a result: data, classes below 64 -/
def resOk : AV → Bool
  | .un => true
  | .lit _ => true
  | .sl m _ _ => match m.ap with
    | .cl c => decide (c < 64)
    | .ow _ => false
    | _ => true
  | .agg cs => resL cs
  | .tup cs => resL cs
  | _ => false
where resL : List AV → Bool
  | [] => true
  | c :: cs => resOk c && resL cs
/-- the boxes that a value points to -/
def ptrs : AV → List Nat
  | .ptr n _ _ => [n]
  | .bs n _ _ => [n]
  | .agg cs => ptrsL cs
  | .fn _ cs => ptrsL cs
  | _ => []
where ptrsL : List AV → List Nat
  | [] => []
  | c :: cs => ptrs c ++ ptrsL cs
/-- a cell's value that may be stored -/
def okC : AV → Bool
  | .un => false
  | .agg _ => false
  | .tup _ => false
  | _ => true
theorem look_setL {α : Type} (t u : Nat) (v : α) (l : List (Nat × α)) : look (setL t v l) u = if u = t then some v else look l u := by
  induction l with
  | nil => simp only [setL, look]
  | cons p l ih =>
    obtain ⟨k, y⟩ := p
    simp only [setL]
    by_cases h1 : t < k
    · rw [if_pos h1]
      simp only [look]
    · rw [if_neg h1]
      by_cases h : t = k
      · subst h
        rw [if_pos rfl]
        simp only [look]
        by_cases hu : u = t
        · rw [if_pos hu, if_pos hu]
        · rw [if_neg hu, if_neg hu, if_neg hu]
      · rw [if_neg h]
        simp only [look]
        by_cases hu : u = k
        · subst hu
          rw [if_pos rfl, if_neg (fun e => h e.symm), if_pos rfl]
        · rw [if_neg hu, if_neg hu]
          exact ih
theorem setL_comm {α : Type} (t u : Nat) (v w : α) (h : t ≠ u) (l : List (Nat × α)) : setL t v (setL u w l) = setL u w (setL t v l) := by
  induction l with
  | nil =>
    simp only [setL]
    by_cases h1 : t < u
    · rw [if_pos h1, if_neg (by omega), if_neg (by omega)]
    · rw [if_neg h1, if_neg h, if_pos (by omega)]
  | cons p l ih =>
    obtain ⟨k, y⟩ := p
    simp only [setL]
    repeat' (first | (split <;> (try simp only [setL])) | rfl | omega)
    all_goals (try omega)
    all_goals (try rw [ih])
    all_goals (repeat' (first | rw [if_pos (by omega)] | rw [if_neg (by omega)]))
    all_goals (try subst_vars)
    all_goals (try rfl)
end Go.Proofs.Ytpopccnnjpdmlaa.Vm
