/- The walks and laws of this claim: Va. -/
import Derived.Calls
import Derived.Orders
import Derived.Below
import Derived.Deep.LoopGhost
import Derived.Deep.OwnRows
import Derived.KernelRfl
import Derived.Laws.Cells
import Derived.Laws.Append
import Derived.Laws.IdiomCopy
import Derived.Laws.Strings
import Derived.WideShapes
import Derived.Laws.AppendOwn
/- An abstract machine over values: the words. -/
namespace Go.Proofs.YticockdhfglolaaGreatDoor.Vm
open Go Go.RowKit
set_option linter.unusedVariables false
set_option linter.unusedSimpArgs false
/-- How a slice may be used: appended to ('nl': it has no room at all; 'cl c': the room behind it is nobody else's). -/
inductive Ap where
  | no | nl | cl (c : Nat) | ow (t : Nat) | id (k : Nat)
/-- a cut has no label -/
def noOw : Ap → Ap
  | .ow _ => .no
  | .id _ => .no
  | a => a
/-- 'fr': all that it reads was made by this call. -/
structure Mk where
  ap : Ap
  fr : Bool
def ro : Mk := ⟨.no, false⟩
/-- only a name is kept -/
def mkI (b : Bool) (m : Mk) : Mk := match m.ap with
  | .id k => ⟨.id k, b⟩
  | _ => ⟨.no, b⟩
def skI (m : Mk) : Mk := match m.ap with
  | .id k => ⟨.id k, false⟩
  | _ => ro
theorem mkI_ap (b : Bool) (m : Mk) (k : Nat) : (mkI b m).ap = .id k ↔ m.ap = .id k := by
  obtain ⟨ap, fr⟩ := m
  cases ap <;> simp [mkI]
theorem skI_ap (m : Mk) (k : Nat) : (skI m).ap = .id k ↔ m.ap = .id k := by
  obtain ⟨ap, fr⟩ := m
  cases ap <;> simp [skI, ro]
theorem mkI_fr (b : Bool) (m : Mk) : (mkI b m).fr = b := by
  obtain ⟨ap, fr⟩ := m
  cases ap <;> rfl
theorem skI_fr (m : Mk) : (skI m).fr = false := by
  obtain ⟨ap, fr⟩ := m
  cases ap <;> rfl
@[simp] theorem mkI_ro (b : Bool) : mkI b ro = ⟨.no, b⟩ := rfl
@[simp] theorem mkI_no (b c : Bool) : mkI b ⟨.no, c⟩ = ⟨.no, b⟩ := rfl
@[simp] theorem mkI_nl (b c : Bool) : mkI b ⟨.nl, c⟩ = ⟨.no, b⟩ := rfl
@[simp] theorem mkI_cl (b c : Bool) (k : Nat) : mkI b ⟨.cl k, c⟩ = ⟨.no, b⟩ := rfl
@[simp] theorem mkI_ow (b c : Bool) (k : Nat) : mkI b ⟨.ow k, c⟩ = ⟨.no, b⟩ := rfl
@[simp] theorem mkI_id (b c : Bool) (k : Nat) : mkI b ⟨.id k, c⟩ = ⟨.id k, b⟩ := rfl
@[simp] theorem skI_ro : skI ro = ro := rfl
@[simp] theorem skI_no (c : Bool) : skI ⟨.no, c⟩ = ro := rfl
@[simp] theorem skI_nl (c : Bool) : skI ⟨.nl, c⟩ = ro := rfl
@[simp] theorem skI_cl (c : Bool) (k : Nat) : skI ⟨.cl k, c⟩ = ro := rfl
@[simp] theorem skI_ow (c : Bool) (k : Nat) : skI ⟨.ow k, c⟩ = ro := rfl
@[simp] theorem skI_id (c : Bool) (k : Nat) : skI ⟨.id k, c⟩ = ⟨.id k, false⟩ := rfl
inductive AV where
  | un
  | lit (v : Value)
  | sl (m : Mk) (sz : Nat) (xs : List AV)
  | agg (cs : List AV)
  | tup (cs : List AV)
  | ptr (n i off : Nat)
  | ep (fr : Bool) (cs : List AV)
  | fn (f : Nat) (cs : List AV)
  | bs (n sz len : Nat)
  | hs (sz : Nat) (xs : List AV)
  | hp (cs : List AV)
instance : Inhabited AV := ⟨.un⟩
def AV.cells : AV → List AV
  | .agg cs => cs
  | x => [x]
abbrev Gh := Nat → Nat → Option Value
def Gh.le (G G' : Gh) : Prop := ∀ b o v, G b o = some v → G' b o = some v
/-- the facts of some blocks -/
noncomputable def Gh.rng (S : Nat → Prop) (G : Gh) : Gh := fun b o => @ite _ (S b) (Classical.propDecidable _) (G b o) none
def Gh.from (base : Nat) (G : Gh) : Gh := fun b o => if base ≤ b then G b o else none
/-- A cell's value, or a whole slice, as data. -/
inductive RepD (G : Gh) (N : Nat → Option (Nat × Nat)) : Value → AV → Prop
  | un (v : Value) : RepD G N v .un
  | lit (v : Value) : v.oneCell' = true → RepD G N v (.lit v)
  | sl (A : Option Addr) (n cap : Nat) (m : Mk) (sz : Nat) (xs : List AV) (b o : Nat) (f : Nat → Nat → Value) : n = xs.length → n ≤ cap → (xs ≠ [] → A = some ⟨b, o, none⟩) →
      (∀ (i : Nat) (x : AV), xs[i]? = some x → x.cells.length = sz) →
      (∀ (i : Nat) (x : AV) (j : Nat) (c : AV), xs[i]? = some x → x.cells[j]? = some c → G b (o + i * sz + j) = some (f i j) ∧ (f i j).oneCell' = true) →
      (∀ (i : Nat) (x : AV) (j : Nat) (c : AV), xs[i]? = some x → x.cells[j]? = some c → RepD G N (f i j) c) → (∀ k, m.ap = .id k → xs ≠ [] → N k = some (b, o + xs.length * sz)) → RepD G N (.slice A n cap) (.sl m sz xs)
/-- A slice whose leaves may be written by anyone ('junk'); what its cells hold of slices stays. -/
inductive RepH (G : Gh) (J : Nat → Nat → Prop) : Value → AV → Prop
  | hs (A : Option Addr) (n cap sz : Nat) (xs : List AV) (b o : Nat) (f : Nat → Nat → Value) : n = xs.length → n ≤ cap → (xs ≠ [] → A = some ⟨b, o, none⟩) →
      (∀ (i : Nat) (x : AV), xs[i]? = some x → x.cells.length = sz) →
      (∀ (i : Nat) (x : AV) (j : Nat) (c : AV), xs[i]? = some x → x.cells[j]? = some c → c = .un → J b (o + i * sz + j)) →
      (∀ (i : Nat) (x : AV) (j : Nat) (c : AV), xs[i]? = some x → x.cells[j]? = some c → c ≠ .un → G b (o + i * sz + j) = some (f i j)) →
      (∀ (i : Nat) (x : AV) (j : Nat) (c : AV), xs[i]? = some x → x.cells[j]? = some c → c ≠ .un → RepH G J (f i j) c) → RepH G J (.slice A n cap) (.hs sz xs)
/-- 'bz': the size of an element, and where the row begins; 'rg': the blocks of a label; 'J': the junk cells. -/
structure X where
  G : Gh
  bx : Nat → Nat
  bz : Nat → Nat × Nat
  tl : Nat → Option (Nat × Nat × Nat)
  rg : Nat → Nat → Prop
  J : Nat → Nat → Prop
  rv : Nat → Option Value
  nm : Nat → Option (Nat × Nat)
/-- the block of a name -/
def X.nb (x : X) (k : Nat) : Option Nat := (x.nm k).map (·.1)
/-- The room behind a slice. -/
def Room (x : X) (sz : Nat) (xs : List AV) (v : Value) : Ap → Prop
  | .no => True
  | .nl => ∃ A, v = .slice A 0 0
  | .cl c => (∃ A, v = .slice A 0 0) ∨ ∃ b o n cap, v = .slice (some ⟨b, o, none⟩) n cap ∧ x.tl c = some (b, o + n * sz, o + cap * sz)
  | .ow t => RepD (x.G.rng (x.rg t)) x.nm v (.sl ro sz xs) ∧ (100000 ≤ t → x.rv t = some v)
  | .id _ => True
inductive Rel (x : X) (base : Nat) : Value → AV → Prop
  | un (v : Value) : Rel x base v .un
  | lit (v : Value) : v.oneCell' = true → Rel x base v (.lit v)
  | sl (v : Value) (m : Mk) (sz : Nat) (xs : List AV) : RepD x.G x.nm v (.sl m sz xs) → (m.fr = true → RepD (x.G.from base) x.nm v (.sl m sz xs)) → Room x sz xs v m.ap → Rel x base v (.sl m sz xs)
  | agg (vs : Array Value) (cs : List AV) : vs.size = cs.length → (∀ (j : Nat) (v : Value) (c : AV), vs[j]? = some v → cs[j]? = some c → Rel x base v c) → Rel x base (.agg vs) (.agg cs)
  | tup (vs : Array Value) (cs : List AV) : vs.size = cs.length → (∀ (j : Nat) (v : Value) (c : AV), vs[j]? = some v → cs[j]? = some c → Rel x base v c) → Rel x base (.tuple vs) (.tup cs)
  | ptr (n i off : Nat) : Rel x base (.pointer (some ⟨x.bx n, (x.bz n).2 + i * (x.bz n).1 + off, none⟩)) (.ptr n i off)
  | ep (b o : Nat) (fr : Bool) (cs : List AV) (f : Nat → Value) : (∀ (j : Nat) (c : AV), cs[j]? = some c → x.G b (o + j) = some (f j)) → (∀ (j : Nat) (c : AV), cs[j]? = some c → RepD x.G x.nm (f j) c) →
      (fr = true → ∀ (j : Nat) (c : AV), cs[j]? = some c → RepD (x.G.from base) x.nm (f j) c) → Rel x base (.pointer (some ⟨b, o, none⟩)) (.ep fr cs)
  | fn (f : Nat) (vs : Array Value) (cs : List AV) : vs.size = cs.length → (∀ (j : Nat) (v : Value) (c : AV), vs[j]? = some v → cs[j]? = some c → Rel x base v c) → Rel x base (.func (.func f) #[] vs) (.fn f cs)
  | bs (n sz len cap : Nat) : (x.bz n).1 = sz → len ≤ cap → Rel x base (.slice (some ⟨x.bx n, (x.bz n).2, none⟩) len cap) (.bs n sz len)
  | hs (v : Value) (sz : Nat) (xs : List AV) : RepH x.G x.J v (.hs sz xs) → Rel x base v (.hs sz xs)
  | hp (b o : Nat) (cs : List AV) (f : Nat → Value) : (∀ (j : Nat) (c : AV), cs[j]? = some c → c = .un → x.J b (o + j)) → (∀ (j : Nat) (c : AV), cs[j]? = some c → c ≠ .un → x.G b (o + j) = some (f j) ∧ RepH x.G x.J (f j) c) → Rel x base (.pointer (some ⟨b, o, none⟩)) (.hp cs)
/-- The state: variables, and boxes (each a row of elements). -/
structure AS where
  env : List (Nat × AV)
  bxs : List (Nat × List AV)
def look {α : Type} : List (Nat × α) → Nat → Option α
  | [], _ => none
  | (u, x) :: l, t => if t = u then some x else look l t
def setL {α : Type} (t : Nat) (v : α) : List (Nat × α) → List (Nat × α)
  | [] => [(t, v)]
  | (u, x) :: l => if t < u then (t, v) :: (u, x) :: l else if t = u then (t, v) :: l else (u, x) :: setL t v l
def AS.get (s : AS) (t : Nat) : AV := (look s.env t).getD .un
def AS.put (s : AS) (t : Nat) (v : AV) : AS := ⟨setL t v s.env, s.bxs⟩
def AS.putO (s : AS) : Option Nat → AV → AS
  | some t, v => s.put t v
  | none, _ => s
def AS.setB (s : AS) (n : Nat) (l : List AV) : AS := ⟨s.env, setL n l s.bxs⟩
/-- without marks -/
def strip : AV → AV
  | .sl m sz xs => .sl (skI m) sz xs
  | .agg cs => .agg (stripL cs)
  | .tup cs => .tup (stripL cs)
  | .fn f cs => .fn f (stripL cs)
  | .ep _ cs => .ep false cs
  | x => x
where stripL : List AV → List AV
  | [] => []
  | c :: cs => strip c :: stripL cs
/-- data alone: no pointers, no functions -/
def dat : AV → Bool
  | .un => true
  | .lit _ => true
  | .sl _ _ _ => true
  | .agg cs => datL cs
  | _ => false
where datL : List AV → Bool
  | [] => true
  | c :: cs => dat c && datL cs
/-- all that it reads was made by this call -/
def frA : AV → Bool
  | .un => true
  | .lit _ => true
  | .sl m _ _ => m.fr
  | .agg cs => frL cs
  | .tup cs => frL cs
  | _ => false
where frL : List AV → Bool
  | [] => true
  | c :: cs => frA c && frL cs
/-- a value read out of a row: nobody's to append to; fresh as the row -/
def mkF (b : Bool) : AV → AV
  | .sl m sz xs => .sl (mkI b m) sz xs
  | .agg cs => .agg (mkL b cs)
  | .lit v => .lit v
  | _ => .un
where mkL (b : Bool) : List AV → List AV
  | [] => []
  | c :: cs => mkF b c :: mkL b cs
/-- no class of the label d -/
def noC (d : Nat) : AV → Bool
  | .sl m _ _ => match m.ap with
    | .cl c => c / 64 != d
    | _ => true
  | .agg cs => noL d cs
  | .tup cs => noL d cs
  | .fn _ cs => noL d cs
  | _ => true
where noL (d : Nat) : List AV → Bool
  | [] => true
  | c :: cs => noC d c && noL d cs
/-- no slice of the label d -/
def noW (d : Nat) : AV → Bool
  | .sl m _ _ => match m.ap with
    | .ow k => k != d
    | _ => true
  | .agg cs => noL d cs
  | .tup cs => noL d cs
  | .fn _ cs => noL d cs
  | _ => true
where noL (d : Nat) : List AV → Bool
  | [] => true
  | c :: cs => noW d c && noL d cs
/-- no name of these, wherever -/
def noI (p : Nat → Prop) : AV → Prop
  | .sl m _ xs => (∀ k, m.ap = .id k → ¬ p k) ∧ noIL p xs
  | .agg cs => noIL p cs
  | .tup cs => noIL p cs
  | .ep _ cs => noIL p cs
  | .fn _ cs => noIL p cs
  | _ => True
where noIL (p : Nat → Prop) : List AV → Prop
  | [] => True
  | c :: cs => noI p c ∧ noIL p cs
/-- the class c gets the name k -/
def nam (c k : Nat) : AV → AV
  | .sl m sz xs => match m.ap with
    | .cl d => if d = c then .sl ⟨.id k, m.fr⟩ sz xs else .sl m sz xs
    | _ => .sl m sz xs
  | .agg cs => .agg (namL c k cs)
  | .tup cs => .tup (namL c k cs)
  | .fn f cs => .fn f (namL c k cs)
  | x => x
where namL (c k : Nat) : List AV → List AV
  | [] => []
  | x :: cs => nam c k x :: namL c k cs
def allP {α : Type} (p : α → Prop) : List (Nat × α) → Prop
  | [] => True
  | (_, v) :: l => p v ∧ allP p l
/-- no pointer to box n -/
def noB (n : Nat) : AV → Bool
  | .ptr k _ _ => k != n
  | .bs k _ _ => k != n
  | .agg cs => noL n cs
  | .tup cs => noL n cs
  | .fn _ cs => noL n cs
  | _ => true
where noL (n : Nat) : List AV → Bool
  | [] => true
  | c :: cs => noB n c && noL n cs
/-- the class c is appended to by another: no more room -/
def dem (c : Nat) : AV → AV
  | .sl m sz xs => match m.ap with
    | .cl k => if k = c then .sl ⟨.no, m.fr⟩ sz xs else .sl m sz xs
    | _ => .sl m sz xs
  | .agg cs => .agg (demL c cs)
  | .tup cs => .tup (demL c cs)
  | .fn f cs => .fn f (demL c cs)
  | x => x
where demL (c : Nat) : List AV → List AV
  | [] => []
  | x :: cs => dem c x :: demL c cs
def mapV {α β : Type} (f : α → β) : List (Nat × α) → List (Nat × β)
  | [] => []
  | (t, v) :: l => (t, f v) :: mapV f l
def AS.dem (s : AS) (c : Nat) : AS := ⟨mapV (Vm.dem c) s.env, mapV (dem.demL c) s.bxs⟩
def allV {α : Type} (p : α → Bool) : List (Nat × α) → Bool
  | [] => true
  | (_, v) :: l => p v && allV p l
def AS.noC (s : AS) (d : Nat) : Bool := allV (Vm.noC d) s.env && allV (noC.noL d) s.bxs
def AS.noW (s : AS) (d : Nat) : Bool := allV (Vm.noW d) s.env && allV (noW.noL d) s.bxs
def AS.noI (s : AS) (p : Nat → Prop) : Prop := allP (Vm.noI p) s.env ∧ allP (noI.noIL p) s.bxs
def AS.nam (s : AS) (c k : Nat) : AS := ⟨mapV (Vm.nam c k) s.env, mapV (nam.namL c k) s.bxs⟩
def AS.noB (s : AS) (n : Nat) : Bool := allV (Vm.noB n) s.env && allV (noB.noL n) s.bxs
/-- classes of a result, in the caller's labels; 'b': all arguments were fresh -/
def relab (d : Nat) (b : Bool) : AV → AV
  | .sl m sz xs => .sl ⟨match m.ap with | .cl c => .cl (64 * d + c) | a => a, m.fr || b⟩ sz xs
  | .agg cs => .agg (relabL d b cs)
  | .tup cs => .tup (relabL d b cs)
  | x => x
where relabL (d : Nat) (b : Bool) : List AV → List AV
  | [] => []
  | c :: cs => relab d b c :: relabL d b cs
/-- may stand as a result: data, classes below 64 -/
def resOk : AV → Bool
  | .un => true
  | .lit _ => true
  | .sl m _ _ => match m.ap with
    | .cl c => decide (c < 64)
    | .ow _ => false
    | _ => true
  | .agg cs => resL cs
  | .tup cs => resL cs
  | _ => false
where resL : List AV → Bool
  | [] => true
  | c :: cs => resOk c && resL cs
/-- the boxes that a value points to -/
def ptrs : AV → List Nat
  | .ptr n _ _ => [n]
  | .bs n _ _ => [n]
  | .agg cs => ptrsL cs
  | .fn _ cs => ptrsL cs
  | _ => []
where ptrsL : List AV → List Nat
  | [] => []
  | c :: cs => ptrs c ++ ptrsL cs
/-- a cell's value that may be stored -/
def okC : AV → Bool
  | .un => false
  | .agg _ => false
  | .tup _ => false
  | _ => true
theorem look_setL {α : Type} (t u : Nat) (v : α) (l : List (Nat × α)) : look (setL t v l) u = if u = t then some v else look l u := by
  induction l with
  | nil => simp only [setL, look]
  | cons p l ih =>
    obtain ⟨k, y⟩ := p
    simp only [setL]
    by_cases h1 : t < k
    · rw [if_pos h1]
      simp only [look]
    · rw [if_neg h1]
      by_cases h : t = k
      · subst h
        rw [if_pos rfl]
        simp only [look]
        by_cases hu : u = t
        · rw [if_pos hu, if_pos hu]
        · rw [if_neg hu, if_neg hu, if_neg hu]
      · rw [if_neg h]
        simp only [look]
        by_cases hu : u = k
        · subst hu
          rw [if_pos rfl, if_neg (fun e => h e.symm), if_pos rfl]
        · rw [if_neg hu, if_neg hu]
          exact ih
theorem setL_comm {α : Type} (t u : Nat) (v w : α) (h : t ≠ u) (l : List (Nat × α)) : setL t v (setL u w l) = setL u w (setL t v l) := by
  induction l with
  | nil =>
    simp only [setL]
    by_cases h1 : t < u
    · rw [if_pos h1, if_neg (by omega), if_neg (by omega)]
    · rw [if_neg h1, if_neg h, if_pos (by omega)]
  | cons p l ih =>
    obtain ⟨k, y⟩ := p
    simp only [setL]
    repeat' (first | (split <;> (try simp only [setL])) | rfl | omega)
    all_goals (try omega)
    all_goals (try rw [ih])
    all_goals (repeat' (first | rw [if_pos (by omega)] | rw [if_neg (by omega)]))
    all_goals (try subst_vars)
    all_goals (try rfl)
end Go.Proofs.YticockdhfglolaaGreatDoor.Vm
/- An abstract machine over values: its code, read off the program's, and what the code asks. -/
namespace Go.Proofs.YticockdhfglolaaGreatDoor.Vm
open Go Go.RowKit
set_option linter.unusedVariables false
set_option linter.unusedSimpArgs false
inductive Od where
  | t (n : Nat)
  | c (x : AV)
inductive VK where
  | mv (x : Od)
  | as (x : Od)
  | pick (c a b : Od)
  | bin (op : BinOp) (ty : Nat) (x y : Od)
  | un (op : UnOp) (x : Od)
  | len (str : Bool) (x : Od)
  | idx (x i : Od)
  | ia (sz : Nat) (x i : Od)
  | fa (off : Nat) (x : Od)
  | ld (ag : Bool) (sz : Nat) (x : Od)
  | st (sz : Nat) (a x : Od)
  | box (sz : Nat) (x : Od)
  | alloc (z : AV)
  | bld (z : List AV) (ps : List (Nat × Nat × Od))
  | bsl (sz : Nat) (xs : List Od)
  | slS (x : Od) (lo hi : Option Od)
  | slL (sz : Nat) (x : Od) (lo hi : Option Od)
  | app (sz : Nat) (byt : Nat) (x y : Od)
  | apS (x y : Od)
  | mks (sz : Nat) (byt : Nat) (z : AV) (n : Od)
  | ext (x : Od) (i : Nat)
  | call (q : Bool) (f : Nat) (as : List Od)
  | callv (q : Bool) (x : Od) (as : List Od)
  | mkf (f : Nat) (as : List Od)
  | cvI (k : IntKind) (x : Od)
  | b2s (x : Od)
  | cvS (x : Od)
  | isn (neg : Bool) (x : Od)
  | slM (sz : Nat) (x : Od)
  | mn (x y : Od)
  | bsb (xs : List Od)
structure VO where
  d : Option Nat
  k : VK
  g : Option (Nat × Bool)
inductive VC where
  | skip
  | ret
  | exit (n : Nat)
  | seq (a b : VC)
  | cond (c : Od) (a b : VC)
  | block (n : Nat) (c : VC)
  | loop (c : VC)
  | reg (drw : Bool) (os : List VO) (dr : List Nat)
  | regw (o1 o2 : List VO) (dr : List Nat)
inductive VR where
  | t (n : Nat)
  | b (n : Nat) (ag : Bool) (sz : Nat)
structure VF where
  nt : Nat
  body : VC
  rs : List VR
def AV.ofC : Value → AV
  | .slice none 0 0 => .sl ⟨.nl, true⟩ 1 []
  | v => if v.oneCell' then .lit v else .un
def AV.ofV : Value → AV
  | .agg cs => .agg (cs.toList.map AV.ofC)
  | v => AV.ofC v
def od : Operand → Option Od
  | .tmp t => if t < 1000000000000 then some (.t t) else none
  | .const v => some (.c (AV.ofV v))
  | .func f => some (.c (.fn f []))
  | .global _ => none
def ods : List Operand → Option (List Od)
  | [] => some []
  | x :: l => (od x).bind fun a => (ods l).bind fun r => some (a :: r)
def szOf (P : Program) (t : TypeId) : Option Nat := (P.info? t).map (·.size)
def agOf (P : Program) (t : TypeId) : Option Bool := (P.underlying t).map fun | .struct _ => true | .array _ _ => true | _ => false
def elOf (P : Program) (t : TypeId) : Option TypeId := (P.underlying t).bind fun | .slice e => some e | _ => none
def zeroOf (P : Program) (t : TypeId) : Option Value := (P.info? t).bind (·.zero)
def twoStr (P : Program) (t : TypeId) : Bool := match P.underlying t with
  | some (.struct fs) => match fs.toList with
    | [a, b] => (a.offset == 0) && (b.offset == 1) && a.name != "_" && b.name != "_" && (match P.underlying a.type, P.underlying b.type with | some .string, some .string => true | _, _ => false) && !P.stoodInHeld t && !P.eqGuardType P.depth t
    | _ => false
  | _ => false
def boolT (P : Program) (t : TypeId) : Bool := match P.underlying t with | some .bool => true | _ => false
def places (P : Program) : List Field → Option (List (Nat × Nat))
  | [] => some []
  | f :: l => (szOf P f.type).bind fun s => (places P l).bind fun r => some ((f.offset, s) :: r)
def bparts (pl : List (Nat × Nat)) : List (Nat × Operand) → Option (List (Nat × Nat × Od))
  | [] => some []
  | (i, x) :: l => (pl[i]?).bind fun p => (od x).bind fun a => (bparts pl l).bind fun r => some ((p.1, p.2, a) :: r)
def sparts (i : Nat) : List (Nat × Operand) → Option (List Od)
  | [] => some []
  | (j, x) :: l => if j = i then (od x).bind fun a => (sparts (i + 1) l).bind fun r => some (a :: r) else none
def oo : Option Operand → Option (Option Od)
  | none => some none
  | some x => (od x).bind fun a => some (some a)
def strT (P : Program) (t : TypeId) : Bool := match P.underlying t with | some .string => true | _ => false
def fnOk (P : Program) (f : Nat) : Bool := ((P.funcs[f]?).map fun fn => fn.body.isSome && fn.name != "runtime.NumGoroutine").getD false
/-- a slice is compared with nil: 'true' for 'is not' -/
def nilC (P : Program) (op : BinOp) (t : TypeId) : Operand → Option Bool
  | .const (.slice none 0 0) => if (elOf P t).isSome then (match op with | .eql => some false | .neq => some true | _ => none) else none
  | _ => none
/-- two whole numbers or more, told ahead: a row that is written into -/
def bsbOk (xs : List Od) : Bool := decide (2 ≤ xs.length) && xs.all fun x => match x with
  | .c (.lit (.int .i64 _)) => true
  | _ => false
def cOp (P : Program) (q : Bool) : Op → Option VK
  | .move x => (od x).bind fun a => some (.mv a)
  | .assign x => (od x).bind fun a => some (.as a)
  | .pick c a b => (od c).bind fun c => (od a).bind fun a => (od b).bind fun b => some (.pick c a b)
  | .binOp op t x y _ => (nilC P op t y).elim ((od x).bind fun x => (od y).bind fun y => some (.bin op (if twoStr P t then 1 else if boolT P t then 2 else 0) x y)) fun neg => (od x).bind fun x => some (.isn neg x)
  | .unOp op _ x => (od x).bind fun x => some (.un op x)
  | .index t x i => if strT P t then (od x).bind fun x => (od i).bind fun i => some (.idx x i) else none
  | .indexAddr t x i => (elOf P t).bind fun e => (szOf P e).bind fun s => (od x).bind fun x => (od i).bind fun i => some (.ia s x i)
  | .fieldAddr t x f => match P.underlying t with
    | some (.struct fs) => (fs[f]?).bind fun f => (szOf P f.type).bind fun z => if z = 0 then none else (od x).bind fun x => some (.fa f.offset x)
    | _ => none
  | .nilCheck x => (od x).bind fun x => some (.fa 0 x)
  | .load t x => (agOf P t).bind fun a => (szOf P t).bind fun s => (od x).bind fun x => some (.ld a s x)
  | .store t a x => (szOf P t).bind fun s => (od a).bind fun a => (od x).bind fun x => some (.st s a x)
  | .box t x => (szOf P t).bind fun s => (od x).bind fun x => some (.box s x)
  | .alloc t => (zeroOf P t).bind fun z => some (.alloc (AV.ofV z))
  | .build t ps => match P.underlying t with
    | some (.struct fs) => (zeroOf P t).bind fun z => (places P fs.toList).bind fun pl => (bparts pl ps.toList).bind fun ps => some (.bld (AV.ofV z).cells ps)
    | _ => none
  | .buildSlice t n ps => (elOf P t).bind fun e => (szOf P e).bind fun s => (sparts 0 ps.toList).bind fun xs => if xs.length = n ∧ n ≤ 64 ∧ 0 < s ∧ s ≤ 1024 ∧ (zeroOf P e).isSome = true then (if s = 1 ∧ bsbOk xs = true then some (.bsb xs) else some (.bsl s xs)) else none
  | .slice t x lo hi mx => match mx with
    | some _ => none
    | none => (od x).bind fun x => (oo lo).bind fun lo => (oo hi).bind fun hi => match P.underlying t with
      | some .string => some (.slS x lo hi)
      | some (.slice e) => (szOf P e).bind fun s => some (.slL s x lo hi)
      | _ => none
  | .makeSlice t n c => match n, c with
    | .tmp i, .tmp j => if i = j ∧ i < 1000000000000 then (elOf P t).bind fun e => (P.info? e).bind fun i' => (i'.zero).bind fun z => if z.cells.size = i'.size ∧ 0 < i'.size then some (.mks i'.size i'.bytes (AV.ofV z) (.t i)) else none else none
    | _, _ => none
  | .extract x i => (od x).bind fun x => some (.ext x i)
  | .makeFunc fn first cap => match fn, first.toList with
    | .func f, [] => (ods cap.toList).bind fun l => some (.mkf f l)
    | _, _ => none
  | .convert s t x => (od x).bind fun x => match P.underlying s, P.underlying t with
    | some (.int _), some (.int k) => some (.cvI k x)
    | some .string, some .string => some (.cvS x)
    | some (.slice e), some .string => match P.underlying e with
      | some (.int .u8) => some (.b2s x)
      | _ => none
    | _, _ => none
  | .call c => match c.callee with
    | .builtin .len => match c.args.toList with
      | [x] => (c.argTypes[0]?).bind fun t => (od x).bind fun x => if strT P t then some (.len true x) else if (elOf P t).isSome then some (.len false x) else none
      | _ => none
    | .builtin .append => match c.args.toList with
      | [x, y] => (c.argTypes[0]?).bind fun t => (c.argTypes[1]?).bind fun t2 => (elOf P t).bind fun e => (P.info? e).bind fun i => (i.zero).bind fun z => (od x).bind fun x => (od y).bind fun y =>
        if z.cells.size = i.size ∧ 0 < i.size ∧ 0 < i.bytes ∧ (elOf P t2).isSome then some (.app i.size i.bytes x y) else if z.cells.size = i.size ∧ i.size = 1 ∧ i.bytes = 1 ∧ strT P t2 = true then some (.apS x y) else none
      | _ => none
    | .builtin .min => match c.args.toList with
      | [x, y] => (od x).bind fun x => (od y).bind fun y => some (.mn x y)
      | _ => none
    | .value (.func f) => if fnOk P f then (ods c.args.toList).bind fun l => some (.call q f l) else none
    | .value x => (od x).bind fun x => (ods c.args.toList).bind fun l => some (.callv q x l)
    | _ => none
  | _ => none
def dOk (nt : Nat) : Option Nat → Bool
  | some d => decide (d < nt)
  | none => true
def cReg (P : Program) (q : Bool) (nt : Nat) (ops : Array Oper) : List Oper → Option (List VO)
  | [] => some []
  | o :: l => (cOp P q o.op).bind fun k => (cReg P q nt ops l).bind fun r =>
    if dOk nt o.dst = true then
      match o.guard with
      | none => some (⟨o.dst, k, none⟩ :: r)
      | some (j, w) => match (ops[j]?).bind (·.dst) with
        | some t => if t < 1000000000000 then some (⟨o.dst, k, some (t, w)⟩ :: r) else none
        | none => none
    else none
/-- the temporaries that an operation looks at -/
def odT : Od → List Nat
  | .t n => [n]
  | .c _ => []
def VK.looks : VK → List Nat
  | .mv x | .as x | .un _ x | .len _ x | .fa _ x | .ld _ _ x | .box _ x | .mks _ _ _ x | .ext x _ | .cvI _ x | .b2s x | .cvS x | .isn _ x | .slM _ x => odT x
  | .pick c a b => odT c ++ odT a ++ odT b
  | .bin _ _ x y | .idx x y | .ia _ x y | .st _ x y | .app _ _ x y | .mn x y | .apS x y => odT x ++ odT y
  | .alloc _ => []
  | .bld _ ps => ps.flatMap fun p => odT p.2.2
  | .bsl _ xs | .bsb xs | .call _ _ xs | .mkf _ xs => xs.flatMap odT
  | .callv _ x xs => odT x ++ xs.flatMap odT
  | .slS x lo hi | .slL _ x lo hi => odT x ++ (lo.toList.flatMap odT) ++ (hi.toList.flatMap odT)
def cCode (P : Program) (nt : Nat) (chk : Array Oper → List VO → Bool) (dr : Nat → List Nat) : Code → Option VC
  | .skip => some .skip
  | .ret => some .ret
  | .exit n => some (.exit n)
  | .seq a b => (cCode P nt chk dr a).bind fun a => (cCode P nt chk dr b).bind fun b => some (.seq a b)
  | .cond c a b => (od c).bind fun c => (cCode P nt chk dr a).bind fun a => (cCode P nt chk dr b).bind fun b => some (.cond c a b)
  | .block n c => (cCode P nt chk dr c).bind fun c => some (.block n c)
  | .loop c => (cCode P nt chk dr c).bind fun c => some (.loop c)
  | .region id ops draw => (cReg P draw nt ops ops.toList).bind fun os => if draw = false ∨ chk ops os = true then some (if draw then .reg draw os (dr id) else match (dr id).find? (fun k => decide (1000000 ≤ k)) with | some k => .regw (os.take (k - 1000000)) (os.drop (k - 1000000)) (dr id) | none => .reg draw os (dr id)) else none
  | _ => none
def cRes (P : Program) : List ResultVar → Option (List VR)
  | [] => some []
  | .tmp t :: l => if t < 1000000000000 then (cRes P l).bind fun r => some (.t t :: r) else none
  | .cell a t :: l => if ¬ a < 1000000000000 then none else (agOf P t).bind fun g => (szOf P t).bind fun s => (cRes P l).bind fun r => some (.b a g s :: r)
/-! what the code asks -/
structure Env where
  P : Program
  K : World → Prop
  ng : Nat
  hK : ∀ w w', w.heap.size ≤ w'.heap.size → (∀ k, k < ng → w'.heap[k]? = w.heap[k]?) → K w → K w'
  hg : ∀ w, K w → ng ≤ w.heap.size
  mixed : P.follows .mixedOrders = true
/-- 'nk': the names that a function may give -/
structure EnvK extends Env where
  nk : Nat → Prop
instance : CoeOut EnvK Env := ⟨EnvK.toEnv⟩
@[reducible] def Env.pl (E : Env) : EnvK := { toEnv := E, nk := fun _ => False }
/-- What holds of the names: each stands for a block of its own, that no class, box or label has. -/
structure NmOk (K : Nat → Prop) (x0 : X) (base : Nat) (x : X) (hs : Nat) (B : List (Nat × List AV)) : Prop where
  ka : ∀ k, ¬ K k → x.nm k = x0.nm k
  fa : ∀ k b, K k → x.nb k = some b → base ≤ b
  ia : ∀ k k' b, x.nb k = some b → x.nb k' = some b → k = k'
  ba : ∀ k b, x.nb k = some b → b < hs
  ta : ∀ k c b e t, x.tl c = some (b, e, t) → x.nb k ≠ some b
  xa : ∀ k n l, look B n = some l → x.nb k ≠ some (x.bx n)
  ra : ∀ k T b, x.rg T b → x.nb k ≠ some b
  qa : ∀ T b c e t, x.tl c = some (b, e, t) → ¬ x.rg T b
  za : ∀ b, x.rg 0 b → b < base
def Fr (base : Nat) (S : Nat → Prop) (w w' : World) : Prop :=
  w'.os = w.os ∧ w'.tape = w.tape ∧ w'.output = w.output ∧ w.heap.size ≤ w'.heap.size ∧ ∀ k, k < base → ¬ S k → w'.heap[k]? = w.heap[k]?
def Agree (G : Gh) (w : World) : Prop := ∀ b o v, G b o = some v → ∃ c ty fz, w.heap[b]? = some (.cells c ty fz) ∧ c[o]? = some v
def BoxAt (x : X) (base : Nat) (w : World) (n : Nat) (l : List AV) : Prop :=
  ∃ vals ty, w.heap[x.bx n]? = some (.cells vals ty (0, 0)) ∧ (x.bz n).2 + l.length * (x.bz n).1 ≤ vals.size ∧ 0 < (x.bz n).1 ∧
    ∀ i e, l[i]? = some e → e.cells.length = (x.bz n).1 ∧ ∀ j c, e.cells[j]? = some c → okC c = true ∧ ∃ v, vals[(x.bz n).2 + i * (x.bz n).1 + j]? = some v ∧ v.oneCell' = true ∧ Rel x base v c
def Tails (x : X) (base : Nat) (w : World) : Prop :=
  (∀ c b e t, x.tl c = some (b, e, t) → base ≤ b ∧ (∃ vals ty, w.heap[b]? = some (.cells vals ty (0, 0)) ∧ t ≤ vals.size) ∧ ∀ o, e ≤ o → x.G b o = none) ∧
  ∀ c c' b e t e' t', x.tl c = some (b, e, t) → x.tl c' = some (b, e', t') → c = c'
def JOk (J : Nat → Nat → Prop) (w : World) : Prop := ∀ b o, J b o → ∃ vals ty, w.heap[b]? = some (.cells vals ty (0, 0)) ∧ o < vals.size
/-- blocks made since then of which something is known were never shut -/
def New00 (G : Gh) (base : Nat) (w : World) : Prop := ∀ b o v c ty fz, base ≤ b → G b o = some v → w.heap[b]? = some (.cells c ty fz) → fz = (0, 0)
/-- the blocks that a function may write: its boxes and the junk -/
def SBx (pb : Nat) (x : X) (k : Nat) : Prop := (∃ n, n < pb ∧ k = x.bx n) ∨ ∃ o, x.J k o
def JPre (ng pb : Nat) (x : X) (w : World) : Prop := JOk x.J w ∧ (∀ b o, x.J b o → ng ≤ b ∧ x.G b o = none ∧ ∀ n, n < pb → x.bx n ≠ b) ∧ ∀ t b, ¬ x.rg t b
/-- What a function's names are at its start, and at its end. -/
def NmPre (K : Nat → Prop) (pb : Nat) (x : X) (w : World) : Prop :=
  (∀ k, K k → x.nm k = none) ∧ (∀ k k' b, x.nb k = some b → x.nb k' = some b → k = k') ∧ ∀ k b, x.nb k = some b → b < w.heap.size ∧ ∀ n, n < pb → x.bx n ≠ b
def NmPost (K : Nat → Prop) (x x' : X) (w w' : World) : Prop :=
  (∀ k, ¬ K k → x'.nm k = x.nm k) ∧ (∀ k b, K k → x'.nb k = some b → w.heap.size ≤ b ∧ b < w'.heap.size) ∧ (∀ k k' b, x'.nb k = some b → x'.nb k' = some b → k = k') ∧ ∀ k c b e t, x'.tl c = some (b, e, t) → x'.nb k ≠ some b
/-- A function's contract: called with these values (and these boxes), it returns that (and leaves the boxes so); it may give names of 'K'. -/
def FxK (E : Env) (K : Nat → Prop) (f : Nat) (bx : List (List AV)) (args : List AV) (bx' : List (List AV)) (r : AV) : Prop :=
  bx'.length = bx.length ∧ resOk r = true ∧
  ∀ (x : X) (w : World) (vs : Array Value), E.K w → (∀ c, x.tl c = none) → (∀ n, n < bx.length → E.ng ≤ x.bx n) → JPre E.ng bx.length x w → vs.size = args.length → (∀ (i : Nat) (v : Value) (c : AV), vs[i]? = some v → args[i]? = some c → Rel x w.heap.size v c) → Agree x.G w →
    (∀ (n : Nat) (l : List AV), bx[n]? = some l → BoxAt x w.heap.size w n l ∧ ∀ o, x.G (x.bx n) o = none) → (∀ n m, n < bx.length → m < bx.length → x.bx n = x.bx m → n = m) → NmPre K bx.length x w →
    Calls E.P f vs w fun e w' => ∃ v x', e = .returned v ∧ Rel x' w.heap.size v r ∧ x.G.le x'.G ∧ (∀ b o v, x'.G b o = some v → b < w.heap.size → x.G b o = some v) ∧ Agree x'.G w' ∧
      Fr w.heap.size (SBx bx.length x) w w' ∧ (∀ n, n < bx.length → x'.bx n = x.bx n ∧ x'.bz n = x.bz n) ∧
      (∀ (n : Nat) (l : List AV), bx'[n]? = some l → BoxAt x' w.heap.size w' n l ∧ ∀ o, x'.G (x.bx n) o = none) ∧ Tails x' w.heap.size w' ∧ JOk x.J w' ∧ New00 x'.G w.heap.size w' ∧ NmPost K x x' w w'
def Fx (E : Env) (f : Nat) (bx : List (List AV)) (args : List AV) (bx' : List (List AV)) (r : AV) : Prop := FxK E (fun _ => False) f bx args bx' r
/-- the bytes of a text, as a row -/
def bytesV (s : ByteArray) : List AV := s.data.toList.map fun b : UInt8 => .lit (.int .u8 b.toNat)
def AS.val (s : AS) : Od → AV
  | .t n => s.get n
  | .c x => x
def AS.vals (s : AS) : List Od → List AV
  | [] => []
  | x :: l => s.val x :: s.vals l
def bt (s : ByteArray) (i : Nat) : UInt8 := s.data.toList.getD i 0
def binI (op : BinOp) (k : IntKind) (a : Int) (k' : IntKind) (b : Int) : Option Value :=
  match op with
  | .shl => if b < 0 then none else some (.int k (k.wrap (a * 2 ^ (min b.toNat k.bits))))
  | .shr => if b < 0 then none else some (.int k (a.fdiv (2 ^ (min b.toNat k.bits))))
  | op => if k = k' then match op with
    | .add => some (.int k (k.wrap (a + b)))
    | .sub => some (.int k (k.wrap (a - b)))
    | .mul => some (.int k (k.wrap (a * b)))
    | .quo => if b = 0 then none else some (.int k (k.wrap (a.tdiv b)))
    | .rem => if b = 0 then none else some (.int k (a.tmod b))
    | .and => some (.int k (k.wrap (BitVec.ofInt k.bits a &&& BitVec.ofInt k.bits b).toNat))
    | .or => some (.int k (k.wrap (BitVec.ofInt k.bits a ||| BitVec.ofInt k.bits b).toNat))
    | .xor => some (.int k (k.wrap (BitVec.ofInt k.bits a ^^^ BitVec.ofInt k.bits b).toNat))
    | .eql => some (.bool (decide (a = b)))
    | .neq => some (.bool (decide (a ≠ b)))
    | .lss => some (.bool (decide (a < b)))
    | .leq => some (.bool (decide (a ≤ b)))
    | .gtr => some (.bool (decide (a > b)))
    | .geq => some (.bool (decide (a ≥ b)))
    | _ => none
    else none
def slt (a b : ByteArray) : Bool := Op.bytesLess a.toList b.toList
def binS (op : BinOp) (a b : ByteArray) : Option Value :=
  match op with
  | .add => if a.size + b.size ≤ 9223372036854775807 then some (.string (a ++ b)) else none
  | .eql => some (.bool (decide (a = b)))
  | .neq => some (.bool (decide (a ≠ b)))
  | .lss => some (.bool (slt a b))
  | .leq => some (.bool (slt a b || decide (a = b)))
  | .gtr => some (.bool (!(slt a b || decide (a = b))))
  | .geq => some (.bool (!slt a b))
  | _ => none
def binV (op : BinOp) (ty : Nat) : AV → AV → Option Value
  | .lit (.int k a), .lit (.int k' b) => binI op k a k' b
  | .lit (.string a), .lit (.string b) => binS op a b
  | .lit (.bool a), .lit (.bool b) => if ty = 2 then match op with
    | .eql => some (.bool (a == b))
    | .neq => some (.bool (!(a == b)))
    | _ => none else none
  | .agg [.lit (.string a), .lit (.string b)], .agg [.lit (.string c), .lit (.string d)] => if ty = 1 then match op with
    | .eql => some (.bool (decide (a = c) && decide (b = d)))
    | .neq => some (.bool (!(decide (a = c) && decide (b = d))))
    | _ => none else none
  | _, _ => none
def unV (op : UnOp) : AV → Option Value
  | .lit (.bool a) => match op with
    | .not => some (.bool (!a))
    | _ => none
  | .lit (.int k a) => match op with
    | .neg => some (.int k (k.wrap (0 - a)))
    | _ => none
  | _ => none
def lenV : Bool → AV → Option Int
  | true, .lit (.string s) => some s.size
  | false, .sl _ _ xs => some xs.length
  | false, .bs _ _ n => some n
  | false, .hs _ xs => some xs.length
  | _, _ => none
def isUn : AV → Bool
  | .un => true
  | _ => false
def upd {α : Type} (l : List α) (off : Nat) (v : List α) : List α := l.take off ++ v ++ l.drop (off + v.length)
def fill (z : List AV) : List (Nat × Nat × AV) → Option (List AV)
  | [] => some z
  | (off, n, x) :: ps => if x.cells.length = n ∧ off + n ≤ z.length then fill (upd z off x.cells) ps else none
def pvals (s : AS) : List (Nat × Nat × Od) → List (Nat × Nat × AV)
  | [] => []
  | (o, n, x) :: l => (o, n, s.val x) :: pvals s l
/-- bounds of a cut: 'lo' and 'hi' of a length -/
def cutB (s : AS) (n : Nat) (lo hi : Option Od) : Option (Nat × Nat) :=
  match (match hi with | none => some n | some h => match s.val h with | .lit (.int _ i) => if 0 ≤ i ∧ i ≤ n then some i.toNat else none | _ => none) with
  | none => none
  | some h => match lo with
    | none => some (0, h)
    | some l => match s.val l with
      | .lit (.int _ i) => if 0 ≤ i ∧ i ≤ h then some (i.toNat, h) else none
      | _ => none
def isNone {α : Type} : Option α → Bool
  | none => true
  | some _ => false
def putElem (e : AV) (off : Nat) (x : AV) : AV := match e with
  | .agg cs => .agg (upd cs off x.cells)
  | _ => x
def renB (ns : List Nat) (n : Nat) : Nat := ns.findIdx (· == n)
def ren (ns : List Nat) : AV → AV
  | .ptr n i o => .ptr (renB ns n) i o
  | .bs n sz l => .bs (renB ns n) sz l
  | .agg cs => .agg (renL ns cs)
  | .fn f cs => .fn f (renL ns cs)
  | x => x
where renL (ns : List Nat) : List AV → List AV
  | [] => []
  | c :: cs => ren ns c :: renL ns cs
def dd : List Nat → List Nat
  | [] => []
  | n :: ns => n :: (dd ns).filter (fun m => m != n)
def bxsOf (s : AS) : List Nat → Option (List (List AV))
  | [] => some []
  | n :: ns => (look s.bxs n).bind fun l => (bxsOf s ns).bind fun r => some (l :: r)
def setBs (s : AS) : List Nat → List (List AV) → AS
  | n :: ns, l :: ls => setBs (s.setB n l) ns ls
  | _, _ => s
def argOk : AV → Bool
  | .ptr _ _ _ => true
  | .bs _ _ _ => true
  | .hs _ _ => true
  | .fn _ cs => argL cs
  | .agg cs => dat.datL cs || argL cs
  | .tup _ => false
  | .ep _ _ => false
  | x => dat x
where argL : List AV → Bool
  | [] => true
  | c :: cs => argOk c && argL cs
def vcall (E : EnvK) (q : Bool) (s : AS) (d : Option Nat) (f : Nat) (vs : List AV) (Q : AS → Prop) : Prop :=
  argOk.argL vs = true ∧ (q = true → (dd (ptrs.ptrsL vs)) = []) ∧ ∃ t, d = some t ∧ (s.putO d .un).noC t = true ∧
  ∃ bs, bxsOf s (dd (ptrs.ptrsL vs)) = some bs ∧ bs.all dat.datL = true ∧ ∃ bs' r, Fx E f (bs.map strip.stripL) (ren.renL (dd (ptrs.ptrsL vs)) (strip.stripL vs)) bs' r ∧ bs'.all (fun l => resOk.resL l && dat.datL l) = true ∧
    Q ((setBs s (dd (ptrs.ptrsL vs)) (bs'.map (relab.relabL t false))).put t (relab t (frA.frL vs) r))
/-- what a temporary holds; behind all temporaries: what the caller keeps -/
def rd (x0 : X) (a : Act) (t : Nat) : Value := if t < 1000000000000 then a.tmps.getD t undef else (x0.rv t).getD undef
structure St (E : EnvK) (x0 : X) (w0 : World) (pb nt : Nat) (x : X) (a : Act) (w : World) (s : AS) : Prop where
  df : a.defers = []
  ntl : nt ≤ 1000000000000
  nt : a.tmps.size = nt
  env : ∀ t, Rel x w0.heap.size (rd x0 a t) (s.get t)
  k : E.K w0
  fr : Fr w0.heap.size (SBx pb x0) w0 w
  ag : Agree x.G w
  g1 : x0.G.le x.G
  g2 : ∀ b o v, x.G b o = some v → b < w0.heap.size → x0.G b o = some v
  pbx : ∀ n, n < pb → x.bx n = x0.bx n ∧ x.bz n = x0.bz n
  pbl : pb ≤ 1000000000000
  bxs : ∀ n l, look s.bxs n = some l → BoxAt x w0.heap.size w n l ∧ (n < pb ∨ w0.heap.size ≤ x.bx n) ∧ ∀ o, x.G (x.bx n) o = none
  inj : ∀ n m l l', look s.bxs n = some l → look s.bxs m = some l' → x.bx n = x.bx m → n = m
  tl : Tails x w0.heap.size w
  tlb : ∀ c b e t, x.tl c = some (b, e, t) → ∀ n l, look s.bxs n = some l → x.bx n ≠ b
  jp : JOk x0.J w
  j0 : ∀ b o, x0.J b o → b < w0.heap.size ∧ E.ng ≤ b ∧ x0.G b o = none ∧ ∀ n, n < pb → x0.bx n ≠ b
  jx : x.J = x0.J
  uf : New00 x.G w0.heap.size w
  rgb : ∀ t b, x.rg t b → b < w.heap.size ∧ (t ≠ 0 → w0.heap.size ≤ b)
  rgd : ∀ t t' b, x.rg t b → x.rg t' b → t = t'
  g0 : ∀ b o v, x0.G b o = some v → b < w0.heap.size
  no : NmOk E.nk x0 w0.heap.size x w.heap.size s.bxs
/-- what was not known is still not known, but for the place written; no box comes up elsewhere -/
def Keep (s s' : AS) (d : Option Nat) : Prop := (∀ t, d ≠ some t → s.get t = .un → s'.get t = .un) ∧ ∀ t, d ≠ some t → look s.bxs (1000000000000 + t) = none → look s'.bxs (1000000000000 + t) = none
/-- A call told by its meaning alone. -/
def VRaw (E : EnvK) (s : AS) (d : Option Nat) (f : Nat) (vs : List AV) (Q : AS → Prop) : Prop :=
  ∀ (x0 : X) (w0 : World) (pb nt : Nat) (x : X) (a : Act) (w : World), St E x0 w0 pb nt x a w s → (∀ n, n < pb → E.ng ≤ x0.bx n) → (∀ t, d = some t → t < nt) → ∀ args : Array Value, args.size = vs.length →
    (∀ (i : Nat) (v : Value) (c : AV), args[i]? = some v → vs[i]? = some c → Rel x w0.heap.size v c) → Calls E.P f args w fun e w' => ∃ v x' s', e = .returned v ∧ Q s' ∧ Keep s s' d ∧ St E x0 w0 pb nt x' (a.put d v) w' s'
/-- the names in a result are new ones, or those of the arguments; and each new one comes up in it -/
def idc (K : Nat → Prop) (vs : List AV) (r : AV) : Prop := (∀ p : Nat → Prop, noI.noIL p vs → (∀ k, K k → ¬ p k) → noI p r) ∧ ∀ p : Nat → Prop, noI p r → ∀ k, K k → ¬ p k
/-- A call in a region with drawn orders, whose result may bear new names. -/
def vcallN (E : EnvK) (s : AS) (d : Option Nat) (f : Nat) (vs : List AV) (Q : AS → Prop) : Prop :=
  argOk.argL vs = true ∧ dd (ptrs.ptrsL vs) = [] ∧ ∃ t, d = some t ∧ (s.putO d .un).noC t = true ∧ ∃ K y, (∀ k, K k → E.nk k) ∧ (s.putO d .un).noI K ∧ noI.noIL K vs ∧ idc K vs y ∧ FxK E K f [] (ren.renL [] (strip.stripL vs)) [] y ∧ Q (s.put t (relab t (frA.frL vs) y))
def vcall2 (E : EnvK) (q : Bool) (s : AS) (d : Option Nat) (f : Nat) (vs : List AV) (Q : AS → Prop) : Prop := (vcall E q s d f vs Q ∧ (q = true → ∀ k, ¬ E.nk k)) ∨ (q = false ∧ VRaw E s d f vs Q) ∨ (q = true ∧ vcallN E s d f vs Q)
def vact (E : EnvK) (s : AS) (d : Option Nat) (Q : AS → Prop) : VK → Prop
  | .mv x => Q (s.putO d (s.val x))
  | .as x => Q (s.putO d (s.val x))
  | .pick c a b => ∃ t, s.val c = .lit (.bool t) ∧ Q (s.putO d (if t then s.val a else s.val b))
  | .bin op ty x y => ∃ v, binV op ty (s.val x) (s.val y) = some v ∧ Q (s.putO d (.lit v))
  | .un op x => ∃ v, unV op (s.val x) = some v ∧ Q (s.putO d (.lit v))
  | .len b x => ∃ n, lenV b (s.val x) = some n ∧ Q (s.putO d (.lit (.int .i64 n)))
  | .idx x i => ∃ b k j, s.val x = .lit (.string b) ∧ s.val i = .lit (.int k j) ∧ 0 ≤ j ∧ j < b.size ∧ Q (s.putO d (.lit (.int .u8 (bt b j.toNat).toNat)))
  | .ia sz x i => ∃ k j, s.val i = .lit (.int k j) ∧ 0 ≤ j ∧ (match s.val x with
    | .sl m z xs => z = sz ∧ ∃ e, xs[j.toNat]? = some e ∧ Q (s.putO d (.ep m.fr e.cells))
    | .bs n z l => z = sz ∧ j < l ∧ Q (s.putO d (.ptr n j.toNat 0))
    | .hs z xs => z = sz ∧ ∃ e, xs[j.toNat]? = some e ∧ Q (s.putO d (.hp e.cells))
    | _ => False)
  | .fa off x => (match s.val x with
    | .ep fr cs => off ≤ cs.length ∧ Q (s.putO d (.ep fr (cs.drop off)))
    | .ptr n i o => Q (s.putO d (.ptr n i (o + off)))
    | .hp cs => off ≤ cs.length ∧ Q (s.putO d (.hp (cs.drop off)))
    | _ => False)
  | .ld ag sz x => (match s.val x with
    | .ep fr cs => if ag then sz ≤ cs.length ∧ Q (s.putO d (.agg (mkF.mkL fr (cs.take sz)))) else ∃ c, cs[0]? = some c ∧ Q (s.putO d (mkF fr c))
    | .ptr n i o => ∃ l e, look s.bxs n = some l ∧ l[i]? = some e ∧ (if ag then o + sz ≤ e.cells.length ∧ Q (s.putO d (.agg ((e.cells.drop o).take sz))) else ∃ c, e.cells[o]? = some c ∧ Q (s.putO d c))
    | .hp cs => ag = false ∧ ∃ z ys, cs[0]? = some (.hs z ys) ∧ Q (s.putO d (.hs z ys))
    | _ => False)
  | .st sz a x => (∃ n i o, s.val a = .ptr n i o ∧ ∃ l e, look s.bxs n = some l ∧ l[i]? = some e ∧ 0 < sz ∧ (s.val x).cells.length = sz ∧ o + sz ≤ e.cells.length ∧ (s.val x).cells.all okC = true ∧
      Q ((s.setB n (l.set i (putElem e o (s.val x)))).putO d .un)) ∨
      ∃ c cs, s.val a = .hp (c :: cs) ∧ isUn c = true ∧ sz = 1 ∧ (s.val x).cells.length = 1 ∧ (s.val x).cells.all okC = true ∧ Q (s.putO d .un)
  | .box sz x => ∃ t, d = some t ∧ (s.val x).cells.length = sz ∧ 0 < sz ∧ (s.val x).cells.all okC = true ∧ (s.putO d .un).noB (1000000000000 + t) = true ∧ noB (1000000000000 + t) (s.val x) = true ∧ Q ((s.setB (1000000000000 + t) [s.val x]).put t (.ptr (1000000000000 + t) 0 0))
  | .alloc z => ∃ t, d = some t ∧ 0 < z.cells.length ∧ z.cells.all okC = true ∧ (s.putO d .un).noB (1000000000000 + t) = true ∧ noB (1000000000000 + t) z = true ∧ Q ((s.setB (1000000000000 + t) [z]).put t (.ptr (1000000000000 + t) 0 0))
  | .bld z ps => (pvals s ps).all (fun p => p.2.2.cells.all okC) = true ∧ ∃ cs, fill z (pvals s ps) = some cs ∧ Q (s.putO d (.agg cs))
  | .bsl sz xs => ∃ t, d = some t ∧ (s.putO d .un).noC t = true ∧ (s.vals xs).all (fun x => decide (x.cells.length = sz) && dat x && x.cells.all okC) = true ∧ Q (s.put t (.sl ⟨.cl (64 * t), frA.frL (s.vals xs)⟩ sz (strip.stripL (s.vals xs))))
  | .slS x lo hi => ∃ b, s.val x = .lit (.string b) ∧ ∃ l h, cutB s b.size lo hi = some (l, h) ∧ Q (s.putO d (.lit (.string (b.extract l h))))
  | .slL sz x lo hi => ∃ m z xs, s.val x = .sl m z xs ∧ (z = sz ∨ xs = []) ∧ ∃ l h, cutB s xs.length lo hi = some (l, h) ∧ Q (s.putO d (.sl ⟨if isNone hi then noOw m.ap else .no, m.fr⟩ z ((xs.take h).drop l)))
  | .app sz byt x y => ∃ m z xs, s.val x = .sl m z xs ∧ ∃ m2 z2 ys, s.val y = .sl m2 z2 ys ∧ (z = sz ∨ xs = []) ∧ (z2 = sz ∨ ys = []) ∧ (xs.length + ys.length) * byt ≤ 70368744177664 ∧
      (match m.ap with
       | .no => False
       | .ow _ => False
       | .id _ => False
       | .nl => ∃ t, d = some t ∧ (s.putO d .un).noC t = true ∧ Q (s.put t (.sl ⟨.cl (64 * t), m.fr && m2.fr⟩ sz (xs ++ ys)))
       | .cl c => z = sz ∧ Q ((s.dem c).putO d (.sl ⟨.cl c, m.fr && m2.fr⟩ sz (xs ++ ys))))
  | .apS x y => ∃ m z xs, s.val x = .sl m z xs ∧ ∃ b, s.val y = .lit (.string b) ∧ (z = 1 ∨ xs = []) ∧ xs.length + b.size ≤ 70368744177664 ∧
      (match m.ap with
       | .no => False
       | .ow _ => False
       | .id _ => False
       | .nl => ∃ t, d = some t ∧ (s.putO d .un).noC t = true ∧ Q (s.put t (.sl ⟨.cl (64 * t), m.fr⟩ 1 (xs ++ bytesV b)))
       | .cl c => z = 1 ∧ Q ((s.dem c).putO d (.sl ⟨.cl c, m.fr⟩ 1 (xs ++ bytesV b))))
  | .mks sz byt z n => ∃ t k j, d = some t ∧ s.val n = .lit (.int k j) ∧ 0 ≤ j ∧ j * byt ≤ 70368744177664 ∧ j ≤ 9223372036854775807 ∧ z.cells.length = sz ∧ z.cells.all okC = true ∧ (s.putO d .un).noB (1000000000000 + t) = true ∧ noB (1000000000000 + t) z = true ∧ Q ((s.setB (1000000000000 + t) (List.replicate j.toNat z)).put t (.bs (1000000000000 + t) sz j.toNat))
  | .ext x i => ∃ cs c, s.val x = .tup cs ∧ cs[i]? = some c ∧ Q (s.putO d c)
  | .call q f as => vcall2 E q s d f (s.vals as) Q
  | .callv q x as => ∃ f cs, s.val x = .fn f cs ∧ fnOk E.P f = true ∧ vcall2 E q s d f (s.vals as ++ cs) Q
  | .mkf f as => Q (s.putO d (.fn f (s.vals as)))
  | .cvI k x => ∃ k' j, s.val x = .lit (.int k' j) ∧ Q (s.putO d (.lit (.int k (k.wrap j))))
  | .b2s x => ∃ (m : Mk) (z : Nat) (xs : List AV) (l : List UInt8), s.val x = .sl m z xs ∧ (z = 1 ∨ xs = []) ∧ xs = l.map (fun b : UInt8 => AV.lit (.int .u8 b.toNat)) ∧ Q (s.putO d (.lit (.string ⟨l.toArray⟩)))
  | .cvS x => ∃ b, s.val x = .lit (.string b) ∧ Q (s.putO d (.lit (.string b)))
  | .isn neg x => ∃ m z xs, s.val x = .sl m z xs ∧ ∀ b, (xs ≠ [] → b = neg) → Q (s.putO d (.lit (.bool b)))
  | .slM sz x => ∃ m z xs, s.val x = .sl m z xs ∧ Q (s.putO d (.sl ⟨.nl, true⟩ sz []))
  | .bsb xs => ∃ t, d = some t ∧ bsbOk xs = true ∧ (s.putO d .un).noB (1000000000000 + t) = true ∧ Q ((s.setB (1000000000000 + t) (s.vals xs)).put t (.bs (1000000000000 + t) 1 xs.length))
  | .mn x y => ∃ k u v, s.val x = .lit (.int k u) ∧ s.val y = .lit (.int k v) ∧ Q (s.putO d (.lit (.int k (min u v))))
/-- what a guard says: 'none' for an operation that was passed by -/
def gOf : AV → Option (Option Bool)
  | .lit (.bool b) => some (some b)
  | .tup [] => some none
  | _ => none
def vop (E : EnvK) (o : VO) (s : AS) (Q : AS → Prop) : Prop :=
  match o.g with
  | none => vact E s o.d Q o.k
  | some (t, w) => ∃ b, gOf (s.get t) = some b ∧ if b = some w then vact E s o.d Q o.k else Q (s.putO o.d (.tup []))
def tmpOk (s : AS) (o : VO) : Bool := match o.k with
  | .as _ => true
  | .st _ _ _ => true
  | .box _ _ => (match o.d with
    | some t => isUn (s.get t) && isNone (look s.bxs (1000000000000 + t))
    | none => true)
  | .alloc _ => (match o.d with
    | some t => isUn (s.get t) && isNone (look s.bxs (1000000000000 + t))
    | none => true)
  | _ => match o.d with
    | some t => isUn (s.get t)
    | none => true
def vops (E : EnvK) : List VO → AS → (AS → Prop) → Prop
  | [], s, Q => Q s
  | o :: os, s, Q => vop E o s fun s' => vops E os s' Q
def drop1 (t : Nat) : List (Nat × AV) → List (Nat × AV)
  | [] => []
  | (u, v) :: l => if t = u then drop1 t l else (u, v) :: drop1 t l
def drops : List Nat → List (Nat × AV) → List (Nat × AV)
  | [], l => l
  | t :: ts, l => drops ts (drop1 t l)
/-- less is known: variables and boxes forgotten, marks weakened, a row that nobody writes any more told as a list -/
def wkV (v' v : AV) : Prop := v' = v ∨ v' = .un ∨ ∃ m m' z z' xs, v' = .sl m' z' xs ∧ v = .sl m z xs ∧ (m'.fr = true → m.fr = true) ∧ ((m'.ap = .no ∧ (z' = z ∨ xs = [])) ∨ (m'.ap = m.ap ∧ z' = z) ∨ (m'.ap = .nl ∧ m.ap = .nl ∧ xs = []) ∨ (∃ c, m'.ap = .cl c ∧ m.ap = .nl ∧ xs = []))
def isLit : AV → Bool
  | .lit _ => true
  | _ => false
def litL (xs : List AV) : Bool := xs.all fun e => e.cells.all isLit
/-- a row that this function made, of plain cells, is all its own -/
def frU : AV → AV
  | .sl m sz xs => match m.ap with
    | .cl c => .sl ⟨.cl c, m.fr || litL xs⟩ sz xs
    | _ => .sl m sz xs
  | .agg cs => .agg (frUL cs)
  | .tup cs => .tup (frUL cs)
  | x => x
where frUL : List AV → List AV
  | [] => []
  | c :: cs => frU c :: frUL cs
inductive Wk (K : Nat → Prop) : AS → AS → Prop
  | frs (s : AS) : Wk K ⟨mapV frU s.env, mapV frU.frUL s.bxs⟩ s
  | refl (s : AS) : Wk K s s
  | trans {a b c : AS} : Wk K a b → Wk K b c → Wk K a c
  | env (s : AS) (l : List (Nat × AV)) : (∀ t v, look l t = some v → wkV v (s.get t)) → Wk K ⟨l, s.bxs⟩ s
  | bxs (s : AS) (l : List (Nat × List AV)) : (∀ n b, look l n = some b → look s.bxs n = some b) → Wk K ⟨s.env, l⟩ s
  | frz (s : AS) (t n sz len : Nat) (l : List AV) : 1000000000000 ≤ n → look s.env t = some (.bs n sz len) → look s.bxs n = some l → len = l.length → l.all (fun e => frA e && dat e) = true → Wk K ⟨setL t (.sl ⟨.no, true⟩ sz (strip.stripL l)) s.env, s.bxs.filter (fun p => p.1 != n)⟩ s
  | nam (s : AS) (c k : Nat) : K k → s.noI (fun j => j = k) → Wk K (s.nam c k) s
inductive Ex where
  | normal
  | ret
  | exit (n : Nat)
  deriving DecidableEq
def iter (K : Nat → Prop) (step : AS → (Ex → AS → Prop) → Prop) (Q : Ex → AS → Prop) : Nat → AS → Prop
  | 0, _ => False
  | n + 1, s => ∃ s1, Wk K s1 s ∧ step s1 fun e s' => match e with | .normal => iter K step Q n s' | e => Q e s'
def vx (E : EnvK) : VC → AS → (Ex → AS → Prop) → Prop
  | .skip, s, Q => Q .normal s
  | .ret, s, Q => Q .ret s
  | .exit n, s, Q => Q (.exit n) s
  | .seq a b, s, Q => vx E a s fun e s' => match e with | .normal => vx E b s' Q | e => Q e s'
  | .cond c a b, s, Q => ∃ t, s.val c = .lit (.bool t) ∧ if t then vx E a s Q else vx E b s Q
  | .block n c, s, Q => vx E c s fun e s' => if e = .exit n then Q .normal s' else Q e s'
  | .loop c, s, Q => ∃ n, iter E.nk (vx E c) Q n s
  | .reg drw os dr, s, Q => (drw = true → os.all (tmpOk s) = true) ∧ vops E os s fun s' => Q .normal ⟨drops dr s'.env, s'.bxs⟩
  | .regw o1 o2 dr, s, Q => vops E o1 s fun s' => ∃ s1, Wk E.nk s1 s' ∧ vops E o2 s1 fun s' => Q .normal ⟨drops dr s'.env, s'.bxs⟩
def resV (s : AS) : VR → Option AV
  | .t n => some (s.get n)
  | .b n ag sz => match s.get n with
    | .ptr k i o => (look s.bxs k).bind fun l => (l[i]?).bind fun e => if ag then (if o + sz ≤ e.cells.length then some (.agg ((e.cells.drop o).take sz)) else none) else e.cells[o]?
    | _ => none
def resVs (s : AS) : List VR → Option (List AV)
  | [] => some []
  | r :: l => (resV s r).bind fun a => (resVs s l).bind fun r => some (a :: r)
/-- a result's classes, in small numbers -/
def reC (ks : List Nat) : AV → AV
  | .sl m sz xs => .sl ⟨match m.ap with | .cl c => if ks.contains c then .cl (ks.findIdx (· == c)) else .no | a => a, m.fr⟩ sz xs
  | .agg cs => .agg (reL ks cs)
  | .tup cs => .tup (reL ks cs)
  | x => x
where reL (ks : List Nat) : List AV → List AV
  | [] => []
  | c :: cs => reC ks c :: reL ks cs
def enum {α : Type} (i : Nat) : List α → List (Nat × α)
  | [] => []
  | x :: l => (i, x) :: enum (i + 1) l
def oneOr : List AV → AV
  | [x] => x
  | l => .tup l
end Go.Proofs.YticockdhfglolaaGreatDoor.Vm
/- An abstract machine over values: what the state says of the memory, and how that is handed on. -/
namespace Go.Proofs.YticockdhfglolaaGreatDoor.Vm
open Go Go.RowKit
set_option linter.unusedVariables false
set_option linter.unusedSimpArgs false
theorem RepD.monoN {G G' : Gh} {N N' : Nat → Option (Nat × Nat)} (h : G.le G') (hN : ∀ k b, N k = some b → N' k = some b) {v : Value} {a : AV} (r : RepD G N v a) : RepD G' N' v a := by
  induction r with
  | un v => exact .un v
  | lit v h => exact .lit v h
  | sl A n cap m sz xs b o f h1 h2 h3 h4 h5 _ h7 ih => exact .sl A n cap m sz xs b o f h1 h2 h3 h4 (fun i x j c hx hc => ⟨h _ _ _ (h5 i x j c hx hc).1, (h5 i x j c hx hc).2⟩) ih (fun k hk hx => hN _ _ (h7 k hk hx))
theorem RepD.mono {G G' : Gh} {N : Nat → Option (Nat × Nat)} (h : G.le G') {v : Value} {a : AV} (r : RepD G N v a) : RepD G' N v a := r.monoN h fun _ _ h => h
theorem RepD.mark {G : Gh} {N : Nat → Option (Nat × Nat)} {v : Value} {m m' : Mk} {sz : Nat} {xs : List AV} (r : RepD G N v (.sl m sz xs)) (hm : ∀ k, m'.ap = .id k → m.ap = .id k) : RepD G N v (.sl m' sz xs) := by
  cases r with
  | sl A n cap _ _ _ b o f h1 h2 h3 h4 h5 h6 h7 => exact .sl A n cap m' sz xs b o f h1 h2 h3 h4 h5 h6 fun k hk => h7 k (hm k hk)
theorem noBL_get {n : Nat} : ∀ {cs : List AV} {j : Nat} {c : AV}, cs[j]? = some c → noB n c = false → noB.noL n cs = false
  | [], _, _, h, _ => by simp at h
  | y :: cs, 0, c, h, hc => by
    obtain rfl : y = c := by simpa using h
    simp [noB.noL, hc]
  | y :: cs, j + 1, c, h, hc => by
    have := noBL_get (cs := cs) (j := j) (by simpa using h) hc
    simp [noB.noL, this]
theorem noCL_get {n : Nat} : ∀ {cs : List AV} {j : Nat} {c : AV}, cs[j]? = some c → noC n c = false → noC.noL n cs = false
  | [], _, _, h, _ => by simp at h
  | y :: cs, 0, c, h, hc => by
    obtain rfl : y = c := by simpa using h
    simp [noC.noL, hc]
  | y :: cs, j + 1, c, h, hc => by
    have := noCL_get (cs := cs) (j := j) (by simpa using h) hc
    simp [noC.noL, this]
theorem RepH.mono {G G' : Gh} {J J' : Nat → Nat → Prop} (h : G.le G') (hJ : ∀ b o, J b o → J' b o) {v : Value} {a : AV} (r : RepH G J v a) : RepH G' J' v a := by
  induction r with
  | hs A n cap sz xs b o f h1 h2 h3 h4 h5 h6 _ ih => exact .hs A n cap sz xs b o f h1 h2 h3 h4 (fun i x j c hx hc e => hJ _ _ (h5 i x j c hx hc e)) (fun i x j c hx hc e => h _ _ _ (h6 i x j c hx hc e)) ih
theorem rng_mono {S S' : Nat → Prop} {G G' : Gh} (h : G.le G') (hS : ∀ b, S b → S' b) : (G.rng S).le (G'.rng S') := by
  intro b o v hv
  unfold Gh.rng at hv ⊢
  split at hv
  · rename_i hs
    rw [if_pos (hS b hs)]
    exact h _ _ _ hv
  · cases hv
structure X.up (x x' : X) : Prop where
  rg : ∀ t b, x.rg t b → x'.rg t b
  J : ∀ b o, x.J b o → x'.J b o
  rv : ∀ t, x'.rv t = x.rv t
  nm : ∀ k b, x.nm k = some b → x'.nm k = some b
theorem Rel.up {x x' : X} {base : Nat} {v : Value} {a : AV} (hG : x.G.le x'.G) (hR : x.up x') (r : Rel x base v a) :
    (∀ n, noB n a = false → x'.bx n = x.bx n ∧ x'.bz n = x.bz n) → (∀ d, noC d a = false → ∀ c, c / 64 = d → x'.tl c = x.tl c) → Rel x' base v a := by
  induction r with
  | un v => exact fun _ _ => .un v
  | lit v h => exact fun _ _ => .lit v h
  | sl v m sz xs h1 h2 h3 =>
    intro hb hc
    refine .sl v m sz xs (h1.monoN hG hR.nm) (fun hf => (h2 hf).monoN ?_ hR.nm) ?_
    · intro b o u
      unfold Gh.from
      split
      · exact hG b o u
      · intro h; cases h
    · cases m with
      | mk ap fr =>
        cases ap with
        | no => trivial
        | nl => exact h3
        | cl c =>
          have h4 := hc (c / 64) (by simp [noC]) c rfl
          simp only [Room] at h3 ⊢
          rw [h4]
          exact h3
        | ow t => exact ⟨h3.1.monoN (rng_mono hG (hR.rg t)) hR.nm, fun hu => by rw [hR.rv t]; exact h3.2 hu⟩
        | id k => trivial
  | agg vs cs hs _ ih => exact fun hb hc => .agg vs cs hs fun j v c hv hcj => ih j v c hv hcj (fun n hn => hb n (by simp only [noB]; exact noBL_get hcj hn)) (fun d hd => hc d (by simp only [noC]; exact noCL_get hcj hd))
  | tup vs cs hs _ ih => exact fun hb hc => .tup vs cs hs fun j v c hv hcj => ih j v c hv hcj (fun n hn => hb n (by simp only [noB]; exact noBL_get hcj hn)) (fun d hd => hc d (by simp only [noC]; exact noCL_get hcj hd))
  | ptr n i off =>
    intro hb _
    obtain ⟨h1, h2⟩ := hb n (by simp [noB])
    rw [← h1, ← h2]
    exact .ptr n i off
  | ep b o fr cs f h1 h2 h3 =>
    intro _ _
    refine .ep b o fr cs f (fun j c h => hG _ _ _ (h1 j c h)) (fun j c h => (h2 j c h).monoN hG hR.nm) fun hf j c h => ((h3 hf j c h).monoN ?_ hR.nm)
    intro b o u
    unfold Gh.from
    split
    · exact hG b o u
    · intro h; cases h
  | fn f vs cs hs _ ih => exact fun hb hc => .fn f vs cs hs fun j v c hv hcj => ih j v c hv hcj (fun n hn => hb n (by simp only [noB]; exact noBL_get hcj hn)) (fun d hd => hc d (by simp only [noC]; exact noCL_get hcj hd))
  | bs n sz len cap h hl =>
    intro hb _
    obtain ⟨h1, h2⟩ := hb n (by simp [noB])
    rw [← h1, ← h2]
    exact .bs n sz len cap (by rw [h2]; exact h) hl
  | hs v sz xs h => exact fun _ _ => .hs v sz xs (h.mono hG hR.J)
  | hp b o cs f h1 h2 => exact fun _ _ => .hp b o cs f (fun j c hc e => hR.J _ _ (h1 j c hc e)) (fun j c hc e => ⟨hG _ _ _ (h2 j c hc e).1, (h2 j c hc e).2.mono hG hR.J⟩)
/-- Data says nothing of boxes. -/
theorem Rel.mono {x : X} {G' : Gh} {base : Nat} {v : Value} {a : AV} (hG : x.G.le G') (r : Rel x base v a) : Rel { x with G := G' } base v a :=
  r.up (x' := { x with G := G' }) hG ⟨fun _ _ h => h, fun _ _ h => h, fun _ => rfl, fun _ _ h => h⟩ (fun _ _ => ⟨rfl, rfl⟩) (fun _ _ _ _ => rfl)
theorem NmOk.grow {K : Nat → Prop} {x0 x : X} {base hs hs' : Nat} {B : List (Nat × List AV)} (h : NmOk K x0 base x hs B) (hl : hs ≤ hs') : NmOk K x0 base x hs' B :=
  { h with ba := fun k b hb => Nat.lt_of_lt_of_le (h.ba k b hb) hl }
theorem NmOk.sub {K : Nat → Prop} {x0 x : X} {base hs : Nat} {B B' : List (Nat × List AV)} (h : NmOk K x0 base x hs B) (hB : ∀ n l', look B' n = some l' → ∃ l, look B n = some l) : NmOk K x0 base x hs B' :=
  { h with xa := fun k n l hl => by obtain ⟨l', hl'⟩ := hB n l hl; exact h.xa k n l' hl' }
section
variable {E : EnvK} {x0 x : X} {w0 w : World} {pb nt : Nat} {a : Act} {s : AS}
theorem St.K (h : St E x0 w0 pb nt x a w s) (hp : ∀ n, n < pb → E.ng ≤ x0.bx n) : E.K w := by
  refine E.hK w0 w h.fr.2.2.2.1 (fun k hk => h.fr.2.2.2.2 k (Nat.lt_of_lt_of_le hk (E.hg _ h.k)) ?_) h.k
  rintro (⟨n, hn, rfl⟩ | ⟨o, ho⟩)
  · have := hp n hn
    omega
  · have := (h.j0 _ _ ho).2.1
    omega
theorem get_put (s : AS) (t u : Nat) (v : AV) : (s.put t v).get u = if u = t then v else s.get u := by
  unfold AS.get AS.put
  simp only [look_setL]
  split <;> rfl
theorem get_setB (s : AS) (n : Nat) (l : List AV) (u : Nat) : (s.setB n l).get u = s.get u := rfl
theorem bxs_put (s : AS) (t : Nat) (v : AV) : (s.put t v).bxs = s.bxs := rfl
theorem bxs_putO (s : AS) (t : Option Nat) (v : AV) : (s.putO t v).bxs = s.bxs := by cases t <;> rfl
theorem rd_put {x0 : X} {a : Act} {d : Option Nat} {v : Value} {t : Nat} (hd : ∀ u, d = some u → u < 1000000000000) : rd x0 (a.put d v) t = match d with
    | some u => if t = u ∧ u < a.tmps.size then v else rd x0 a t
    | none => rd x0 a t := by
  cases d with
  | none => rfl
  | some u =>
    have hu := hd u rfl
    simp only [rd, Act.put, Array.getD_eq_getD_getElem?, Array.getElem?_setIfInBounds]
    by_cases h : u = t
    · subst h
      by_cases h2 : u < a.tmps.size
      · simp [h2, hu]
      · simp [h2]
    · have h' : ¬ (t = u ∧ u < a.tmps.size) := fun e => h e.1.symm
      simp only [h, h', if_false]
theorem size_put {a : Act} {d : Option Nat} {v : Value} : (a.put d v).tmps.size = a.tmps.size := by
  cases d <;> simp [Act.put]
theorem defers_put {a : Act} {d : Option Nat} {v : Value} : (a.put d v).defers = a.defers := by
  cases d <;> rfl
/-- The environment behind one write. -/
theorem env_put (h : ∀ t, Rel x w0.heap.size (rd x0 a t) (s.get t)) (hn : a.tmps.size = nt) (hl : nt ≤ 1000000000000) {d : Option Nat} (hd : ∀ t, d = some t → t < nt) {v : Value} {av : AV} (r : Rel x w0.heap.size v av) :
    ∀ t, Rel x w0.heap.size (rd x0 (a.put d v) t) ((s.putO d av).get t) := by
  intro t
  rw [rd_put fun u hu => Nat.lt_of_lt_of_le (hd u hu) hl]
  cases d with
  | none => exact h t
  | some u =>
    have hu := hd u rfl
    simp only [AS.putO, get_put]
    by_cases ht : t = u
    · subst ht
      rw [if_pos ⟨rfl, by omega⟩, if_pos rfl]
      exact r
    · rw [if_neg (fun e => ht e.1), if_neg ht]
      exact h t
theorem St.put (h : St E x0 w0 pb nt x a w s) {d : Option Nat} (hd : ∀ t, d = some t → t < nt) {v : Value} {av : AV} (r : Rel x w0.heap.size v av) : St E x0 w0 pb nt x (a.put d v) w (s.putO d av) :=
  { h with df := by rw [defers_put]; exact h.df, nt := by rw [size_put]; exact h.nt, env := env_put h.env h.nt h.ntl hd r, bxs := by rw [bxs_putO]; exact h.bxs, inj := by rw [bxs_putO]; exact h.inj, tlb := by rw [bxs_putO]; exact h.tlb, no := by rw [bxs_putO]; exact h.no }
theorem ofC_rel (x : X) (base : Nat) (v : Value) : Rel x base v (AV.ofC v) := by
  unfold AV.ofC
  split
  · refine .sl _ _ _ _ (.sl none 0 0 _ 1 [] 0 0 (fun _ _ => default) rfl (Nat.le_refl _) (fun h => absurd rfl h) (by simp) (by simp) (by simp) (fun _ _ h => absurd rfl h)) (fun _ => .sl none 0 0 _ 1 [] 0 0 (fun _ _ => default) rfl (Nat.le_refl _) (fun h => absurd rfl h) (by simp) (by simp) (by simp) (fun _ _ h => absurd rfl h)) ⟨none, rfl⟩
  · split
    · exact .lit _ ‹_›
    · exact .un _
theorem ofV_rel (x : X) (base : Nat) (v : Value) : Rel x base v (AV.ofV v) := by
  unfold AV.ofV
  split
  · rename_i cs
    refine .agg _ _ (by simp) fun j v c hv hc => ?_
    rw [List.getElem?_map, Array.getElem?_toList, hv] at hc
    obtain rfl := Option.some.inj hc
    exact ofC_rel _ _ _
  · exact ofC_rel _ _ _
theorem od_rel (h : ∀ t, Rel x w0.heap.size (rd x0 a t) (s.get t)) {o : Operand} {y : Od} (hy : od o = some y) : Rel x w0.heap.size (a.eval o) (s.val y) := by
  cases o with
  | tmp t =>
    simp only [od] at hy
    split at hy
    · rename_i ht
      obtain rfl := Option.some.inj hy
      have := h t
      unfold rd at this
      rw [if_pos ht] at this
      exact this
    · cases hy
  | const v => obtain rfl := Option.some.inj hy; exact ofV_rel _ _ _
  | func f => obtain rfl := Option.some.inj hy; exact .fn f #[] [] rfl (by simp)
  | global g => cases hy
theorem ods_rel (h : ∀ t, Rel x w0.heap.size (rd x0 a t) (s.get t)) : ∀ {l : List Operand} {ys : List Od}, ods l = some ys → (l.map a.eval).length = (s.vals ys).length ∧ ∀ (j : Nat) (v : Value) (c : AV), (l.map a.eval)[j]? = some v → (s.vals ys)[j]? = some c → Rel x w0.heap.size v c
  | [], ys, hy => by obtain rfl := Option.some.inj hy; simp [AS.vals]
  | o :: l, ys, hy => by
    simp only [ods, Option.bind_eq_some_iff] at hy
    obtain ⟨y, h1, r, h2, h3⟩ := hy
    obtain rfl := Option.some.inj h3
    obtain ⟨i1, i2⟩ := ods_rel h h2
    refine ⟨by simpa [AS.vals] using i1, fun j v c hv hc => ?_⟩
    cases j with
    | zero =>
      simp [AS.vals] at hv hc
      subst hv hc
      exact od_rel h h1
    | succ j => exact i2 j v c (by simpa using hv) (by simpa [AS.vals] using hc)
end
/-! inversions -/
theorem Rel.lit_inv {x : X} {base : Nat} {v u : Value} (r : Rel x base v (.lit u)) : v = u := by cases r; rfl
end Go.Proofs.YticockdhfglolaaGreatDoor.Vm
/- An abstract machine over values: operations that only compute. -/
namespace Go.Proofs.YticockdhfglolaaGreatDoor.Vm
open Go Go.RowKit
set_option linter.unusedVariables false
set_option linter.unusedSimpArgs false
section
variable {P : Program}
theorem run_szOf {t n : Nat} (h : szOf P t = some n) (w : World) : (sizeOf t).run P w = .ok n w := by
  unfold szOf at h
  obtain ⟨i, hi, rfl⟩ := Option.map_eq_some_iff.1 h
  simp [sizeOf, typeInfo, hi]
theorem run_agOf {t : Nat} {g : Bool} (h : agOf P t = some g) (w : World) : (isAgg t).run P w = .ok g w := by
  unfold agOf at h
  obtain ⟨d, hd, hg⟩ := Option.map_eq_some_iff.1 h
  unfold isAgg
  rw [Sem.run_bind, run_underlying hd w]
  subst hg
  cases d <;> simp
theorem elOf_spec {t e : Nat} (h : elOf P t = some e) : P.underlying t = some (.slice e) := by
  unfold elOf at h
  obtain ⟨d, hd, hg⟩ := Option.bind_eq_some_iff.1 h
  cases d <;> simp at hg
  subst hg
  exact hd
theorem strT_spec {t : Nat} (h : strT P t = true) : P.underlying t = some .string := by
  unfold strT at h
  split at h
  · assumption
  · cases h
theorem wpv {o : Oper} {a : Act} {w w' : World} {K : Act → World → Prop} {Q : Exit → Act → World → Prop} {v : Value} (h : (execOp a.eval o).run P w = .ok (.value v) w') (hk : K (a.put o.dst v) w') : o.wp P a w K Q := by
  unfold Oper.wp
  rw [h]
  exact hk
theorem binI_run {op : BinOp} {k k' : IntKind} {a b : Int} {u : Value} (h : binI op k a k' b = some u) (t : TypeId) (w : World) : (binOp op t (.int k a) (.int k' b)).run P w = .ok u w ∧ u.oneCell' = true := by
  unfold binI at h
  cases op <;> simp only at h <;> (try (split at h <;> first | (cases h; done) | skip)) <;> (try (split at h <;> first | (cases h; done) | skip)) <;> (try subst_vars) <;> (try (obtain rfl := Option.some.inj h)) <;> (try (cases h; done)) <;>
    first
    | (refine ⟨?_, rfl⟩; simp [binOp, Op.intArith, Op.intDiv, Op.intBits, Op.intCmp, Op.shift, *]; done)
    | (refine ⟨?_, rfl⟩; simp only [binOp, Op.intArith, Op.intDiv, Op.intBits, Op.intCmp, Op.shift, ne_eq, not_true_eq_false, if_false, Sem.run_ite, Sem.run_pure, beq_iff_eq, *]; simp [*]; done)
    | (refine ⟨?_, rfl⟩; simp only [binOp, ne_eq, not_true_eq_false, if_false, Op.intCmp, Sem.run_ite, ite_false]; rfl)
    | (refine ⟨?_, rfl⟩; simp only [binOp, ne_eq, not_true_eq_false, if_false, Op.intCmp, bne, decide_not]; rfl)
    | skip
theorem ba_beq (a b : ByteArray) : (a == b) = decide (a = b) := by
  cases a with | mk x =>
  cases b with | mk y =>
  show (x == y) = _
  rw [Bool.eq_iff_iff]
  simp
theorem toList_inj {a b : ByteArray} : a.toList = b.toList ↔ a = b := by
  rw [ByteArray.toList_eq, ByteArray.toList_eq]
  exact ⟨fun h => Go.WideShapes.bytes_inj h, fun h => by rw [h]⟩
theorem toList_beq (a b : ByteArray) : (a.toList == b.toList) = decide (a = b) := by
  rw [Bool.eq_iff_iff]
  simp [toList_inj]
theorem binS_run {op : BinOp} {a b : ByteArray} {u : Value} (h : binS op a b = some u) (t : TypeId) (w : World) : (binOp op t (.string a) (.string b)).run P w = .ok u w ∧ u.oneCell' = true := by
  unfold binS at h
  cases op <;> simp only at h <;> (try (cases h; done))
  case add =>
    split at h
    · obtain rfl := Option.some.inj h
      refine ⟨?_, rfl⟩
      have hs : ¬ ((a.size + b.size : Nat) : Int) > IntKind.i64.max := by simp [IntKind.max, IntKind.signed, IntKind.bits]; omega
      simp only [binOp, Op.stringOp]
      rw [if_neg hs]
      rfl
    · cases h
  all_goals
    obtain rfl := Option.some.inj h
    refine ⟨?_, rfl⟩
    simp [binOp, Op.stringOp, toList_beq, slt]
theorem get2 {vs : Array Value} {x : X} {base : Nat} {p q : Value} (r : Rel x base (.agg vs) (.agg [.lit p, .lit q])) : vs = #[p, q] ∧ p.oneCell' = true ∧ q.oneCell' = true := by
  cases r with
  | agg _ _ hs h =>
    obtain ⟨l⟩ := vs
    match l, hs with
    | [u, v], _ =>
      have h0 := h 0 u (.lit p) rfl rfl
      have h1 := h 1 v (.lit q) rfl rfl
      cases h0 with
      | lit _ o0 => cases h1 with
        | lit _ o1 => exact ⟨rfl, o0, o1⟩
theorem part_run {t off : Nat} {cs : Array Value} {v : Value} (w : World) (h : P.underlying t = some .string) (hc : cs[off]? = some v) : (part t cs off).run P w = .ok v w := by
  unfold part
  have ha : (isAgg t).run P w = .ok false w := by unfold isAgg; rw [Sem.run_bind, run_underlying h w]; rfl
  simp only [Sem.run_bind, ha, Result.andThen_ok, Bool.false_eq_true, if_false, hc]
  rfl
theorem eqS_run {d t : Nat} {a b : ByteArray} (w : World) (h : P.underlying t = some .string) : (Op.equalIn (d + 1) t (.string a) (.string b)).run P w = .ok (a == b) w := by
  unfold Op.equalIn
  rw [Sem.run_bind, run_underlying h w]
  rfl
theorem two_run {t : Nat} (h : twoStr P t = true) (a b c d : ByteArray) (w : World) : (Op.equal t (.agg #[.string a, .string b]) (.agg #[.string c, .string d])).run P w = .ok (decide (a = c) && decide (b = d)) w ∧ P.eqGuardType P.depth t = false := by
  unfold twoStr at h
  split at h
  · rename_i fs hu
    split at h
    · rename_i f g hfs
      simp only [Bool.and_eq_true, Bool.not_eq_true', beq_iff_eq, bne_iff_ne, ne_eq] at h
      obtain ⟨⟨⟨⟨⟨⟨h1, h2⟩, h3⟩, h4⟩, h5⟩, h6⟩, h7⟩ := h
      split at h5
      · rename_i e1 e2
        refine ⟨?_, h7⟩
        unfold Op.equal Op.maxDepth
        show (Op.equalIn (9999 + 1) t _ _).run P w = _
        unfold Op.equalIn
        rw [Sem.run_bind, run_underlying hu w]
        obtain ⟨l⟩ := fs
        simp only at hfs
        subst hfs
        have p1 := part_run (P := P) (off := f.offset) (cs := #[.string a, .string b]) (v := .string a) w e1 (by rw [h1]; rfl)
        have p2 := part_run (P := P) (off := f.offset) (cs := #[.string c, .string d]) (v := .string c) w e1 (by rw [h1]; rfl)
        have p3 := part_run (P := P) (off := g.offset) (cs := #[.string a, .string b]) (v := .string b) w e2 (by rw [h2]; rfl)
        have p4 := part_run (P := P) (off := g.offset) (cs := #[.string c, .string d]) (v := .string d) w e2 (by rw [h2]; rfl)
        have q1 := eqS_run (P := P) (d := 9998) (a := a) (b := c) w e1
        have q2 := eqS_run (P := P) (d := 9998) (a := b) (b := d) w e2
        simp only [Result.andThen_ok, Sem.run_bind, run_program, h6, Bool.false_eq_true, if_false]
        simp [h3, h4, p1, p2, p3, p4, q1, q2]
        simp only [ba_beq]
        by_cases h1 : a = c <;> by_cases h2 : b = d <;> simp [h1, h2]
      · cases h5
    · cases h
  · cases h
theorem binV_run {op : BinOp} {t ty : Nat} (h2 : ty = 1 → twoStr P t = true) (h3 : ty = 2 → boolT P t = true) {x : X} {base : Nat} {u v : Value} {A B : AV} {r : Value} (ru : Rel x base u A) (rv : Rel x base v B) (h : binV op ty A B = some r) (a b : Operand) (w : World) :
    (do eqGuard op t a b u v; binOp op t u v).run P w = .ok r w ∧ r.oneCell' = true := by
  unfold binV at h
  split at h
  · cases ru; cases rv
    obtain ⟨h1, h3⟩ := binI_run h t w (P := P)
    refine ⟨?_, h3⟩
    rw [Sem.run_bind, show (eqGuard op t a b (.int _ _) (.int _ _)).run P w = .ok () w by cases op <;> rfl]
    exact h1
  · cases ru; cases rv
    obtain ⟨h1, h3⟩ := binS_run h t w (P := P)
    refine ⟨?_, h3⟩
    rw [Sem.run_bind, show (eqGuard op t a b (.string _) (.string _)).run P w = .ok () w by cases op <;> rfl]
    exact h1
  · cases ru; cases rv
    split at h
    · rename_i p q o1 o2 htwo
      have hb := h3 htwo
      unfold boolT at hb
      split at hb
      · rename_i hu
        have he : (Op.equal t (.bool p) (.bool q)).run P w = .ok (p == q) w := by
          unfold Op.equal Op.maxDepth
          show (Op.equalIn (9999 + 1) t _ _).run P w = _
          unfold Op.equalIn
          rw [Sem.run_bind, run_underlying hu w]
          rfl
        cases op <;> simp only at h <;> (try (cases h; done))
        all_goals
          obtain rfl := Option.some.inj h
          refine ⟨?_, rfl⟩
          rw [Sem.run_bind, show (eqGuard _ t a b (.bool p) (.bool q)).run P w = .ok () w by rfl]
          simp [binOp, he]
      · cases hb
    · cases h
  · split at h
    · rename_i p q p' q' htwo
      obtain ⟨us, rfl⟩ : ∃ us, u = .agg us := by cases ru; exact ⟨_, rfl⟩
      obtain ⟨vs, rfl⟩ : ∃ vs, v = .agg vs := by cases rv; exact ⟨_, rfl⟩
      obtain ⟨rfl, _, _⟩ := get2 ru
      obtain ⟨rfl, _, _⟩ := get2 rv
      have h3 := h2 htwo
      obtain ⟨e1, e2⟩ := two_run h3 p q p' q' w
      cases op <;> simp only at h <;> (try (cases h; done))
      all_goals
        obtain rfl := Option.some.inj h
        refine ⟨?_, rfl⟩
        rw [Sem.run_bind, show (eqGuard _ t a b (.agg #[.string p, .string q]) (.agg #[.string p', .string q'])).run P w = .ok () w by simp [eqGuard, e2]]
        simp [binOp, e1]
    · cases h
  · cases h
theorem unV_run {op : UnOp} {x : X} {base : Nat} {u : Value} {A : AV} {r : Value} (ru : Rel x base u A) (h : unV op A = some r) (w : World) : (Op.unary op u).run P w = .ok r w ∧ r.oneCell' = true := by
  unfold unV at h
  split at h
  · cases ru
    cases op <;> simp only at h <;> (try (cases h; done))
    obtain rfl := Option.some.inj h
    exact ⟨rfl, rfl⟩
  · cases ru
    cases op <;> simp only at h <;> (try (cases h; done))
    obtain rfl := Option.some.inj h
    exact ⟨rfl, rfl⟩
  · cases h
theorem add0 (b o n : Nat) : (⟨b, o, none⟩ : Addr).add n = ⟨b, o + n, none⟩ := by
  unfold Addr.add
  split
  · simp [*]
  · rfl
theorem run_index_str {t : Nat} (h : P.underlying t = some .string) (s : ByteArray) (k : IntKind) (i : Int) (h0 : 0 ≤ i) (h1 : i < s.size) (w : World) : (Instr.index t (.string s) (.int k i)).run P w = .ok (.int .u8 (bt s i.toNat).toNat) w := by
  have hs : i.toNat < s.size := by omega
  have e : s[i.toNat]? = some s[i.toNat] := by simp [hs]
  have e2 : bt s i.toNat = s[i.toNat] := by
    unfold bt
    have : i.toNat < s.data.toList.length := by simpa using hs
    simp [List.getD, List.getElem?_eq_getElem this]
    rfl
  simp [Instr.index, asIntOf, run_underlying h, h0, hs, e2]
theorem run_indexAt {t e sz : Nat} (h : P.underlying t = some (.slice e)) (hz : szOf P e = some sz) (b o n c : Nat) (k : IntKind) (i : Int) (h0 : 0 ≤ i) (h1 : i < n) (w : World) : (Instr.indexAt t (.slice (some ⟨b, o, none⟩) n c) (.int k i)).run P w = .ok (.pointer (some ⟨b, o + i.toNat * sz, none⟩)) w := by
  simp [Instr.indexAt, asIntOf, run_underlying h, h0, h1, run_szOf hz, add0]
theorem run_fieldAt {t : Nat} {fs : Array Field} {f : Field} {i z : Nat} (h : P.underlying t = some (.struct fs)) (hf : fs[i]? = some f) (hz : szOf P f.type = some z) (h0 : z ≠ 0) (b o : Nat) (w : World) : (Instr.fieldAt t (.pointer (some ⟨b, o, none⟩)) i).run P w = .ok (.pointer (some ⟨b, o + f.offset, none⟩)) w := by
  simp [Instr.fieldAt, run_underlying h, hf, Instr.sureAddr, fieldPlace, run_szOf hz, h0, add0]
end
end Go.Proofs.YticockdhfglolaaGreatDoor.Vm
/- An abstract machine over values: operations that read and write memory. -/
namespace Go.Proofs.YticockdhfglolaaGreatDoor.Vm
open Go Go.RowKit
set_option linter.unusedVariables false
set_option linter.unusedSimpArgs false
theorem mkL_get (b : Bool) : ∀ (cs : List AV) (j : Nat), (mkF.mkL b cs)[j]? = (cs[j]?).map (mkF b)
  | [], j => by simp [mkF.mkL]
  | c :: cs, 0 => by simp [mkF.mkL]
  | c :: cs, j + 1 => by simp [mkF.mkL, mkL_get b cs j]
theorem mkL_len (b : Bool) : ∀ (cs : List AV), (mkF.mkL b cs).length = cs.length
  | [] => rfl
  | c :: cs => by simp [mkF.mkL, mkL_len b cs]
theorem stripL_get : ∀ (cs : List AV) (j : Nat), (strip.stripL cs)[j]? = (cs[j]?).map strip
  | [], j => by simp [strip.stripL]
  | c :: cs, 0 => by simp [strip.stripL]
  | c :: cs, j + 1 => by simp [strip.stripL, stripL_get cs j]
theorem stripL_len : ∀ (cs : List AV), (strip.stripL cs).length = cs.length
  | [] => rfl
  | c :: cs => by simp [strip.stripL, stripL_len cs]
theorem datL_get : ∀ {cs : List AV} {j : Nat} {c : AV}, dat.datL cs = true → cs[j]? = some c → dat c = true
  | [], _, _, _, h => by simp at h
  | y :: cs, 0, c, h, hc => by
    obtain rfl : y = c := by simpa using hc
    simp [dat.datL] at h; exact h.1
  | y :: cs, j + 1, c, h, hc => by
    simp [dat.datL] at h
    exact datL_get h.2 (by simpa using hc)
theorem frL_get : ∀ {cs : List AV} {j : Nat} {c : AV}, frA.frL cs = true → cs[j]? = some c → frA c = true
  | [], _, _, _, h => by simp at h
  | y :: cs, 0, c, h, hc => by
    obtain rfl : y = c := by simpa using hc
    simp [frA.frL] at h; exact h.1
  | y :: cs, j + 1, c, h, hc => by
    simp [frA.frL] at h
    exact frL_get h.2 (by simpa using hc)
theorem noBL_all {n : Nat} : ∀ {cs : List AV} {j : Nat} {c : AV}, noB.noL n cs = true → cs[j]? = some c → noB n c = true
  | [], _, _, _, h => by simp at h
  | y :: cs, 0, c, h, hc => by
    obtain rfl : y = c := by simpa using hc
    simp [noB.noL] at h; exact h.1
  | y :: cs, j + 1, c, h, hc => by
    simp [noB.noL] at h
    exact noBL_all h.2 (by simpa using hc)
theorem allV_get {α : Type} {p : α → Bool} {t : Nat} {v : α} : ∀ {l : List (Nat × α)}, allV p l = true → look l t = some v → p v = true
  | [], _, h => by cases h
  | (u, y) :: l, h, hl => by
    simp [allV] at h
    simp only [look] at hl
    split at hl
    · obtain rfl := Option.some.inj hl; exact h.1
    · exact allV_get h.2 hl
theorem from_le (base : Nat) (G : Gh) : (G.from base).le G := by
  intro b o v h
  unfold Gh.from at h
  split at h
  · exact h
  · cases h
theorem from_mono {base : Nat} {G G' : Gh} (h : G.le G') : (G.from base).le (G'.from base) := by
  intro b o v
  unfold Gh.from
  split
  · exact h b o v
  · intro h; cases h
theorem rel_mkF {x : X} {base : Nat} {v : Value} {c : AV} {fr : Bool} (h : RepD x.G x.nm v c) (h2 : fr = true → RepD (x.G.from base) x.nm v c) : Rel x base v (mkF fr c) := by
  cases h with
  | un v => exact .un v
  | lit v h => exact .lit v h
  | sl A n cap m sz xs b o f h1 h3 h4 h5 h6 h7 h8 =>
    refine .sl _ _ _ _ ((RepD.sl A n cap m sz xs b o f h1 h3 h4 h5 h6 h7 h8).mark fun k hk => (mkI_ap fr m k).1 hk) (fun hf => (h2 (by rw [mkI_fr] at hf; exact hf)).mark fun k hk => (mkI_ap fr m k).1 hk) ?_
    obtain ⟨ap, fm⟩ := m
    cases ap <;> trivial
/-- Of a value that is data: what it says without marks. -/
theorem rel_data {x : X} {base : Nat} {v : Value} {c : AV} (r : Rel x base v c) (hc : okC c = true) (hd : dat c = true) : RepD x.G x.nm v (strip c) ∧ (frA c = true → RepD (x.G.from base) x.nm v (strip c)) ∧ v.oneCell' = true := by
  cases r with
  | un v => cases hc
  | lit v h => exact ⟨.lit v h, fun _ => .lit v h, h⟩
  | sl v m sz xs h1 h2 h3 => exact ⟨h1.mark fun k hk => (skI_ap m k).1 hk, fun hf => (h2 hf).mark fun k hk => (skI_ap m k).1 hk, by cases h1; rfl⟩
  | agg => cases hc
  | tup => cases hc
  | ptr => cases hd
  | ep => cases hd
  | fn => cases hd
  | bs => cases hd
  | hs => cases hd
  | hp => cases hd
theorem rel_one {x : X} {base : Nat} {v : Value} {c : AV} (r : Rel x base v c) (hc : okC c = true) : v.oneCell' = true := by
  cases r with
  | un v => cases hc
  | lit v h => exact h
  | sl v m sz xs h1 h2 h3 => cases h1; rfl
  | agg => cases hc
  | tup => cases hc
  | ptr => rfl
  | ep => rfl
  | fn => rfl
  | bs => rfl
  | hs v sz xs h => cases h; rfl
  | hp => rfl
theorem one_cells {v : Value} (h : v.oneCell' = true) : v.cells = #[v] := by
  cases v <;> first | rfl | cases h
theorem rel_cells {x : X} {base : Nat} {v : Value} {a : AV} (r : Rel x base v a) (h : a.cells.all okC = true) : v.cells.size = a.cells.length ∧ (∀ (j : Nat) (c : AV), a.cells[j]? = some c → ∃ u, v.cells[j]? = some u ∧ Rel x base u c ∧ u.oneCell' = true) ∧ ∀ u ∈ v.cells.toList, u.oneCell' = true := by
  have single : ∀ (hc : okC a = true), a.cells = [a] → v.cells.size = a.cells.length ∧ (∀ (j : Nat) (c : AV), a.cells[j]? = some c → ∃ u, v.cells[j]? = some u ∧ Rel x base u c ∧ u.oneCell' = true) ∧ ∀ u ∈ v.cells.toList, u.oneCell' = true := by
    intro hc e
    have h1 := rel_one r hc
    rw [one_cells h1, e]
    refine ⟨rfl, fun j c hj => ?_, fun u hu => by simp at hu; rw [hu]; exact h1⟩
    cases j with
    | zero =>
      obtain rfl : a = c := by simpa using hj
      exact ⟨v, rfl, r, h1⟩
    | succ j => simp at hj
  cases r with
  | agg vs cs hs hr =>
    refine ⟨hs, fun j c hj => ?_, fun u hu => ?_⟩
    · have hlt : j < vs.size := by rw [hs]; exact (List.getElem?_eq_some_iff.1 hj).1
      have hok : okC c = true := by
        have := List.all_eq_true.1 h c (List.mem_of_getElem? hj)
        exact this
      have hr' := hr j _ c (Array.getElem?_eq_getElem hlt) hj
      exact ⟨vs[j], by simp [Value.cells, hlt], hr', rel_one hr' hok⟩
    · obtain ⟨j, hj, rfl⟩ := List.getElem_of_mem hu
      have hlt : j < cs.length := by rw [← hs]; simpa [Value.cells] using hj
      have hok : okC cs[j] = true := List.all_eq_true.1 h _ (List.getElem_mem hlt)
      have hv : vs[j]? = some (vs[j]'(by rw [hs]; exact hlt)) := Array.getElem?_eq_getElem _
      exact rel_one (hr j _ cs[j] hv (List.getElem?_eq_getElem hlt)) hok
  | un v => simp [AV.cells, okC] at h
  | tup => simp [AV.cells, okC] at h
  | lit v hv => exact single rfl rfl
  | sl => exact single rfl rfl
  | ptr => exact single rfl rfl
  | ep => exact single rfl rfl
  | fn => exact single rfl rfl
  | bs => exact single rfl rfl
  | hs => exact single rfl rfl
  | hp => exact single rfl rfl
/-! the world -/
theorem agree_cell {G : Gh} {w : World} (h : Agree G w) {b o : Nat} {v : Value} (hg : G b o = some v) : w.cell? ⟨b, o, none⟩ = some v := by
  obtain ⟨c, ty, fz, h1, h2⟩ := h b o v hg
  simp [World.cell?, h1, h2]
theorem agree_lt {G : Gh} {w : World} (h : Agree G w) {b o : Nat} {v : Value} (hg : G b o = some v) : b < w.heap.size := by
  obtain ⟨c, ty, fz, h1, _⟩ := h b o v hg
  exact (Array.getElem?_eq_some_iff.1 h1).1
theorem alloc_old {w : World} {o : Obj} {k : Nat} (h : k < w.heap.size) : (w.alloc o).heap[k]? = w.heap[k]? := Below.heap_alloc w o k h
theorem alloc_new {w : World} {o : Obj} : (w.alloc o).heap[w.heap.size]? = some o := by show (w.heap.push o)[w.heap.size]? = _; simp
section
variable {P : Program}
theorem run_load_ag {t n : Nat} (ha : agOf P t = some true) (hz : szOf P t = some n) (b o : Nat) (f : Nat → Value) (w : World) (h : ∀ j, j < n → w.cell? ⟨b, o + j, none⟩ = some (f j)) : (Instr.loadAt t (.pointer (some ⟨b, o, none⟩))).run P w = .ok (.agg ((List.range n).map f).toArray) w := by
  have hl := run_loadCells (P := P) w ⟨b, o, none⟩ n f (fun j hj => by rw [add0]; exact h j hj)
  simp [Instr.loadAt, Instr.sureAddr, loadVar, run_agOf ha, run_szOf hz, hl]
theorem run_load_one {t : Nat} (ha : agOf P t = some false) (b o : Nat) (v : Value) (w : World) (h : w.cell? ⟨b, o, none⟩ = some v) : (Instr.loadAt t (.pointer (some ⟨b, o, none⟩))).run P w = .ok v w := by
  simp [Instr.loadAt, Instr.sureAddr, loadVar, run_agOf ha, h]
/-- a stretch of a block written -/
theorem setCells_spec (b : Nat) : ∀ (vs : List Value) (o : Nat) (w : World) (vals : Array Value) (ty : Nat) (fz : Nat × Nat), w.heap[b]? = some (.cells vals ty fz) → o + vs.length ≤ vals.size →
    ∃ vals', (w.setCells b o vs).heap[b]? = some (.cells vals' ty fz) ∧ vals'.size = vals.size ∧ (∀ j, vals'[j]? = if o ≤ j ∧ j < o + vs.length then vs[j - o]? else vals[j]?) ∧
      (∀ k, k ≠ b → (w.setCells b o vs).heap[k]? = w.heap[k]?) ∧ (w.setCells b o vs).heap.size = w.heap.size ∧ (w.setCells b o vs).os = w.os ∧ (w.setCells b o vs).tape = w.tape ∧ (w.setCells b o vs).output = w.output
  | [], o, w, vals, ty, fz, h, _ => ⟨vals, h, rfl, fun j => by rw [if_neg (fun hh => by have := hh.2; simp at this; omega)], fun _ _ => rfl, rfl, rfl, rfl, rfl⟩
  | v :: r, o, w, vals, ty, fz, h, hl => by
    simp only [List.length_cons] at hl
    have h1 : (w.setCell ⟨b, o, none⟩ v).heap[b]? = some (.cells (vals.setIfInBounds o v) ty fz) := by simp [World.setCell, Array.getElem?_modify, h]
    obtain ⟨vals', e1, e2, e3, e4, e5, e6, e7, e8⟩ := setCells_spec b r (o + 1) (w.setCell ⟨b, o, none⟩ v) _ ty fz h1 (by simp; omega)
    refine ⟨vals', e1, by rw [e2]; simp, fun j => ?_, fun k hk => ?_, by rw [World.setCells, e5]; simp, by rw [World.setCells, e6]; rfl, by rw [World.setCells, e7]; rfl, by rw [World.setCells, e8]; rfl⟩
    · rw [e3]
      simp only [List.length_cons]
      by_cases hj : j = o
      · subst hj
        rw [if_neg (by omega), if_pos (by omega), Nat.sub_self, Array.getElem?_setIfInBounds_self_of_lt (by omega)]
        rfl
      · by_cases h2 : o + 1 ≤ j ∧ j < o + 1 + r.length
        · rw [if_pos h2, if_pos (by omega), show j - o = (j - (o + 1)) + 1 by omega, List.getElem?_cons_succ]
        · rw [if_neg h2, if_neg (by omega), Array.getElem?_setIfInBounds_ne (by omega)]
    · rw [World.setCells, e4 k hk]
      simp only [World.setCell, Array.getElem?_modify]
      rw [if_neg (fun e => hk e.symm)]
theorem cell_block {w : World} {b o : Nat} {vals : Array Value} {ty : Nat} {fz : Nat × Nat} (h : w.heap[b]? = some (.cells vals ty fz)) : w.cell? ⟨b, o, none⟩ = vals[o]? := by simp [World.cell?, h]
theorem frozen_block {w : World} {b o : Nat} {vals : Array Value} {ty : Nat} (h : w.heap[b]? = some (.cells vals ty (0, 0))) : w.frozen? ⟨b, o, none⟩ = false := by simp [World.frozen?, h]
theorem run_storeAt {t n : Nat} (hz : szOf P t = some n) (b o : Nat) (v : Value) (w : World) (vals : Array Value) (ty : Nat) (h : w.heap[b]? = some (.cells vals ty (0, 0))) (hn : v.cells.size = n) (hl : o + n ≤ vals.size) (h1 : ∀ u ∈ v.cells.toList, u.oneCell' = true) :
    (Instr.storeAt t (.pointer (some ⟨b, o, none⟩)) v).run P w = .ok () (w.setCells b o v.cells.toList) := by
  have hst := run_storeCells_cells (P := P) b o v.cells.toList 0 w (fun j hj => by rw [cell_block h]; simp at hj ⊢; omega) (fun j hj => frozen_block h) h1
  simp only [Nat.add_zero] at hst
  simp [Instr.storeAt, Instr.sureAddr, storeVar, run_szOf hz, hn, hst]
end
end Go.Proofs.YticockdhfglolaaGreatDoor.Vm
/- An abstract machine over values: what a write, a new box, a new row leaves of the state. -/
namespace Go.Proofs.YticockdhfglolaaGreatDoor.Vm
open Go Go.RowKit
set_option linter.unusedVariables false
set_option linter.unusedSimpArgs false
theorem upd_len {α : Type} (l : List α) (off : Nat) (v : List α) (h : off + v.length ≤ l.length) : (upd l off v).length = l.length := by
  unfold upd; simp; omega
theorem upd_get {α : Type} (l : List α) (off : Nat) (v : List α) (h : off + v.length ≤ l.length) (j : Nat) : (upd l off v)[j]? = if off ≤ j ∧ j < off + v.length then v[j - off]? else l[j]? := by
  unfold upd
  have h1 : (l.take off).length = off := by simp; omega
  by_cases hj : j < off
  · rw [if_neg (by omega), List.append_assoc, List.getElem?_append_left (by omega), List.getElem?_take_of_lt hj]
  · by_cases hj2 : j < off + v.length
    · rw [if_pos ⟨by omega, hj2⟩, List.append_assoc, List.getElem?_append_right (by omega), h1, List.getElem?_append_left (by omega)]
    · rw [if_neg (by omega), List.getElem?_append_right (by simp; omega), List.getElem?_drop]
      congr 1
      simp
      omega
theorem putElem_cells (e : AV) (off : Nat) (v : AV) (h : off + v.cells.length ≤ e.cells.length) (h0 : 0 < v.cells.length) : (putElem e off v).cells = upd e.cells off v.cells := by
  have leaf : e.cells = [e] → putElem e off v = v → (putElem e off v).cells = upd e.cells off v.cells := by
    intro h1 h2
    rw [h2, h1]
    rw [h1] at h
    simp at h
    have : off = 0 := by omega
    subst this
    unfold upd
    have : v.cells.length = 1 := by omega
    simp [this]
  cases e <;> first | rfl | exact leaf rfl rfl
theorem BoxAt.heap {x : X} {base : Nat} {w w' : World} {n : Nat} {l : List AV} (h : BoxAt x base w n l) (hw : w'.heap[x.bx n]? = w.heap[x.bx n]?) : BoxAt x base w' n l := by
  obtain ⟨vals, ty, h1, h2⟩ := h
  exact ⟨vals, ty, hw.trans h1, h2⟩
theorem BoxAt.up {x x' : X} {base : Nat} {w : World} {n : Nat} {l : List AV} (h : BoxAt x base w n l) (hG : x.G.le x'.G) (hR : x.up x') (h1 : x'.bx n = x.bx n) (h2 : x'.bz n = x.bz n)
    (hb : ∀ m, noB.noL m l = false → x'.bx m = x.bx m ∧ x'.bz m = x.bz m) (hc : ∀ d, noC.noL d l = false → ∀ c, c / 64 = d → x'.tl c = x.tl c) : BoxAt x' base w n l := by
  obtain ⟨vals, ty, e1, e2, e3, e4⟩ := h
  refine ⟨vals, ty, by rw [h1]; exact e1, by rw [h2]; exact e2, by rw [h2]; exact e3, fun i e he => ?_⟩
  obtain ⟨e5, e6⟩ := e4 i e he
  refine ⟨by rw [h2]; exact e5, fun j c hcj => ?_⟩
  obtain ⟨e7, v, e8, e9, e10⟩ := e6 j c hcj
  have sub : ∀ m, noB m c = false → noB m e = false := by
    intro m hm
    cases e with
    | agg cs => exact noBL_get hcj hm
    | _ =>
      cases j with
      | zero => have := Option.some.inj hcj; rw [this]; exact hm
      | succ j => simp [AV.cells] at hcj
  have sub2 : ∀ m, noC m c = false → noC m e = false := by
    intro m hm
    cases e with
    | agg cs => exact noCL_get hcj hm
    | _ =>
      cases j with
      | zero => have := Option.some.inj hcj; rw [this]; exact hm
      | succ j => simp [AV.cells] at hcj
  exact ⟨e7, v, by rw [h2]; exact e8, e9, e10.up hG hR (fun m hm => hb m (noBL_get he (sub m hm))) (fun d hd => hc d (noCL_get he (sub2 d hd)))⟩
theorem look_setB (s : AS) (n m : Nat) (l : List AV) : look (s.setB n l).bxs m = if m = n then some l else look s.bxs m := look_setL n m l s.bxs
section
variable {E : EnvK} {x0 x : X} {w0 w : World} {pb nt : Nat} {a : Act} {s : AS}
theorem Fr.step {base : Nat} {S : Nat → Prop} {w0 w w' : World} (h : Fr base S w0 w) (h1 : w'.os = w.os) (h2 : w'.tape = w.tape) (h3 : w'.output = w.output) (h4 : w.heap.size ≤ w'.heap.size) (h5 : ∀ k, k < base → ¬ S k → w'.heap[k]? = w.heap[k]?) : Fr base S w0 w' :=
  ⟨h1.trans h.1, h2.trans h.2.1, h3.trans h.2.2.1, Nat.le_trans h.2.2.2.1 h4, fun k hk hs => (h5 k hk hs).trans (h.2.2.2.2 k hk hs)⟩
theorem box_lt (h : St E x0 w0 pb nt x a w s) {n : Nat} {l : List AV} (hl : look s.bxs n = some l) : x.bx n < w.heap.size := by
  obtain ⟨vals, ty, h1, _⟩ := (h.bxs n l hl).1
  exact (Array.getElem?_eq_some_iff.1 h1).1
theorem jok_set {J : Nat → Nat → Prop} {w w' : World} {b : Nat} {vals vals' : Array Value} {ty : Nat} (h : JOk J w) (s1 : w'.heap[b]? = some (.cells vals' ty (0, 0))) (s2 : vals'.size = vals.size) (s4 : ∀ k, k ≠ b → w'.heap[k]? = w.heap[k]?) (b1 : w.heap[b]? = some (.cells vals ty (0, 0))) : JOk J w' := by
  intro c o hc
  obtain ⟨vs, t, h1, h2⟩ := h c o hc
  by_cases e : c = b
  · subst e
    rw [b1] at h1
    obtain ⟨rfl, rfl⟩ : vals = vs ∧ ty = t := by injection h1 with h1; injection h1 with e1 e2; exact ⟨e1, e2⟩
    exact ⟨vals', ty, s1, by omega⟩
  · exact ⟨vs, t, (s4 c e).trans h1, h2⟩
theorem new_set {G : Gh} {base : Nat} {w w' : World} {b : Nat} {vals' : Array Value} {ty : Nat} (h : New00 G base w) (s1 : w'.heap[b]? = some (.cells vals' ty (0, 0))) (s4 : ∀ k, k ≠ b → w'.heap[k]? = w.heap[k]?) : New00 G base w' := by
  intro c o u vs t fz hc hg hh
  by_cases e : c = b
  · subst e
    rw [s1] at hh
    injection hh with hh; injection hh with _ _ e3; exact e3.symm
  · rw [s4 c e] at hh
    exact h c o u vs t fz hc hg hh
theorem jok_alloc {J : Nat → Nat → Prop} {w : World} (h : JOk J w) (o : Obj) : JOk J (w.alloc o) := by
  intro b c hc
  obtain ⟨vs, t, h1, h2⟩ := h b c hc
  exact ⟨vs, t, (alloc_old (Array.getElem?_eq_some_iff.1 h1).1).trans h1, h2⟩
theorem new_alloc {G : Gh} {base : Nat} {w : World} (h : New00 G base w) (vals : Array Value) (ty : Nat) : New00 G base (w.alloc (.cells vals ty)) := by
  intro b o u vs t fz hb hg hh
  rcases Nat.lt_trichotomy b w.heap.size with e | e | e
  · rw [alloc_old e] at hh; exact h b o u vs t fz hb hg hh
  · subst e
    rw [alloc_new] at hh
    injection hh with hh; injection hh with _ _ e3; exact e3.symm
  · have := (Array.getElem?_eq_some_iff.1 hh).1
    simp at this; omega
/-- A store into a box. -/
theorem St.store (h : St E x0 w0 pb nt x a w s) {n i o : Nat} {l : List AV} {e av : AV} {v : Value} (hl : look s.bxs n = some l) (he : l[i]? = some e) (r : Rel x w0.heap.size v av) (hok : av.cells.all okC = true) (h0 : 0 < av.cells.length) (hfit : o + av.cells.length ≤ e.cells.length) :
    (∃ vals ty, w.heap[x.bx n]? = some (.cells vals ty (0, 0)) ∧ (x.bz n).2 + i * (x.bz n).1 + o + v.cells.size ≤ vals.size) ∧
    St E x0 w0 pb nt x a (w.setCells (x.bx n) ((x.bz n).2 + i * (x.bz n).1 + o) v.cells.toList) (s.setB n (l.set i (putElem e o av))) := by
  obtain ⟨⟨vals, ty, b1, b2, b3, b4⟩, hwhere, hG⟩ := h.bxs n l hl
  obtain ⟨c1, c2, c3⟩ := rel_cells r hok
  obtain ⟨b5, b6⟩ := b4 i e he
  have hi : i < l.length := (List.getElem?_eq_some_iff.1 he).1
  have hmul : (i + 1) * (x.bz n).1 ≤ l.length * (x.bz n).1 := Nat.mul_le_mul_right _ hi
  have hfit2 : (x.bz n).2 + i * (x.bz n).1 + o + v.cells.size ≤ vals.size := by
    rw [c1]
    rw [Nat.add_mul] at hmul
    omega
  refine ⟨⟨vals, ty, b1, hfit2⟩, ?_⟩
  obtain ⟨vals', s1, s2, s3, s4, s5, s6, s7, s8⟩ := setCells_spec (x.bx n) v.cells.toList ((x.bz n).2 + i * (x.bz n).1 + o) w vals ty (0, 0) b1 (by simpa using hfit2)
  have hlen : v.cells.toList.length = av.cells.length := by simpa using c1
  refine { h with env := h.env, fr := ?_, ag := ?_, bxs := ?_, inj := ?_, tl := ?_, tlb := ?_, jp := ?_, uf := ?_, rgb := ?_, no := ?_ }
  · refine h.fr.step s6 s7 s8 (by omega) fun k hk hs => s4 k ?_
    rintro rfl
    rcases hwhere with hp | hp
    · exact hs (.inl ⟨n, hp, (h.pbx n hp).1⟩)
    · omega
  · intro b o' u hu
    have hne : b ≠ x.bx n := by rintro rfl; rw [hG o'] at hu; cases hu
    obtain ⟨c, ty', fz, g1, g2⟩ := h.ag b o' u hu
    exact ⟨c, ty', fz, (s4 b hne).trans g1, g2⟩
  · intro m l' hm
    rw [look_setB] at hm
    by_cases hmn : m = n
    · subst hmn
      rw [if_pos rfl] at hm
      obtain rfl := Option.some.inj hm
      refine ⟨⟨vals', ty, s1, by rw [s2]; simpa using b2, b3, fun k e' he' => ?_⟩, hwhere, hG⟩
      by_cases hk : k = i
      · subst hk
        rw [List.getElem?_set_self hi] at he'
        obtain rfl := Option.some.inj he'
        rw [putElem_cells e o av hfit h0]
        refine ⟨by rw [upd_len _ _ _ hfit]; exact b5, fun j c hc => ?_⟩
        rw [upd_get _ _ _ hfit] at hc
        rw [s3, hlen]
        by_cases hj : o ≤ j ∧ j < o + av.cells.length
        · rw [if_pos hj] at hc
          rw [if_pos (by omega), show (x.bz m).2 + k * (x.bz m).1 + j - ((x.bz m).2 + k * (x.bz m).1 + o) = j - o by omega]
          obtain ⟨u, hu, hr, h1⟩ := c2 (j - o) c hc
          exact ⟨List.all_eq_true.1 hok c (List.mem_of_getElem? hc), u, by simpa using hu, h1, hr⟩
        · rw [if_neg hj] at hc
          rw [if_neg (by omega)]
          exact b6 j c hc
      · rw [List.getElem?_set_ne (fun e => hk e.symm)] at he'
        obtain ⟨b7, b8⟩ := b4 k e' he'
        refine ⟨b7, fun j c hc => ?_⟩
        obtain ⟨d1, u, d2, d3, d4⟩ := b8 j c hc
        have hjlt : j < e'.cells.length := (List.getElem?_eq_some_iff.1 hc).1
        refine ⟨d1, u, ?_, d3, d4⟩
        rw [s3, if_neg, d2]
        rw [hlen]
        rcases Nat.lt_or_gt_of_ne hk with hlt | hgt
        · have : (k + 1) * (x.bz m).1 ≤ i * (x.bz m).1 := Nat.mul_le_mul_right _ hlt
          rw [Nat.add_mul] at this
          omega
        · have : (i + 1) * (x.bz m).1 ≤ k * (x.bz m).1 := Nat.mul_le_mul_right _ hgt
          rw [Nat.add_mul] at this
          omega
    · rw [if_neg hmn] at hm
      obtain ⟨g1, g2, g3⟩ := h.bxs m l' hm
      exact ⟨g1.heap (s4 _ (fun e => hmn (h.inj m n l' l hm hl e))), g2, g3⟩
  · intro m k lm lk hm hk e
    rw [look_setB] at hm hk
    have h1 : ∃ l', look s.bxs m = some l' := by
      by_cases hmn : m = n
      · exact ⟨l, by rw [hmn]; exact hl⟩
      · rw [if_neg hmn] at hm; exact ⟨lm, hm⟩
    have h2 : ∃ l', look s.bxs k = some l' := by
      by_cases hmn : k = n
      · exact ⟨l, by rw [hmn]; exact hl⟩
      · rw [if_neg hmn] at hk; exact ⟨lk, hk⟩
    obtain ⟨l1, h1⟩ := h1
    obtain ⟨l2, h2⟩ := h2
    exact h.inj m k l1 l2 h1 h2 e
  · refine ⟨fun c b e' t ht => ?_, h.tl.2⟩
    obtain ⟨t1, ⟨vals2, ty2, t2, t3⟩, t4⟩ := h.tl.1 c b e' t ht
    exact ⟨t1, ⟨vals2, ty2, (s4 b (fun eq => h.tlb c b e' t ht n l hl eq.symm)).trans t2, t3⟩, t4⟩
  · intro c b e' t ht m lm hm
    rw [look_setB] at hm
    by_cases hmn : m = n
    · rw [hmn]; exact h.tlb c b e' t ht n l hl
    · rw [if_neg hmn] at hm; exact h.tlb c b e' t ht m lm hm
  · exact jok_set h.jp s1 s2 s4 b1
  · exact new_set h.uf s1 s4
  · intro t b hb
    obtain ⟨r1, r2⟩ := h.rgb t b hb
    exact ⟨by omega, r2⟩
  · refine (h.no.grow (by omega)).sub fun m l' hm => ?_
    rw [look_setB] at hm
    by_cases hmn : m = n
    · exact ⟨l, by rw [hmn]; exact hl⟩
    · rw [if_neg hmn] at hm; exact ⟨l', hm⟩
/-- A store into junk. -/
theorem St.storeJ (h : St E x0 w0 pb nt x a w s) {b o : Nat} (hj : x.J b o) (v : Value) : ∃ vals ty, w.heap[b]? = some (.cells vals ty (0, 0)) ∧ o < vals.size ∧ St E x0 w0 pb nt x a (w.setCells b o [v]) s := by
  have hj' := hj
  rw [h.jx] at hj'
  obtain ⟨vals, ty, b1, b2⟩ := h.jp b o hj'
  obtain ⟨j1, j2, j3, j4⟩ := h.j0 b o hj'
  have hG : x.G b o = none := by
    cases hx : x.G b o with
    | none => rfl
    | some u => rw [h.g2 b o u hx j1] at j3; cases j3
  have hbox : ∀ n l, look s.bxs n = some l → x.bx n ≠ b := by
    intro n l hl
    rcases (h.bxs n l hl).2.1 with hp | hp
    · rw [(h.pbx n hp).1]; exact j4 n hp
    · omega
  obtain ⟨vals', s1, s2, s3, s4, s5, s6, s7, s8⟩ := setCells_spec b [v] o w vals ty (0, 0) b1 (by simp; omega)
  refine ⟨vals, ty, b1, b2, { h with env := h.env, fr := ?_, ag := ?_, bxs := ?_, tl := ?_, jp := jok_set h.jp s1 s2 s4 b1, uf := new_set h.uf s1 s4, rgb := fun t k hk => ⟨by have := (h.rgb t k hk).1; omega, (h.rgb t k hk).2⟩, no := h.no.grow (by omega) }⟩
  · exact h.fr.step s6 s7 s8 (by omega) fun k hk hs => s4 k (by rintro rfl; exact hs (.inr ⟨o, hj'⟩))
  · intro b' o' u hu
    obtain ⟨c, ty', fz, g1, g2⟩ := h.ag b' o' u hu
    by_cases hb : b' = b
    · subst hb
      rw [b1] at g1
      injection g1 with g1; injection g1 with e1 e2 e3
      subst e1
      refine ⟨vals', ty, (0, 0), s1, ?_⟩
      rw [s3, if_neg, g2]
      rintro ⟨q1, q2⟩
      obtain rfl : o' = o := by simp at q2; omega
      rw [hG] at hu; cases hu
    · exact ⟨c, ty', fz, (s4 b' hb).trans g1, g2⟩
  · intro n l hl
    obtain ⟨g1, g2, g3⟩ := h.bxs n l hl
    exact ⟨g1.heap (s4 _ (hbox n l hl)), g2, g3⟩
  · refine ⟨fun c b' e t ht => ?_, h.tl.2⟩
    obtain ⟨t1, ⟨vals2, ty2, t2, t3⟩, t4⟩ := h.tl.1 c b' e t ht
    exact ⟨t1, ⟨vals2, ty2, (s4 b' (by omega)).trans t2, t3⟩, t4⟩
theorem noB_of {n m : Nat} (h : (s.putO (some n) .un).noB m = true) (u : Nat) (hu : u ≠ n) : noB m (s.get u) = true := by
  simp only [AS.noB, Bool.and_eq_true] at h
  unfold AS.get
  cases hl : look s.env u with
  | none => rfl
  | some v =>
    have : look (s.putO (some n) .un).env u = some v := by
      show look (setL n .un s.env) u = _
      rw [look_setL, if_neg hu, hl]
    exact allV_get h.1 this
theorem noB_box {n m : Nat} (h : (s.putO (some n) .un).noB m = true) {k : Nat} {l : List AV} (hl : look s.bxs k = some l) : noB.noL m l = true := by
  simp only [AS.noB, Bool.and_eq_true] at h
  exact allV_get h.2 hl
theorem noC_of {n m : Nat} (h : (s.putO (some n) .un).noC m = true) (u : Nat) (hu : u ≠ n) : noC m (s.get u) = true := by
  simp only [AS.noC, Bool.and_eq_true] at h
  unfold AS.get
  cases hl : look s.env u with
  | none => rfl
  | some v =>
    have : look (s.putO (some n) .un).env u = some v := by
      show look (setL n .un s.env) u = _
      rw [look_setL, if_neg hu, hl]
    exact allV_get h.1 this
theorem noC_box {n m : Nat} (h : (s.putO (some n) .un).noC m = true) {k : Nat} {l : List AV} (hl : look s.bxs k = some l) : noC.noL m l = true := by
  simp only [AS.noC, Bool.and_eq_true] at h
  exact allV_get h.2 hl
end
end Go.Proofs.YticockdhfglolaaGreatDoor.Vm
/- An abstract machine over values: new blocks. -/
namespace Go.Proofs.YticockdhfglolaaGreatDoor.Vm
open Go Go.RowKit
set_option linter.unusedVariables false
set_option linter.unusedSimpArgs false
section
variable {E : EnvK} {x0 x : X} {w0 w : World} {pb nt : Nat} {a : Act} {s : AS}
theorem fr_alloc (h : St E x0 w0 pb nt x a w s) (o : Obj) : Fr w0.heap.size (SBx pb x0) w0 (w.alloc o) :=
  h.fr.step rfl rfl rfl (by simp) fun k hk _ => alloc_old (by have := h.fr.2.2.2.1; omega)
theorem agree_alloc {G : Gh} (h : Agree G w) (o : Obj) : Agree G (w.alloc o) := by
  intro b p v hv
  obtain ⟨c, ty, fz, h1, h2⟩ := h b p v hv
  exact ⟨c, ty, fz, (alloc_old (agree_lt h hv)).trans h1, h2⟩
theorem agree_new {G : Gh} (h : Agree G w) (o : Nat) : G w.heap.size o = none := by
  cases hg : G w.heap.size o with
  | none => rfl
  | some v => have := agree_lt h hg; omega
/-- A new box. -/
theorem St.newBox (h : St E x0 w0 pb nt x a w s) {t : Nat} (ht : t < nt) {l : List AV} {sz : Nat} {vals : Array Value} {ty : Nat} (hfree : (s.putO (some t) .un).noB (1000000000000 + t) = true) (hl : noB.noL (1000000000000 + t) l = true) (hsz : 0 < sz) (hsize : vals.size = l.length * sz)
    (hcells : ∀ (i : Nat) (e : AV), l[i]? = some e → e.cells.length = sz ∧ ∀ (j : Nat) (c : AV), e.cells[j]? = some c → okC c = true ∧ ∃ v, vals[i * sz + j]? = some v ∧ v.oneCell' = true ∧ Rel x w0.heap.size v c)
    {v : Value} {av : AV} (hv : ∀ x' : X, x'.bx (1000000000000 + t) = w.heap.size → x'.bz (1000000000000 + t) = (sz, 0) → Rel x' w0.heap.size v av) :
    ∃ x', St E x0 w0 pb nt x' (a.put (some t) v) (w.alloc (.cells vals ty)) ((s.setB (1000000000000 + t) l).put t av) := by
  refine ⟨{ x with bx := fun m => if m = 1000000000000 + t then w.heap.size else x.bx m, bz := fun m => if m = 1000000000000 + t then (sz, 0) else x.bz m }, ?_⟩
  have up : ∀ {u : Value} {c : AV}, Rel x w0.heap.size u c → noB (1000000000000 + t) c = true → Rel { x with bx := fun m => if m = 1000000000000 + t then w.heap.size else x.bx m, bz := fun m => if m = 1000000000000 + t then (sz, 0) else x.bz m } w0.heap.size u c := by
    intro u c r hn
    refine Rel.up (x := x) (x' := { x with bx := fun m => if m = 1000000000000 + t then w.heap.size else x.bx m, bz := fun m => if m = 1000000000000 + t then (sz, 0) else x.bz m }) (fun _ _ _ h => h) ⟨fun _ _ h => h, fun _ _ h => h, fun _ => rfl, fun _ _ h => h⟩ r (fun m hm => ?_) (fun _ _ _ _ => rfl)
    have : m ≠ 1000000000000 + t := by rintro rfl; rw [hn] at hm; cases hm
    exact ⟨if_neg this, if_neg this⟩
  have hpb := h.pbl
  refine { df := by rw [defers_put]; exact h.df, nt := by rw [size_put]; exact h.nt, ntl := h.ntl, env := ?_, k := h.k, fr := fr_alloc h _, ag := agree_alloc h.ag _, g1 := h.g1, g2 := h.g2, pbx := fun n hn => ?_, pbl := h.pbl, bxs := ?_, inj := ?_, tl := ?_, tlb := ?_, jp := jok_alloc h.jp _, j0 := h.j0, jx := h.jx, uf := new_alloc h.uf _ _, rgb := fun t b hb => ⟨by have := (h.rgb t b hb).1; simp; omega, (h.rgb t b hb).2⟩, rgd := h.rgd, g0 := h.g0, no := ⟨h.no.ka, h.no.fa, h.no.ia, fun k b hb => by have := h.no.ba k b hb; simp; omega, h.no.ta, ?_, h.no.ra, h.no.qa, h.no.za⟩ }
  · intro u
    rw [rd_put fun u hu => by obtain rfl := Option.some.inj hu; have := h.ntl; omega]
    simp only [get_put, get_setB]
    by_cases hu : u = t
    · rw [if_pos ⟨hu, by rw [h.nt]; exact ht⟩, if_pos hu]
      exact hv _ (if_pos rfl) (if_pos rfl)
    · rw [if_neg (fun e => hu e.1), if_neg hu]
      exact up (h.env u) (noB_of hfree u hu)
  · have : n ≠ 1000000000000 + t := by omega
    simp only [if_neg this]
    exact h.pbx n hn
  · intro n l' hn
    rw [bxs_put, look_setB] at hn
    by_cases hnn : n = 1000000000000 + t
    · subst hnn
      rw [if_pos rfl] at hn
      obtain rfl := Option.some.inj hn
      refine ⟨⟨vals, ty, ?_, ?_, ?_, ?_⟩, ?_, ?_⟩
      · simp only [if_true]; exact alloc_new
      · simp only [if_true]; omega
      · simp only [if_true]; exact hsz
      · intro i e he
        simp only [if_true]
        obtain ⟨e1, e2⟩ := hcells i e he
        refine ⟨e1, fun j c hc => ?_⟩
        obtain ⟨e3, u, e4, e5, e6⟩ := e2 j c hc
        refine ⟨e3, u, by simpa using e4, e5, up e6 ?_⟩
        have h1 := noBL_all hl he
        cases e with
        | agg cs => exact noBL_all h1 hc
        | _ =>
          cases j with
          | zero => have := Option.some.inj hc; rw [← this]; exact h1
          | succ j => simp [AV.cells] at hc
      · right; simp only [if_true]; exact h.fr.2.2.2.1
      · intro o; simp only [if_true]; exact agree_new h.ag o
    · rw [if_neg hnn] at hn
      obtain ⟨g1, g2, g3⟩ := h.bxs n l' hn
      have hlt := box_lt h hn
      refine ⟨(BoxAt.up (x := x) (x' := { x with bx := fun m => if m = 1000000000000 + t then w.heap.size else x.bx m, bz := fun m => if m = 1000000000000 + t then (sz, 0) else x.bz m }) g1 (fun _ _ _ h => h) ⟨fun _ _ h => h, fun _ _ h => h, fun _ => rfl, fun _ _ h => h⟩ (if_neg hnn) (if_neg hnn) (fun m hm => ?_) (fun _ _ _ _ => rfl)).heap ?_, ?_, ?_⟩
      · have : m ≠ 1000000000000 + t := by rintro rfl; rw [noB_box hfree hn] at hm; cases hm
        exact ⟨if_neg this, if_neg this⟩
      · simp only [if_neg hnn]; exact alloc_old hlt
      · simp only [if_neg hnn]; exact g2
      · simp only [if_neg hnn]; exact g3
  · intro n m ln lm hn hm e
    rw [bxs_put, look_setB] at hn hm
    by_cases h1 : n = 1000000000000 + t
    · by_cases h2 : m = 1000000000000 + t
      · rw [h1, h2]
      · rw [if_neg h2] at hm
        have hlt := box_lt h hm
        simp only [if_pos h1, if_neg h2] at e
        omega
    · rw [if_neg h1] at hn
      by_cases h2 : m = 1000000000000 + t
      · have hlt := box_lt h hn
        simp only [if_pos h2, if_neg h1] at e
        omega
      · rw [if_neg h2] at hm
        simp only [if_neg h1, if_neg h2] at e
        exact h.inj n m ln lm hn hm e
  · refine ⟨fun c b e tt htt => ?_, h.tl.2⟩
    obtain ⟨t1, ⟨vals2, ty2, t2, t3⟩, t4⟩ := h.tl.1 c b e tt htt
    exact ⟨t1, ⟨vals2, ty2, (alloc_old (Array.getElem?_eq_some_iff.1 t2).1).trans t2, t3⟩, t4⟩
  · intro c b e tt htt n ln hn
    rw [bxs_put, look_setB] at hn
    obtain ⟨t1, ⟨vals2, ty2, t2, t3⟩, t4⟩ := h.tl.1 c b e tt htt
    have hlt := (Array.getElem?_eq_some_iff.1 t2).1
    by_cases h1 : n = 1000000000000 + t
    · simp only [if_pos h1]; omega
    · rw [if_neg h1] at hn
      simp only [if_neg h1]
      exact h.tlb c b e tt htt n ln hn
  · intro k n ln hn hk
    rw [bxs_put, look_setB] at hn
    by_cases h1 : n = 1000000000000 + t
    · simp only [if_pos h1] at hk
      have := h.no.ba k _ hk
      omega
    · rw [if_neg h1] at hn
      simp only [if_neg h1] at hk
      exact h.no.xa k n ln hn hk
/-- the known cells of a new row -/
def Gh.row (G : Gh) (b o : Nat) (f : Nat → Value) (n : Nat) : Gh := fun b' o' => if b' = b ∧ o ≤ o' ∧ o' < o + n then some (f (o' - o)) else G b' o'
/-- A row's new cells: in a new block, or behind what a class has. -/
theorem St.row (h : St E x0 w0 pb nt x a w s) {w' : World} {b o n c0 e1 t1 : Nat} {f : Nat → Value} {s' : AS} (hb : w0.heap.size ≤ b) (hnone : ∀ o', o ≤ o' → o' < o + n → x.G b o' = none)
    (hblk : ∃ vals ty, w'.heap[b]? = some (.cells vals ty (0, 0)) ∧ t1 ≤ vals.size ∧ (∀ k, k < n → vals[o + k]? = some (f k)) ∧ ∀ o' v, x.G b o' = some v → vals[o']? = some v)
    (hother : ∀ k, k ≠ b → k < w.heap.size → w'.heap[k]? = w.heap[k]?) (hsz : w.heap.size ≤ w'.heap.size) (ho : w'.os = w.os ∧ w'.tape = w.tape ∧ w'.output = w.output)
    (henv : ∀ u, Rel { x with G := x.G.row b o f n, tl := fun c => if c = c0 then some (b, e1, t1) else x.tl c } w0.heap.size (rd x0 a u) (s'.get u))
    (hbxs : ∀ m l', look s'.bxs m = some l' → (∃ l, look s.bxs m = some l) ∧ BoxAt { x with G := x.G.row b o f n, tl := fun c => if c = c0 then some (b, e1, t1) else x.tl c } w0.heap.size w m l')
    (hnob : ∀ m l, look s.bxs m = some l → x.bx m ≠ b) (he : ∀ o', e1 ≤ o' → (x.G.row b o f n) b o' = none) (huniq : ∀ c e t, x.tl c = some (b, e, t) → c = c0) (hnw : ∀ k, k ≠ b → w.heap.size ≤ k → w'.heap[k]? = none) (hnm : ∀ k, x.nb k ≠ some b) (hrg : ∀ T, ¬ x.rg T b) :
    St E x0 w0 pb nt { x with G := x.G.row b o f n, tl := fun c => if c = c0 then some (b, e1, t1) else x.tl c } a w' s' := by
  have hG : ∀ b' o', b' ≠ b → (x.G.row b o f n) b' o' = x.G b' o' := by intro b' o' hne; unfold Gh.row; rw [if_neg (fun e => hne e.1)]
  have hGle : x.G.le (x.G.row b o f n) := by
    intro b' o' v hv
    unfold Gh.row
    split
    · rename_i hc
      obtain ⟨rfl, h1, h2⟩ := hc
      rw [hnone o' h1 h2] at hv; cases hv
    · exact hv
  obtain ⟨vals, ty, v1, v2, v3, v4⟩ := hblk
  refine { df := h.df, nt := h.nt, ntl := h.ntl, env := henv, k := h.k, fr := ?_, ag := ?_, g1 := fun b' o' v hv => hGle _ _ _ (h.g1 b' o' v hv), g2 := ?_, pbx := h.pbx, pbl := h.pbl, bxs := ?_, inj := ?_, tl := ?_, tlb := ?_, jp := ?_, j0 := h.j0, jx := h.jx, uf := ?_, rgb := fun t k hk => ⟨Nat.lt_of_lt_of_le (h.rgb t k hk).1 hsz, (h.rgb t k hk).2⟩, rgd := h.rgd, g0 := h.g0, no := ⟨h.no.ka, h.no.fa, h.no.ia, fun k b hb => Nat.lt_of_lt_of_le (h.no.ba k b hb) hsz, fun k c b' e t ht => ?_, fun k n l' hn => ?_, h.no.ra, fun T b' c e t ht => ?_, h.no.za⟩ }
  · exact h.fr.step ho.1 ho.2.1 ho.2.2 hsz fun k hk _ => hother k (by omega) (by have := h.fr.2.2.2.1; omega)
  · intro b' o' v hv
    by_cases hbb : b' = b
    · subst hbb
      refine ⟨vals, ty, (0, 0), v1, ?_⟩
      change (x.G.row b' o f n) b' o' = some v at hv
      unfold Gh.row at hv
      split at hv
      · rename_i hc
        obtain rfl := Option.some.inj hv
        have := v3 (o' - o) (by omega)
        rwa [show o + (o' - o) = o' by omega] at this
      · exact v4 o' v hv
    · have hv' : x.G b' o' = some v := by rw [← hG b' o' hbb]; exact hv
      obtain ⟨c, ty', fz, g1, g2⟩ := h.ag b' o' v hv'
      exact ⟨c, ty', fz, (hother b' hbb (agree_lt h.ag hv')).trans g1, g2⟩
  · intro b' o' v hv hlt
    have hbb : b' ≠ b := by omega
    exact h.g2 b' o' v (by rw [← hG b' o' hbb]; exact hv) hlt
  · intro m l' hm
    obtain ⟨⟨l, hl⟩, hbx⟩ := hbxs m l' hm
    obtain ⟨g1, g2, g3⟩ := h.bxs m l hl
    have hne := hnob m l hl
    refine ⟨hbx.heap (hother _ hne (box_lt h hl)), g2, fun o' => ?_⟩
    exact (hG _ _ hne).trans (g3 o')
  · intro m k lm lk hm hk e
    obtain ⟨⟨l1, h1⟩, _⟩ := hbxs m lm hm
    obtain ⟨⟨l2, h2⟩, _⟩ := hbxs k lk hk
    exact h.inj m k l1 l2 h1 h2 e
  · refine ⟨fun c b' e t ht => ?_, fun c c' b' e t e' t' ht ht' => ?_⟩
    · by_cases hc : c = c0
      · simp only [if_pos hc] at ht
        obtain ⟨rfl, rfl, rfl⟩ : b = b' ∧ e1 = e ∧ t1 = t := by simpa using ht
        exact ⟨hb, ⟨vals, ty, v1, v2⟩, he⟩
      · simp only [if_neg hc] at ht
        obtain ⟨t1', ⟨vals2, ty2, t2, t3⟩, t4⟩ := h.tl.1 c b' e t ht
        have hbb : b' ≠ b := by rintro rfl; exact hc (huniq c e t ht)
        exact ⟨t1', ⟨vals2, ty2, (hother b' hbb (Array.getElem?_eq_some_iff.1 t2).1).trans t2, t3⟩, fun o' ho' => (hG _ _ hbb).trans (t4 o' ho')⟩
    · by_cases hc : c = c0
      · by_cases hc' : c' = c0
        · rw [hc, hc']
        · simp only [if_pos hc, if_neg hc'] at ht ht'
          obtain ⟨rfl, _, _⟩ : b = b' ∧ e1 = e ∧ t1 = t := by simpa using ht
          exact (hc' (huniq c' e' t' ht')).elim
      · by_cases hc' : c' = c0
        · simp only [if_neg hc, if_pos hc'] at ht ht'
          obtain ⟨rfl, _, _⟩ : b = b' ∧ e1 = e' ∧ t1 = t' := by simpa using ht'
          exact (hc (huniq c e t ht)).elim
        · simp only [if_neg hc, if_neg hc'] at ht ht'
          exact h.tl.2 c c' b' e t e' t' ht ht'
  · intro c b' e t ht m l' hm
    obtain ⟨⟨l, hl⟩, _⟩ := hbxs m l' hm
    by_cases hc : c = c0
    · simp only [if_pos hc] at ht
      obtain ⟨rfl, _, _⟩ : b = b' ∧ e1 = e ∧ t1 = t := by simpa using ht
      exact hnob m l hl
    · simp only [if_neg hc] at ht
      exact h.tlb c b' e t ht m l hl
  · intro b' o' hj
    obtain ⟨vs, t, q1, q2⟩ := h.jp b' o' hj
    have := (h.j0 b' o' hj).1
    exact ⟨vs, t, (hother b' (by omega) (Array.getElem?_eq_some_iff.1 q1).1).trans q1, q2⟩
  · intro k o' u vs t fz hk hg hh
    by_cases hkb : k = b
    · subst hkb
      rw [v1] at hh
      injection hh with hh; injection hh with _ _ e3; exact e3.symm
    · rcases Nat.lt_or_ge k w.heap.size with hl | hl
      · rw [hother k hkb hl] at hh; exact h.uf k o' u vs t fz hk ((hG k o' hkb).symm.trans hg) hh
      · rw [hnw k hkb hl] at hh; cases hh
  · by_cases hc : c = c0
    · simp only [if_pos hc] at ht
      obtain ⟨rfl, _, _⟩ : b = b' ∧ e1 = e ∧ t1 = t := by simpa using ht
      exact hnm k
    · simp only [if_neg hc] at ht
      exact h.no.ta k c b' e t ht
  · obtain ⟨⟨l, hl⟩, _⟩ := hbxs n l' hn
    exact h.no.xa k n l hl
  · by_cases hc : c = c0
    · simp only [if_pos hc] at ht
      obtain ⟨rfl, _, _⟩ : b = b' ∧ e1 = e ∧ t1 = t := by simpa using ht
      exact hrg T
    · simp only [if_neg hc] at ht
      exact h.no.qa T b' c e t ht
end
end Go.Proofs.YticockdhfglolaaGreatDoor.Vm
/- An abstract machine over values: values that are put together. -/
namespace Go.Proofs.YticockdhfglolaaGreatDoor.Vm
open Go Go.RowKit
set_option linter.unusedVariables false
set_option linter.unusedSimpArgs false
theorem zipfold (off : Nat) : ∀ (l : List Value) (k : Nat) (cells : Array Value), off + k + l.length ≤ cells.size →
    ((l.zipIdx k).foldl (fun cs p => cs.setIfInBounds (off + p.2) p.1) cells).size = cells.size ∧ ∀ p, ((l.zipIdx k).foldl (fun cs p => cs.setIfInBounds (off + p.2) p.1) cells)[p]? = if off + k ≤ p ∧ p < off + k + l.length then l[p - off - k]? else cells[p]?
  | [], k, cells, _ => ⟨rfl, fun p => by rw [if_neg (fun h => by have := h.2; simp at this; omega)]; rfl⟩
  | v :: l, k, cells, h => by
    simp only [List.length_cons] at h
    obtain ⟨h1, h2⟩ := zipfold off l (k + 1) (cells.setIfInBounds (off + k) v) (by simp; omega)
    simp only [List.zipIdx_cons, List.foldl_cons]
    refine ⟨by rw [h1]; simp, fun p => ?_⟩
    rw [h2]
    simp only [List.length_cons]
    by_cases hp : p = off + k
    · subst hp
      rw [if_neg (by omega), if_pos (by omega), Array.getElem?_setIfInBounds_self_of_lt (by omega), show off + k - off - k = 0 by omega]
      rfl
    · by_cases h3 : off + (k + 1) ≤ p ∧ p < off + (k + 1) + l.length
      · rw [if_pos h3, if_pos (by omega), show p - off - k = (p - off - (k + 1)) + 1 by omega, List.getElem?_cons_succ]
      · rw [if_neg h3, if_neg (by omega), Array.getElem?_setIfInBounds_ne (by omega)]
theorem fill_cons {place : Nat → Option (Nat × Nat)} {cells : Array Value} {i off size : Nat} {v : Value} {rest : List (Nat × Value)} (hp : place i = some (off, size)) (h1 : v.cells.size = size) (h2 : off + v.cells.size ≤ cells.size) :
    ∃ cells', Instr.fill place cells ((i, v) :: rest) = Instr.fill place cells' rest ∧ cells'.size = cells.size ∧ ∀ p, cells'[p]? = if off ≤ p ∧ p < off + v.cells.size then v.cells[p - off]? else cells[p]? := by
  obtain ⟨e1, e2⟩ := zipfold off v.cells.toList 0 cells (by simpa using h2)
  refine ⟨v.cells.zipIdx.foldl (fun cs p => cs.setIfInBounds (off + p.2) p.1) cells, ?_, ?_, ?_⟩
  · conv => lhs; unfold Instr.fill
    simp only [hp]
    rw [if_neg (by simp; omega)]
  · rw [← Array.foldl_toList, Array.toList_zipIdx]
    exact e1
  · intro p
    rw [← Array.foldl_toList, Array.toList_zipIdx, e2 p]
    simp
section
variable {E : EnvK} {x0 x : X} {w0 w : World} {pb nt : Nat} {a : Act} {s : AS}
theorem fill_sparts (ρ : Operand → Value) (sz : Nat) : ∀ (ps : List (Nat × Operand)) (xs : List Od) (i : Nat) (cells : Array Value), sparts i ps = some xs → (∀ p ∈ ps, (ρ p.2).cells.size = sz) → (i + ps.length) * sz ≤ cells.size →
    ∃ cells', Instr.fill (fun i => some (i * sz, sz)) cells (ps.map fun p => (p.1, ρ p.2)) = some cells' ∧ cells'.size = cells.size ∧ (∀ p, p < i * sz → cells'[p]? = cells[p]?) ∧
      ∀ k v, (ps.map fun p => ρ p.2)[k]? = some v → ∀ j, j < sz → cells'[(i + k) * sz + j]? = v.cells[j]?
  | [], xs, i, cells, h, _, _ => ⟨cells, rfl, rfl, fun _ _ => rfl, fun k v hv => by simp at hv⟩
  | (m, o) :: ps, xs, i, cells, h, hs, hl => by
    simp only [sparts] at h
    split at h
    · rename_i hm
      subst hm
      obtain ⟨y, hy, h⟩ := Option.bind_eq_some_iff.1 h
      obtain ⟨r, hr, h⟩ := Option.bind_eq_some_iff.1 h
      simp only [List.length_cons] at hl
      have hc : (ρ o).cells.size = sz := hs (m, o) (by simp)
      have e1 : (m + (ps.length + 1)) * sz = m * sz + ps.length * sz + sz := by rw [Nat.add_mul, Nat.add_mul]; omega
      obtain ⟨c1, f1, f2, f3⟩ := fill_cons (place := fun i => some (i * sz, sz)) (cells := cells) (i := m) (v := ρ o) (rest := ps.map fun p => (p.1, ρ p.2)) rfl hc (by omega)
      obtain ⟨c2, g1, g2, g3, g4⟩ := fill_sparts ρ sz ps r (m + 1) c1 hr (fun p hp => hs p (by simp [hp])) (by rw [f2, show m + 1 + ps.length = m + (ps.length + 1) by omega]; exact hl)
      have e2 : (m + 1) * sz = m * sz + sz := by rw [Nat.add_mul]; omega
      refine ⟨c2, by rw [List.map_cons, f1]; exact g1, g2.trans f2, fun p hp => ?_, fun k v hv j hj => ?_⟩
      · rw [g3 p (by omega), f3, if_neg (by omega)]
      · cases k with
        | zero =>
          obtain rfl : ρ o = v := by simpa using hv
          rw [Nat.add_zero, g3 _ (by omega), f3, if_pos (by omega), show m * sz + j - m * sz = j by omega]
        | succ k =>
          have := g4 k v (by simpa using hv) j hj
          rwa [show m + 1 + k = m + (k + 1) by omega] at this
    · cases h
theorem run_buildSlice {P : Program} {t e sz n : Nat} {ps : Array (Nat × Operand)} {xs : List Od} {z : Value} (h : P.underlying t = some (.slice e)) (hz : szOf P e = some sz) (hzero : zeroOf P e = some z) (hp : sparts 0 ps.toList = some xs) (hn : ps.size = n) (ρ : Operand → Value) (hs : ∀ p ∈ ps.toList, (ρ p.2).cells.size = sz) (h24 : n * sz ≤ 16777216) (w : World) :
    ∃ cells, (Instr.buildSlice t n (ps.map fun p => (p.1, ρ p.2))).run P w = .ok (.slice (some ⟨w.heap.size, 0, none⟩) n n) (w.alloc (.cells cells e)) ∧ cells.size = n * sz ∧ ∀ k v, (ps.toList.map fun p => ρ p.2)[k]? = some v → ∀ j, j < sz → cells[k * sz + j]? = v.cells[j]? := by
  unfold zeroOf at hzero
  obtain ⟨i, hi, hiz⟩ := Option.bind_eq_some_iff.1 hzero
  by_cases h0 : n * sz = 0
  · obtain ⟨cells, f1, f2, f3, f4⟩ := fill_sparts ρ sz ps.toList xs 0 ((Array.range (n * sz)).map ((#[] : Array Value)[· % (#[] : Array Value).size]!)) hp hs (by simp [hn])
    refine ⟨cells, ?_, by rw [f2]; simp, fun k v hv j hj => by have := f4 k v hv j hj; rwa [Nat.zero_add] at this⟩
    unfold Instr.buildSlice
    simp only [Sem.run_bind, run_underlying h, Result.andThen_ok, run_szOf hz, if_neg (show ¬ n * sz > 2 ^ 24 by omega), Sem.run_pure, h0, if_true, Array.toList_map]
    rw [h0] at f1
    rw [if_neg (by decide)]
    simp only [Sem.run_bind, Sem.run_pure, Result.andThen_ok, f1, newRow, run_newObj]
    rfl
  · obtain ⟨cells, f1, f2, f3, f4⟩ := fill_sparts ρ sz ps.toList xs 0 ((Array.range (n * sz)).map (z.cells[· % z.cells.size]!)) hp hs (by simp [hn])
    refine ⟨cells, ?_, by rw [f2]; simp, fun k v hv j hj => by have := f4 k v hv j hj; rwa [Nat.zero_add] at this⟩
    have hzv : (zeroValue e).run P w = .ok z w := by simp [zeroValue, typeInfo, hi, hiz]
    unfold Instr.buildSlice
    simp only [Sem.run_bind, run_underlying h, Result.andThen_ok, run_szOf hz, if_neg (show ¬ n * sz > 2 ^ 24 by omega), Sem.run_pure, h0, if_false, hzv, Array.toList_map]
    simp only [f1, newRow, Sem.run_bind, run_newObj, Result.andThen_ok, Sem.run_pure]
    rfl
theorem sparts_spec (h : ∀ t, Rel x w0.heap.size (rd x0 a t) (s.get t)) : ∀ {ps : List (Nat × Operand)} {xs : List Od} {i : Nat}, sparts i ps = some xs → xs.length = ps.length ∧ ∀ (k : Nat) (v : Value) (c : AV), (ps.map fun p => a.eval p.2)[k]? = some v → (s.vals xs)[k]? = some c → Rel x w0.heap.size v c
  | [], xs, i, hp => by obtain rfl := Option.some.inj hp; simp [AS.vals]
  | (m, o) :: ps, xs, i, hp => by
    simp only [sparts] at hp
    split at hp
    · obtain ⟨y, hy, hp⟩ := Option.bind_eq_some_iff.1 hp
      obtain ⟨r, hr, hp⟩ := Option.bind_eq_some_iff.1 hp
      obtain rfl := Option.some.inj hp
      obtain ⟨i1, i2⟩ := sparts_spec h hr
      refine ⟨by simp [i1], fun k v c hv hc => ?_⟩
      cases k with
      | zero =>
        simp [AS.vals] at hv hc
        subst hv hc
        exact od_rel h hy
      | succ k => exact i2 k v c (by simpa using hv) (by simpa [AS.vals] using hc)
    · cases hp
theorem vals_len (s : AS) : ∀ (xs : List Od), (s.vals xs).length = xs.length
  | [] => rfl
  | x :: xs => by simp [AS.vals, vals_len s xs]
theorem strip_cells (c : AV) : (strip c).cells = strip.stripL c.cells := by
  cases c <;> simp [strip, AV.cells, strip.stripL]
/-- Elements that are data, laid side by side. -/
theorem rep_cells {base : Nat} {v : Value} {c : AV} (r : Rel x base v c) (hd : dat c = true) (hok : c.cells.all okC = true) : ∀ (j : Nat) (d : AV), (strip c).cells[j]? = some d → ∃ u, v.cells[j]? = some u ∧ RepD x.G x.nm u d ∧ (frA c = true → RepD (x.G.from base) x.nm u d) ∧ u.oneCell' = true := by
  intro j d hj
  obtain ⟨h1, h2, h3⟩ := rel_cells r hok
  rw [strip_cells, stripL_get] at hj
  obtain ⟨e, he, rfl⟩ := Option.map_eq_some_iff.1 hj
  obtain ⟨u, hu, hr, ho⟩ := h2 j e he
  have hoe : okC e = true := List.all_eq_true.1 hok e (List.mem_of_getElem? he)
  have hde : dat e = true ∧ (frA c = true → frA e = true) := by
    cases c with
    | agg cs => exact ⟨datL_get hd he, fun hf => frL_get hf he⟩
    | _ =>
      cases j with
      | zero => have := Option.some.inj he; rw [← this]; exact ⟨hd, id⟩
      | succ j => simp [AV.cells] at he
  obtain ⟨d1, d2, d3⟩ := rel_data hr hoe hde.1
  exact ⟨u, hu, d1, fun hf => d2 (hde.2 hf), ho⟩
end
end Go.Proofs.YticockdhfglolaaGreatDoor.Vm
/- An abstract machine over values: append. -/
namespace Go.Proofs.YticockdhfglolaaGreatDoor.Vm
open Go Go.RowKit
set_option linter.unusedVariables false
set_option linter.unusedSimpArgs false
section
variable {P : Program}
theorem run_app_room {t t2 ty e : Nat} {T2 : TypeDesc} {i : TypeInfo} (h : P.underlying t = some (.slice e)) (h2 : P.underlying t2 = some T2) (hT : (∃ e2, T2 = .slice e2) ∨ T2 = .string) (hi : P.info? e = some i) (b o n n2 cap : Nat) (u : Value) (hlu : Builtin.lenOf u = pure n2) (news : List Value) (w : World) (hf : (Builtin.firstCells i.size n2 u).run P w = .ok news.toArray w) (hroom : n + n2 ≤ cap)
    (hc : ∀ j, j < news.length → (w.cell? ⟨b, o + n * i.size + j, none⟩).isSome = true) (hfz : ∀ j, j < news.length → w.frozen? ⟨b, o + n * i.size + j, none⟩ = false) (h1 : ∀ v ∈ news, v.oneCell' = true) :
    (Builtin.append_ #[t, t2] ty #[.slice (some ⟨b, o, none⟩) n cap, u]).run P w = .ok (.slice (some ⟨b, o, none⟩) (n + n2) cap) (w.setCells b (o + n * i.size) news) := by
  have hst := run_storeCells_cells (P := P) b (o + n * i.size) news 0 w (by simpa using hc) (by simpa using hfz) h1
  simp only [Nat.add_zero] at hst
  rcases hT with ⟨e2, rfl⟩ | rfl <;> simp [Builtin.append_, run_underlying h, run_underlying h2, sizeOf, typeInfo, hi, hlu, hroom, hf, add0, hst]
theorem run_app_none {t t2 ty e : Nat} {T2 : TypeDesc} {i : TypeInfo} (h : P.underlying t = some (.slice e)) (h2 : P.underlying t2 = some T2) (hT : (∃ e2, T2 = .slice e2) ∨ T2 = .string) (hi : P.info? e = some i) (A : Option Addr) (u : Value) (hlu : Builtin.lenOf u = pure 0) (w : World) (hf : (Builtin.firstCells i.size 0 u).run P w = .ok #[] w) :
    (Builtin.append_ #[t, t2] ty #[.slice A 0 0, u]).run P w = .ok (.slice A 0 0) w := by
  rcases hT with ⟨e2, rfl⟩ | rfl <;> cases A <;> simp [Builtin.append_, run_underlying h, run_underlying h2, sizeOf, typeInfo, hi, hlu, hf, storeCells]
theorem run_app_grow {t t2 ty e : Nat} {T2 : TypeDesc} {i : TypeInfo} {z : Value} (h : P.underlying t = some (.slice e)) (h2 : P.underlying t2 = some T2) (hT : (∃ e2, T2 = .slice e2) ∨ T2 = .string) (hi : P.info? e = some i) (hz : i.zero = some z) (hzs : z.cells.size = i.size) (hb0 : 0 < i.bytes) (A : Option Addr) (n n2 cap : Nat) (u : Value) (hlu : Builtin.lenOf u = pure n2) (olds news : List Value) (w : World)
    (hfo : (Builtin.firstCells i.size n (.slice A n cap)).run P w.drew = .ok olds.toArray w.drew) (hf : (Builtin.firstCells i.size n2 u).run P w.drew = .ok news.toArray w.drew) (hg : cap < n + n2) (hlim : (n + n2) * i.bytes ≤ 70368744177664) :
    ∃ cap' rest, (Builtin.append_ #[t, t2] ty #[.slice A n cap, u]).run P w = .ok (.slice (some ⟨w.heap.size, 0, none⟩) (n + n2) cap') (w.drew.alloc (.cells (olds.toArray ++ news.toArray ++ rest) e)) ∧ n + n2 ≤ cap' ∧ rest.size = (cap' - (n + n2)) * i.size := by
  have hle : n + n2 ≤ (n + n2) * i.bytes := Nat.le_mul_of_pos_right _ hb0
  have hfit := growslice_fits hg (show (n + n2) * i.bytes ≤ 140737488355328 by omega)
  have hn : ¬ (n + n2 ≤ cap) := by omega
  have h63' : ¬ (9223372036854775807 < ((n : Int) + (n2 : Int))) := by omega
  have h48' : ¬ (281474976710656 < Builtin.nextslicecap (n + n2) cap * i.bytes) := by omega
  refine ⟨grownCap w (n + n2) cap e, Builtin.zeroCells z.cells (grownCap w (n + n2) cap e - (n + n2)), ?_, grownCap_ge w _ _ e, by rw [size_zeroCells, hzs]⟩
  have hw : ({ w with drawn := w.drawn + 1 } : World) = w.drew := rfl
  have hb : i.bytes ≠ 0 := by omega
  rcases hT with ⟨e2, rfl⟩ | rfl
  all_goals
    simp [Builtin.append_, run_underlying h, run_underlying h2, sizeOf, typeInfo, zeroValue, hi, hz, hlu, hn, h63', h48', hb, Question.forced, hw, hf, hfo, newRow, grownCap]
    congr 2
    rw [← Array.append_assoc]
    simp
end
/-- A slice's cells, one by one. -/
theorem sl_cells {G : Gh} {N : Nat → Option (Nat × Nat)} {v : Value} {m : Mk} {z sz : Nat} {xs : List AV} (r : RepD G N v (.sl m z xs)) (hz : z = sz ∨ xs = []) (h0 : 0 < sz) :
    ∃ (A : Option Addr) (cap b o : Nat) (news : List Value), v = .slice A xs.length cap ∧ xs.length ≤ cap ∧ news.length = xs.length * sz ∧ (∀ u ∈ news, u.oneCell' = true) ∧ (xs ≠ [] → A = some ⟨b, o, none⟩) ∧ (∀ (k : Nat) (u : Value), news[k]? = some u → G b (o + k) = some u) ∧
      (∀ (i : Nat) (x : AV), xs[i]? = some x → x.cells.length = sz) ∧ ∀ (i : Nat) (x : AV) (j : Nat) (c : AV), xs[i]? = some x → x.cells[j]? = some c → ∃ u, news[i * sz + j]? = some u ∧ RepD G N u c := by
  cases r with
  | sl A n cap _ _ _ b o f h1 h2 h3 h4 h5 h6 _ =>
    subst h1
    rcases hz with rfl | rfl
    · have key : ∀ k, k < xs.length * z → ∃ x c, xs[k / z]? = some x ∧ x.cells[k % z]? = some c := by
        intro k hk
        have hd : k / z < xs.length := by rw [Nat.div_lt_iff_lt_mul h0]; exact hk
        have hx := List.getElem?_eq_getElem hd
        have hm : k % z < (xs[k / z]).cells.length := by rw [h4 _ _ hx]; exact Nat.mod_lt _ h0
        exact ⟨_, _, hx, List.getElem?_eq_getElem hm⟩
      refine ⟨A, cap, b, o, (List.range (xs.length * z)).map fun k => f (k / z) (k % z), rfl, h2, by simp, ?_, h3, ?_, h4, ?_⟩
      · intro u hu
        obtain ⟨k, hk, rfl⟩ := List.mem_map.1 hu
        obtain ⟨x, c, hx, hc⟩ := key k (List.mem_range.1 hk)
        exact (h5 _ _ _ _ hx hc).2
      · intro k u hu
        rw [List.getElem?_map] at hu
        obtain ⟨k', hk', rfl⟩ := Option.map_eq_some_iff.1 hu
        obtain ⟨hlt, rfl⟩ : k < xs.length * z ∧ k = k' := by
          rw [List.getElem?_eq_some_iff] at hk'
          obtain ⟨h, e⟩ := hk'
          simp at h e
          exact ⟨h, e⟩
        obtain ⟨x, c, hx, hc⟩ := key k hlt
        have := (h5 _ _ _ _ hx hc).1
        rwa [Nat.add_assoc, show k / z * z + k % z = k from by rw [Nat.mul_comm]; exact Nat.div_add_mod k z] at this
      · intro i x j c hx hc
        have hi : i < xs.length := (List.getElem?_eq_some_iff.1 hx).1
        have hj : j < z := by rw [← h4 i x hx]; exact (List.getElem?_eq_some_iff.1 hc).1
        have hlt : i * z + j < xs.length * z := by
          have : (i + 1) * z ≤ xs.length * z := Nat.mul_le_mul_right _ hi
          rw [Nat.add_mul] at this
          omega
        have e1 : (i * z + j) / z = i := by rw [Nat.mul_comm, Nat.mul_add_div h0, Nat.div_eq_of_lt hj, Nat.add_zero]
        have e2 : (i * z + j) % z = j := by rw [Nat.mul_comm, Nat.mul_add_mod, Nat.mod_eq_of_lt hj]
        refine ⟨f i j, ?_, h6 i x j c hx hc⟩
        rw [List.getElem?_map, List.getElem?_range hlt, Option.map_some, e1, e2]
    · exact ⟨A, cap, b, o, [], rfl, h2, by simp, by simp, by simp, by simp, by simp, by simp⟩
theorem firstCells_run {P : Program} {A : Option Addr} {n cap b o sz : Nat} {news : List Value} (hn : news.length = n * sz) (hA : 0 < n * sz → A = some ⟨b, o, none⟩) (w : World) (hc : ∀ (k : Nat) (u : Value), news[k]? = some u → w.cell? ⟨b, o + k, none⟩ = some u) :
    (Builtin.firstCells sz n (.slice A n cap)).run P w = .ok news.toArray w := by
  by_cases h : 0 < n * sz
  · rw [hA h]
    exact run_firstCells_some w sz n ⟨b, o, none⟩ n cap news hn (fun j v hv => by rw [add0]; exact hc j v hv)
  · have h0 : n * sz = 0 := by omega
    have : news = [] := List.eq_nil_of_length_eq_zero (by omega)
    subst this
    cases A with
    | none => rfl
    | some a => simp [Builtin.firstCells, h0, loadCells, loadCellsFrom]
theorem demL_get (c : Nat) : ∀ (cs : List AV) (j : Nat), (dem.demL c cs)[j]? = (cs[j]?).map (dem c)
  | [], j => by simp [dem.demL]
  | x :: cs, 0 => by simp [dem.demL]
  | x :: cs, j + 1 => by simp [dem.demL, demL_get c cs j]
theorem demL_len (c : Nat) : ∀ (cs : List AV), (dem.demL c cs).length = cs.length
  | [] => rfl
  | x :: cs => by simp [dem.demL, demL_len c cs]
theorem dem_cells (c : Nat) (x : AV) : (dem c x).cells = dem.demL c x.cells := by
  cases x with
  | sl m sz xs =>
    simp only [dem]
    cases hm : m.ap with
    | no => simp [AV.cells, dem.demL, dem, hm]
    | nl => simp [AV.cells, dem.demL, dem, hm]
    | ow t => simp [AV.cells, dem.demL, dem, hm]
    | id t => simp [AV.cells, dem.demL, dem, hm]
    | cl k => by_cases hk : k = c <;> simp [AV.cells, dem.demL, dem, hm, hk]
  | _ => simp [dem, AV.cells, dem.demL]
theorem dem_okC (c : Nat) (x : AV) : okC (dem c x) = okC x := by
  cases x with
  | sl m sz xs =>
    simp only [dem]
    cases hm : m.ap with
    | no => rfl
    | nl => rfl
    | ow t => rfl
    | id t => rfl
    | cl k => by_cases hk : k = c <;> simp [hk, okC]
  | _ => rfl
theorem Rel.dem {x x' : X} {base : Nat} {v : Value} {a : AV} {c : Nat} (r : Rel x base v a) (hG : x.G.le x'.G) (hR : x.up x') (hb : ∀ n, x'.bx n = x.bx n ∧ x'.bz n = x.bz n) (ht : ∀ k, k ≠ c → x'.tl k = x.tl k) : Rel x' base v (dem c a) := by
  induction r with
  | un v => exact .un v
  | lit v h => exact .lit v h
  | sl v m sz xs h1 h2 h3 =>
    have d1 : RepD x'.G x'.nm v (.sl m sz xs) := h1.monoN hG hR.nm
    have d2 : m.fr = true → RepD (x'.G.from base) x'.nm v (.sl m sz xs) := fun hf => (h2 hf).monoN (from_mono hG) hR.nm
    obtain ⟨ap, fr⟩ := m
    cases ap with
    | no => exact .sl _ _ _ _ d1 d2 trivial
    | nl => exact .sl _ _ _ _ d1 d2 h3
    | ow t => exact .sl _ _ _ _ d1 d2 ⟨h3.1.monoN (rng_mono hG (hR.rg t)) hR.nm, fun hu => by rw [hR.rv t]; exact h3.2 hu⟩
    | id t => exact .sl _ _ _ _ d1 d2 trivial
    | cl k =>
      simp only [Vm.dem]
      by_cases hk : k = c
      · rw [if_pos hk]
        exact .sl _ _ _ _ (d1.mark (by simp)) (fun hf => (d2 hf).mark (by simp)) trivial
      · rw [if_neg hk]
        refine .sl _ _ _ _ d1 d2 ?_
        simp only [Room] at h3 ⊢
        rw [ht k hk]
        exact h3
  | agg vs cs hs _ ih =>
    refine .agg _ _ (by rw [demL_len]; exact hs) fun j v d hv hd => ?_
    rw [demL_get] at hd
    obtain ⟨e, he, rfl⟩ := Option.map_eq_some_iff.1 hd
    exact ih j v e hv he
  | tup vs cs hs _ ih =>
    refine .tup _ _ (by rw [demL_len]; exact hs) fun j v d hv hd => ?_
    rw [demL_get] at hd
    obtain ⟨e, he, rfl⟩ := Option.map_eq_some_iff.1 hd
    exact ih j v e hv he
  | ptr n i off =>
    obtain ⟨h1, h2⟩ := hb n
    simp only [Vm.dem]
    rw [← h1, ← h2]
    exact .ptr n i off
  | ep b o fr cs f h1 h2 h3 => exact .ep b o fr cs f (fun j c h => hG _ _ _ (h1 j c h)) (fun j c h => (h2 j c h).monoN hG hR.nm) fun hf j c h => (h3 hf j c h).monoN (from_mono hG) hR.nm
  | fn f vs cs hs _ ih =>
    refine .fn f _ _ (by rw [demL_len]; exact hs) fun j v d hv hd => ?_
    rw [demL_get] at hd
    obtain ⟨e, he, rfl⟩ := Option.map_eq_some_iff.1 hd
    exact ih j v e hv he
  | bs n sz len cap h hl =>
    obtain ⟨h1, h2⟩ := hb n
    simp only [Vm.dem]
    rw [← h1, ← h2]
    exact .bs n sz len cap (by rw [h2]; exact h) hl
  | hs v sz xs h => exact .hs v sz xs (h.mono hG hR.J)
  | hp b o cs f h1 h2 => exact .hp b o cs f (fun j c hc e => hR.J _ _ (h1 j c hc e)) (fun j c hc e => ⟨hG _ _ _ (h2 j c hc e).1, (h2 j c hc e).2.mono hG hR.J⟩)
theorem look_mapV {α β : Type} (f : α → β) : ∀ (l : List (Nat × α)) (u : Nat), look (mapV f l) u = (look l u).map f
  | [], u => rfl
  | (k, y) :: l, u => by
    simp only [mapV, look]
    split
    · rfl
    · exact look_mapV f l u
theorem get_dem (s : AS) (c u : Nat) : (s.dem c).get u = dem c (s.get u) := by
  unfold AS.get AS.dem
  simp only [look_mapV]
  cases look s.env u <;> rfl
theorem BoxAt.dem {x x' : X} {base : Nat} {w : World} {n : Nat} {l : List AV} {c : Nat} (h : BoxAt x base w n l) (hG : x.G.le x'.G) (hR : x.up x') (hb : ∀ n, x'.bx n = x.bx n ∧ x'.bz n = x.bz n) (ht : ∀ k, k ≠ c → x'.tl k = x.tl k) : BoxAt x' base w n (dem.demL c l) := by
  obtain ⟨vals, ty, e1, e2, e3, e4⟩ := h
  obtain ⟨h1, h2⟩ := hb n
  refine ⟨vals, ty, by rw [h1]; exact e1, by rw [h2, demL_len]; exact e2, by rw [h2]; exact e3, fun i e he => ?_⟩
  rw [demL_get] at he
  obtain ⟨e', he', rfl⟩ := Option.map_eq_some_iff.1 he
  obtain ⟨e5, e6⟩ := e4 i e' he'
  refine ⟨by rw [h2, dem_cells, demL_len]; exact e5, fun j d hd => ?_⟩
  rw [dem_cells, demL_get] at hd
  obtain ⟨d', hd', rfl⟩ := Option.map_eq_some_iff.1 hd
  obtain ⟨e7, v, e8, e9, e10⟩ := e6 j d' hd'
  exact ⟨by rw [dem_okC]; exact e7, v, by rw [h2]; exact e8, e9, e10.dem hG hR hb ht⟩
end Go.Proofs.YticockdhfglolaaGreatDoor.Vm
/- An abstract machine over values: literals of slices and append, on the state. -/
namespace Go.Proofs.YticockdhfglolaaGreatDoor.Vm
open Go Go.RowKit
set_option linter.unusedVariables false
set_option linter.unusedSimpArgs false
theorem setL_same {α : Type} (t : Nat) (u v : α) : ∀ (l : List (Nat × α)), setL t v (setL t u l) = setL t v l
  | [] => by simp [setL]
  | (k, y) :: l => by
    simp only [setL]
    by_cases h1 : t < k
    · rw [if_pos h1, if_pos h1]
      simp [setL]
    · rw [if_neg h1, if_neg h1]
      by_cases h2 : t = k
      · rw [if_pos h2, if_pos h2]
        simp [setL]
      · rw [if_neg h2, if_neg h2]
        simp only [setL]
        rw [if_neg h1, if_neg h2, setL_same t u v l]
theorem put_put (s : AS) (t : Nat) (u v : AV) : (s.put t u).put t v = s.put t v := by
  unfold AS.put; simp [setL_same]
/-- Two slices' cells, one behind the other, read as the two lists together. -/
theorem RepD.cat {G : Gh} {N : Nat → Option (Nat × Nat)} {sz b o cap : Nat} {m : Mk} {xs ys : List AV} {olds news : List Value} (hm : ∀ k, m.ap ≠ .id k) (hc : xs.length + ys.length ≤ cap) (ho : olds.length = xs.length * sz) (hold : ∀ (k : Nat) (u : Value), olds[k]? = some u → G b (o + k) = some u) (hnew : ∀ (k : Nat) (u : Value), news[k]? = some u → G b (o + xs.length * sz + k) = some u)
    (h1 : ∀ u ∈ olds, u.oneCell' = true) (h2 : ∀ u ∈ news, u.oneCell' = true) (lx : ∀ (i : Nat) (x : AV), xs[i]? = some x → x.cells.length = sz) (ly : ∀ (i : Nat) (x : AV), ys[i]? = some x → x.cells.length = sz)
    (rx : ∀ (i : Nat) (x : AV) (j : Nat) (c : AV), xs[i]? = some x → x.cells[j]? = some c → ∃ u, olds[i * sz + j]? = some u ∧ RepD G N u c) (ry : ∀ (i : Nat) (x : AV) (j : Nat) (c : AV), ys[i]? = some x → x.cells[j]? = some c → ∃ u, news[i * sz + j]? = some u ∧ RepD G N u c) :
    RepD G N (.slice (some ⟨b, o, none⟩) (xs.length + ys.length) cap) (.sl m sz (xs ++ ys)) := by
  have key : ∀ (i : Nat) (x : AV) (j : Nat) (c : AV), (xs ++ ys)[i]? = some x → x.cells[j]? = some c → ∃ u, (if i < xs.length then olds.getD (i * sz + j) undef else news.getD ((i - xs.length) * sz + j) undef) = u ∧ G b (o + i * sz + j) = some u ∧ u.oneCell' = true ∧ RepD G N u c := by
    intro i x j c hx hcx
    by_cases hi : i < xs.length
    · rw [List.getElem?_append_left hi] at hx
      obtain ⟨u, hu, hr⟩ := rx i x j c hx hcx
      refine ⟨u, by rw [if_pos hi]; simp [List.getD, hu], ?_, h1 u (List.mem_of_getElem? hu), hr⟩
      have := hold _ _ hu
      rwa [← Nat.add_assoc] at this
    · rw [List.getElem?_append_right (by omega)] at hx
      obtain ⟨u, hu, hr⟩ := ry _ x j c hx hcx
      refine ⟨u, by rw [if_neg hi]; simp [List.getD, hu], ?_, h2 u (List.mem_of_getElem? hu), hr⟩
      have := hnew _ _ hu
      have e : xs.length * sz + (i - xs.length) * sz = i * sz := by rw [← Nat.add_mul]; congr 1; omega
      rwa [show o + xs.length * sz + ((i - xs.length) * sz + j) = o + i * sz + j by omega] at this
  refine .sl _ _ cap m sz _ b o (fun i j => if i < xs.length then olds.getD (i * sz + j) undef else news.getD ((i - xs.length) * sz + j) undef) (by simp) hc (fun _ => rfl) (fun i x hx => ?_) (fun i x j c hx hcx => ?_) (fun i x j c hx hcx => ?_) (fun k hk => absurd hk (hm k))
  · by_cases hi : i < xs.length
    · rw [List.getElem?_append_left hi] at hx; exact lx i x hx
    · rw [List.getElem?_append_right (by omega)] at hx; exact ly _ x hx
  · obtain ⟨u, e1, e2, e3, e4⟩ := key i x j c hx hcx
    simp only [e1]
    exact ⟨e2, e3⟩
  · obtain ⟨u, e1, e2, e3, e4⟩ := key i x j c hx hcx
    simp only [e1]
    exact e4
theorem row_le {G : Gh} {b o n : Nat} {f : Nat → Value} (h : ∀ o', o ≤ o' → o' < o + n → G b o' = none) : G.le (G.row b o f n) := by
  intro b' o' v hv
  unfold Gh.row
  split
  · rename_i hc
    obtain ⟨rfl, h1, h2⟩ := hc
    rw [h o' h1 h2] at hv; cases hv
  · exact hv
theorem row_at {G : Gh} {b o n : Nat} {f : Nat → Value} {k : Nat} (h : k < n) : G.row b o f n b (o + k) = some (f k) := by
  unfold Gh.row
  rw [if_pos ⟨rfl, by omega, by omega⟩, show o + k - o = k by omega]
section
variable {E : EnvK} {x0 x : X} {w0 w : World} {pb nt : Nat} {a : Act} {s : AS}
theorem get_putO_un (s : AS) (d : Option Nat) (u : Nat) : (s.putO d .un).get u = s.get u ∨ (s.putO d .un).get u = .un := by
  cases d with
  | none => exact .inl rfl
  | some t =>
    simp only [AS.putO, get_put]
    split
    · exact .inr rfl
    · exact .inl rfl
theorem St.forget (h : St E x0 w0 pb nt x a w s) (d : Option Nat) : St E x0 w0 pb nt x a w (s.putO d .un) :=
  { h with env := fun u => (by rcases get_putO_un s d u with e | e <;> rw [e]; exact h.env u; exact .un _), bxs := by rw [bxs_putO]; exact h.bxs, inj := by rw [bxs_putO]; exact h.inj, tlb := by rw [bxs_putO]; exact h.tlb, no := by rw [bxs_putO]; exact h.no }
/-- What a state with a class of its own asks of another account of the memory. -/
def Adapts (x0 x : X) (base : Nat) (a : Act) (w : World) (s s' : AS) (c0 : Nat) : Prop :=
  ∀ x' : X, x.G.le x'.G → x.up x' → (∀ n, x'.bx n = x.bx n ∧ x'.bz n = x.bz n) → (∀ k, k ≠ c0 → x'.tl k = x.tl k) →
    (∀ u, Rel x' base (rd x0 a u) (s'.get u)) ∧ ∀ n l', look s'.bxs n = some l' → (∃ l, look s.bxs n = some l) ∧ BoxAt x' base w n l'
theorem adapts_dem (h : St E x0 w0 pb nt x a w s) (c : Nat) : Adapts x0 x w0.heap.size a w s (s.dem c) c := by
  intro x' hG hR hb ht
  refine ⟨fun u => by rw [get_dem]; exact (h.env u).dem hG hR hb ht, fun n l' hl => ?_⟩
  have hl' : (look s.bxs n).map (dem.demL c) = some l' := by rw [← look_mapV]; exact hl
  obtain ⟨l, hl2, rfl⟩ := Option.map_eq_some_iff.1 hl'
  exact ⟨⟨l, hl2⟩, (h.bxs n l hl2).1.dem hG hR hb ht⟩
theorem adapts_new (h : St E x0 w0 pb nt x a w s) {c t : Nat} (hc : c / 64 = t) (hn : (s.putO (some t) .un).noC t = true) : Adapts x0 x w0.heap.size a w s (s.putO (some t) .un) c := by
  intro x' hG hR hb ht
  have htl : ∀ d, d ≠ t → ∀ k, k / 64 = d → x'.tl k = x.tl k := fun d hd k hk => ht k (by rintro rfl; exact hd (hk.symm.trans hc))
  refine ⟨fun u => ?_, fun n l' hl => ?_⟩
  · by_cases hu : u = t
    · rw [AS.putO, get_put, if_pos hu]; exact .un _
    · rw [AS.putO, get_put, if_neg hu]
      refine Rel.up hG hR (h.env u) (fun n _ => hb n) (fun d hd => htl d ?_)
      rintro rfl
      rw [noC_of hn u hu] at hd; cases hd
  · rw [bxs_putO] at hl
    refine ⟨⟨l', hl⟩, BoxAt.up (h.bxs n l' hl).1 hG hR (hb n).1 (hb n).2 (fun m _ => hb m) (fun d hd => htl d ?_)⟩
    rintro rfl
    rw [noC_box hn hl] at hd; cases hd
/-- A slice's cells, with what they read as (and what of that was made by this call). -/
theorem sl_cells2 {G : Gh} {N : Nat → Option (Nat × Nat)} {base : Nat} {v : Value} {m : Mk} {z sz : Nat} {fr : Bool} {xs : List AV} (r : RepD G N v (.sl m z xs)) (r2 : fr = true → RepD (G.from base) N v (.sl m z xs)) (hz : z = sz ∨ xs = []) (h0 : 0 < sz) :
    ∃ (A : Option Addr) (cap b o : Nat) (news : List Value), v = .slice A xs.length cap ∧ xs.length ≤ cap ∧ news.length = xs.length * sz ∧ (∀ u ∈ news, u.oneCell' = true) ∧ (xs ≠ [] → A = some ⟨b, o, none⟩) ∧ (∀ (k : Nat) (u : Value), news[k]? = some u → G b (o + k) = some u) ∧
      (∀ (i : Nat) (x : AV), xs[i]? = some x → x.cells.length = sz) ∧ ∀ (i : Nat) (x : AV) (j : Nat) (c : AV), xs[i]? = some x → x.cells[j]? = some c → ∃ u, news[i * sz + j]? = some u ∧ RepD G N u c ∧ (fr = true → RepD (G.from base) N u c) := by
  obtain ⟨A, cap, b, o, news, h1, h2, h3, h4, h5, h6, h7, h8⟩ := sl_cells r hz h0
  refine ⟨A, cap, b, o, news, h1, h2, h3, h4, h5, h6, h7, fun i x j c hx hc => ?_⟩
  obtain ⟨u, hu, hr⟩ := h8 i x j c hx hc
  refine ⟨u, hu, hr, fun hf => ?_⟩
  obtain ⟨A', cap', b', o', news', g1, g2, g3, g4, g5, g6, g7, g8⟩ := sl_cells (r2 hf) hz h0
  obtain ⟨u', hu', hr'⟩ := g8 i x j c hx hc
  have hne : xs ≠ [] := by rintro rfl; simp at hx
  have e1 := h5 hne
  have e2 := g5 hne
  rw [h1] at g1
  injection g1 with e3 _ _
  rw [e1, e2] at e3
  injection e3 with e3
  injection e3 with e3 e4 _
  subst e3 e4
  have q1 := h6 _ _ hu
  have q2 := from_le base G _ _ _ (g6 _ _ hu')
  rw [q1] at q2
  obtain rfl := Option.some.inj q2
  exact hr'
theorem Rel.cat {x x' : X} {base : Nat} {sz b o cap c0 : Nat} {fx fy : Bool} {xs ys : List AV} {olds news : List Value} (hG : x.G.le x'.G) (hN : x'.nm = x.nm) (hb : base ≤ b) (hc : xs.length + ys.length ≤ cap) (ho : olds.length = xs.length * sz) (hold : ∀ (k : Nat) (u : Value), olds[k]? = some u → x'.G b (o + k) = some u) (hnew : ∀ (k : Nat) (u : Value), news[k]? = some u → x'.G b (o + xs.length * sz + k) = some u)
    (h1 : ∀ u ∈ olds, u.oneCell' = true) (h2 : ∀ u ∈ news, u.oneCell' = true) (lx : ∀ (i : Nat) (x : AV), xs[i]? = some x → x.cells.length = sz) (ly : ∀ (i : Nat) (x : AV), ys[i]? = some x → x.cells.length = sz)
    (rx : ∀ (i : Nat) (y : AV) (j : Nat) (c : AV), xs[i]? = some y → y.cells[j]? = some c → ∃ u, olds[i * sz + j]? = some u ∧ RepD x.G x.nm u c ∧ (fx = true → RepD (x.G.from base) x.nm u c)) (ry : ∀ (i : Nat) (y : AV) (j : Nat) (c : AV), ys[i]? = some y → y.cells[j]? = some c → ∃ u, news[i * sz + j]? = some u ∧ RepD x.G x.nm u c ∧ (fy = true → RepD (x.G.from base) x.nm u c))
    (htl : x'.tl c0 = some (b, o + (xs.length + ys.length) * sz, o + cap * sz)) : Rel x' base (.slice (some ⟨b, o, none⟩) (xs.length + ys.length) cap) (.sl ⟨.cl c0, fx && fy⟩ sz (xs ++ ys)) := by
  have hN' : ∀ k b, x.nm k = some b → x'.nm k = some b := fun k b h => by rw [hN]; exact h
  have up : ∀ {k : Nat} {u : Value}, x'.G b k = some u → (x'.G.from base) b k = some u := fun h => by unfold Gh.from; rw [if_pos hb]; exact h
  refine .sl _ _ _ _ ?_ (fun hf => ?_) (.inr ⟨b, o, _, cap, rfl, htl⟩)
  · exact RepD.cat (by simp) hc ho hold hnew h1 h2 lx ly (fun i y j c hx hcx => by obtain ⟨u, e1, e2, _⟩ := rx i y j c hx hcx; exact ⟨u, e1, e2.monoN hG hN'⟩) (fun i y j c hx hcx => by obtain ⟨u, e1, e2, _⟩ := ry i y j c hx hcx; exact ⟨u, e1, e2.monoN hG hN'⟩)
  · simp only [Bool.and_eq_true] at hf
    exact RepD.cat (by simp) hc ho (fun k u h => up (hold k u h)) (fun k u h => up (hnew k u h)) h1 h2 lx ly (fun i y j c hx hcx => by obtain ⟨u, e1, _, e2⟩ := rx i y j c hx hcx; exact ⟨u, e1, (e2 hf.1).monoN (from_mono hG) hN'⟩) (fun i y j c hx hcx => by obtain ⟨u, e1, _, e2⟩ := ry i y j c hx hcx; exact ⟨u, e1, (e2 hf.2).monoN (from_mono hG) hN'⟩)
/-- A slice is appended to. -/
theorem St.appG (h : St E x0 w0 pb nt x a w s) {s' : AS} {c0 : Nat} (had : Adapts x0 x w0.heap.size a w s s' c0) {t t2 ty e : Nat} {T2 : TypeDesc} {i : TypeInfo} {z : Value} (hu : E.P.underlying t = some (.slice e)) (hu2 : E.P.underlying t2 = some T2) (hT : (∃ e2, T2 = .slice e2) ∨ T2 = .string) (hi : E.P.info? e = some i) (hz : i.zero = some z) (hzs : z.cells.size = i.size) (h0 : 0 < i.size) (hb0 : 0 < i.bytes)
    {v u : Value} {fx fy : Bool} {zx : Nat} {m1 : Mk} {xs ys : List AV} (rv : RepD x.G x.nm v (.sl m1 zx xs)) (rv2 : fx = true → RepD (x.G.from w0.heap.size) x.nm v (.sl m1 zx xs)) (hzx : zx = i.size ∨ xs = []) (hlu : Builtin.lenOf u = pure ys.length) {news : List Value} (n2 : news.length = ys.length * i.size) (n3 : ∀ u ∈ news, u.oneCell' = true)
    (hfirst2 : ∀ w1 : World, w1.heap = w.heap → (Builtin.firstCells i.size ys.length u).run E.P w1 = .ok news.toArray w1) (n6 : ∀ (j : Nat) (x : AV), ys[j]? = some x → x.cells.length = i.size) (n7 : ∀ (k : Nat) (y : AV) (j : Nat) (c : AV), ys[k]? = some y → y.cells[j]? = some c → ∃ u, news[k * i.size + j]? = some u ∧ RepD x.G x.nm u c ∧ (fy = true → RepD (x.G.from w0.heap.size) x.nm u c))
    (hroom : (∃ A, v = .slice A 0 0) ∨ ∃ b o n cap, v = .slice (some ⟨b, o, none⟩) n cap ∧ x.tl c0 = some (b, o + n * i.size, o + cap * i.size)) (hlim : (xs.length + ys.length) * i.bytes ≤ 70368744177664) :
    ∃ v' w' x', (Builtin.append_ #[t, t2] ty #[v, u]).run E.P w = .ok v' w' ∧ St E x0 w0 pb nt x' a w' s' ∧ Rel x' w0.heap.size v' (.sl ⟨.cl c0, fx && fy⟩ i.size (xs ++ ys)) := by
  obtain ⟨A, cap, bx, ox, olds, rfl, p1, p2, p3, p4, p5, p6, p7⟩ := sl_cells2 rv rv2 hzx h0
  have hfirst1 : ∀ w1 : World, w1.heap = w.heap → (Builtin.firstCells i.size xs.length (.slice A xs.length cap)).run E.P w1 = .ok olds.toArray w1 := by
    intro w1 hw1
    refine firstCells_run (b := bx) (o := ox) p2 (fun hp => p4 (fun e => by rw [e] at hp; simp at hp)) w1 fun k q hq => ?_
    have := agree_cell h.ag (p5 k q hq)
    unfold World.cell? at this ⊢
    rw [hw1]; exact this
  have hbase := h.fr.2.2.2.1
  by_cases hg : cap < xs.length + ys.length
  · -- a new block
    obtain ⟨cap', rest, hrun, hcap', hrest⟩ := run_app_grow (ty := ty) hu hu2 hT hi hz hzs hb0 A xs.length ys.length cap u hlu olds news w (hfirst1 w.drew rfl) (hfirst2 w.drew rfl) hg hlim
    have hnone : ∀ o', x.G w.heap.size o' = none := fun o' => agree_new h.ag o'
    have hle := row_le (G := x.G) (b := w.heap.size) (o := 0) (n := (xs.length + ys.length) * i.size) (f := fun k => (olds ++ news).getD k undef) (fun o' _ _ => hnone o')
    have hlen : (olds ++ news).length = (xs.length + ys.length) * i.size := by rw [List.length_append, p2, n2, Nat.add_mul]
    have hmul : (xs.length + ys.length) * i.size ≤ cap' * i.size := Nat.mul_le_mul_right _ hcap'
    have hcell : ∀ k u, (olds ++ news)[k]? = some u → (x.G.row w.heap.size 0 (fun k => (olds ++ news).getD k undef) ((xs.length + ys.length) * i.size)) w.heap.size (0 + k) = some u := by
      intro k u hk
      rw [row_at (by rw [← hlen]; exact (List.getElem?_eq_some_iff.1 hk).1)]
      simp only [List.getD, hk, Option.getD_some]
    obtain ⟨ad1, ad2⟩ := had { x with G := x.G.row w.heap.size 0 (fun k => (olds ++ news).getD k undef) ((xs.length + ys.length) * i.size), tl := fun c => if c = c0 then some (w.heap.size, (xs.length + ys.length) * i.size, cap' * i.size) else x.tl c } hle ⟨fun _ _ h => h, fun _ _ h => h, fun _ => rfl, fun _ _ h => h⟩ (fun n => ⟨rfl, rfl⟩) (fun k hk => if_neg hk)
    have hrow := h.row (w' := w.drew.alloc (.cells (olds.toArray ++ news.toArray ++ rest) e)) (b := w.heap.size) (o := 0) (n := (xs.length + ys.length) * i.size) (c0 := c0) (e1 := (xs.length + ys.length) * i.size) (t1 := cap' * i.size) (f := fun k => (olds ++ news).getD k undef) (s' := s')
      hbase (fun o' _ _ => hnone o') ⟨_, e, alloc_new (w := w.drew), by
        simp only [Array.size_append, List.size_toArray, p2, n2, hrest, ← Nat.add_mul]
        exact Nat.mul_le_mul_right _ (by omega), fun k hk => by
        rw [Nat.zero_add, Array.getElem?_append_left (by simp; rw [List.length_append] at hlen; omega), List.append_toArray, List.getElem?_toArray, List.getElem?_eq_getElem (by omega)]
        simp only [List.getD, List.getElem?_eq_getElem (show k < (olds ++ news).length by omega), Option.getD_some], fun o' v hv => by rw [hnone o'] at hv; cases hv⟩ (fun k _ hk => alloc_old (w := w.drew) hk) (by simp) ⟨rfl, rfl, rfl⟩ ad1 ad2 (fun m l hl => by have := box_lt h hl; omega) (fun o' ho' => by
        unfold Gh.row
        rw [if_neg (by omega)]
        exact hnone o') (fun c e' t' ht' => by
        obtain ⟨_, ⟨vals2, ty2, q2, _⟩, _⟩ := h.tl.1 c _ _ _ ht'
        have := (Array.getElem?_eq_some_iff.1 q2).1
        omega) (fun k hk hl => Array.getElem?_eq_none (by simp; omega)) (fun k hk => by have := h.no.ba k _ hk; omega) (fun T hT => by have := (h.rgb T _ hT).1; omega)
    refine ⟨_, _, _, hrun, hrow, Rel.cat hle rfl hbase hcap' p2 (fun k u hk => ?_) (fun k u hk => ?_) p3 n3 p6 n6 p7 n7 (by simp)⟩
    · exact hcell k u (by rw [List.getElem?_append_left (List.getElem?_eq_some_iff.1 hk).1]; exact hk)
    · rw [Nat.add_assoc]
      exact hcell _ u (by rw [List.getElem?_append_right (by omega), ← p2, Nat.add_sub_cancel_left]; exact hk)
  · -- in place
    by_cases hy : ys.length = 0 ∧ cap = 0
    · obtain ⟨hy1, rfl⟩ := hy
      have hx1 : xs = [] := List.eq_nil_of_length_eq_zero (by omega)
      have hy2 : ys = [] := List.eq_nil_of_length_eq_zero hy1
      subst hx1 hy2
      obtain ⟨ad1, ad2⟩ := had x (fun _ _ _ h => h) ⟨fun _ _ h => h, fun _ _ h => h, fun _ => rfl, fun _ _ h => h⟩ (fun n => ⟨rfl, rfl⟩) (fun k _ => rfl)
      refine ⟨.slice A 0 0, w, x, run_app_none hu hu2 hT hi A u hlu w (by have := hfirst2 w rfl; rwa [show news = [] from List.eq_nil_of_length_eq_zero (by rw [n2]; simp)] at this), { h with env := ad1, bxs := fun n l' hl => ?_, inj := fun n m l1 l2 h1 h2 e => ?_, tlb := fun c b e t ht n l' hl => ?_, no := h.no.sub fun n l' hl => (ad2 n l' hl).1 }, ?_⟩
      · obtain ⟨⟨l, hl1⟩, hb⟩ := ad2 n l' hl
        exact ⟨hb, (h.bxs n l hl1).2⟩
      · obtain ⟨⟨l, hl1⟩, _⟩ := ad2 n l1 h1
        obtain ⟨⟨l', hl2⟩, _⟩ := ad2 m l2 h2
        exact h.inj n m l l' hl1 hl2 e
      · obtain ⟨⟨l, hl1⟩, _⟩ := ad2 n l' hl
        exact h.tlb c b e t ht n l hl1
      · exact .sl _ _ _ _ (.sl A 0 0 _ _ [] 0 0 (fun _ _ => default) rfl (Nat.le_refl _) (fun h => absurd rfl h) (by simp) (by simp) (by simp) (fun _ _ h => absurd rfl h)) (fun _ => .sl A 0 0 _ _ [] 0 0 (fun _ _ => default) rfl (Nat.le_refl _) (fun h => absurd rfl h) (by simp) (by simp) (by simp) (fun _ _ h => absurd rfl h)) (.inl ⟨A, rfl⟩)
    · have hr2 : ∃ b o, A = some ⟨b, o, none⟩ ∧ x.tl c0 = some (b, o + xs.length * i.size, o + cap * i.size) := by
        rcases hroom with ⟨A', e1⟩ | ⟨b, o, n, cap1, e1, e2⟩
        · injection e1 with _ e2 e3
          omega
        · injection e1 with e3 e4 e5
          subst e4 e5
          exact ⟨b, o, e3, e2⟩
      obtain ⟨b, o, rfl, htl⟩ := hr2
      have hbo : xs ≠ [] → bx = b ∧ ox = o := by
        intro hne
        have := p4 hne
        injection this with this
        injection this with e1 e2 _
        exact ⟨e1.symm, e2.symm⟩
      obtain ⟨t1, ⟨vals, tyb, t2', t3⟩, t4⟩ := h.tl.1 c0 _ _ _ htl
      have hmul : (xs.length + ys.length) * i.size ≤ cap * i.size := Nat.mul_le_mul_right _ (by omega)
      rw [Nat.add_mul] at hmul
      have hrun := run_app_room (ty := ty) hu hu2 hT hi b o xs.length ys.length cap u hlu news w (hfirst2 w rfl) (by omega) (fun j hj => by rw [cell_block t2']; simp; omega) (fun j hj => frozen_block t2') n3
      obtain ⟨vals', s1, s2, s3, s4, s5, s6, s7, s8⟩ := setCells_spec b news (o + xs.length * i.size) w vals tyb (0, 0) t2' (by omega)
      have hle := row_le (G := x.G) (b := b) (o := o + xs.length * i.size) (n := ys.length * i.size) (f := fun k => news.getD k undef) (fun o' h1 _ => t4 o' h1)
      have hcell : ∀ k u, news[k]? = some u → (x.G.row b (o + xs.length * i.size) (fun k => news.getD k undef) (ys.length * i.size)) b (o + xs.length * i.size + k) = some u := by
        intro k u hk
        rw [row_at (by rw [← n2]; exact (List.getElem?_eq_some_iff.1 hk).1)]
        simp only [List.getD, hk, Option.getD_some]
      obtain ⟨ad1, ad2⟩ := had { x with G := x.G.row b (o + xs.length * i.size) (fun k => news.getD k undef) (ys.length * i.size), tl := fun c => if c = c0 then some (b, o + (xs.length + ys.length) * i.size, o + cap * i.size) else x.tl c } hle ⟨fun _ _ h => h, fun _ _ h => h, fun _ => rfl, fun _ _ h => h⟩ (fun n => ⟨rfl, rfl⟩) (fun k hk => if_neg hk)
      have hrow := h.row (w' := w.setCells b (o + xs.length * i.size) news) (b := b) (o := o + xs.length * i.size) (n := ys.length * i.size) (c0 := c0) (e1 := o + (xs.length + ys.length) * i.size) (t1 := o + cap * i.size) (f := fun k => news.getD k undef) (s' := s')
        t1 (fun o' h1 _ => t4 o' h1) ⟨vals', tyb, s1, by omega, fun k hk => by
          rw [s3, if_pos (by omega), show o + xs.length * i.size + k - (o + xs.length * i.size) = k by omega, List.getElem?_eq_getElem (by omega)]
          simp only [List.getD, List.getElem?_eq_getElem (show k < news.length by omega), Option.getD_some], fun o' v hv => by
          have hlt : o' < o + xs.length * i.size := by
            rcases Nat.lt_or_ge o' (o + xs.length * i.size) with h1 | h1
            · exact h1
            · rw [t4 o' h1] at hv; cases hv
          rw [s3, if_neg (by omega)]
          obtain ⟨c, ty', fz, g1, g2⟩ := h.ag b o' v hv
          rw [t2'] at g1
          injection g1 with g1
          injection g1 with g1 _ _
          rw [g1]; exact g2⟩ (fun k hk _ => s4 k hk) (by omega) ⟨s6, s7, s8⟩ ad1 ad2 (fun m l hl => h.tlb c0 _ _ _ htl m l hl) (fun o' ho' => by
          unfold Gh.row
          rw [Nat.add_mul] at ho'
          rw [if_neg (by omega)]
          exact t4 o' (by omega)) (fun c e' t' ht' => h.tl.2 _ _ _ _ _ _ _ ht' htl) (fun k hk hl => Array.getElem?_eq_none (by omega)) (fun k => h.no.ta k _ _ _ _ htl) (fun T => h.no.qa T _ _ _ _ htl)
      refine ⟨_, _, _, hrun, hrow, Rel.cat hle rfl t1 (by omega) p2 (fun k u hk => ?_) hcell p3 n3 p6 n6 p7 n7 (by simp)⟩
      have hne : xs ≠ [] := by
        rintro rfl
        have := (List.getElem?_eq_some_iff.1 hk).1
        simp only [List.length_nil, Nat.zero_mul] at p2
        omega
      obtain ⟨rfl, rfl⟩ := hbo hne
      exact hle _ _ _ (p5 k u hk)
theorem St.app (h : St E x0 w0 pb nt x a w s) {s' : AS} {c0 : Nat} (had : Adapts x0 x w0.heap.size a w s s' c0) {t t2 ty e e2 z2 : Nat} {i : TypeInfo} {z : Value} (hu : E.P.underlying t = some (.slice e)) (hu2 : E.P.underlying t2 = some (.slice e2)) (hi : E.P.info? e = some i) (hz : i.zero = some z) (hzs : z.cells.size = i.size) (h0 : 0 < i.size) (hb0 : 0 < i.bytes)
    {v u : Value} {fx fy : Bool} {zx : Nat} {m1 m2 : Mk} {xs ys : List AV} (rv : RepD x.G x.nm v (.sl m1 zx xs)) (rv2 : fx = true → RepD (x.G.from w0.heap.size) x.nm v (.sl m1 zx xs)) (hzx : zx = i.size ∨ xs = []) (ru : RepD x.G x.nm u (.sl m2 z2 ys)) (ru2 : fy = true → RepD (x.G.from w0.heap.size) x.nm u (.sl m2 z2 ys)) (hzy : z2 = i.size ∨ ys = [])
    (hroom : (∃ A, v = .slice A 0 0) ∨ ∃ b o n cap, v = .slice (some ⟨b, o, none⟩) n cap ∧ x.tl c0 = some (b, o + n * i.size, o + cap * i.size)) (hlim : (xs.length + ys.length) * i.bytes ≤ 70368744177664) :
    ∃ v' w' x', (Builtin.append_ #[t, t2] ty #[v, u]).run E.P w = .ok v' w' ∧ St E x0 w0 pb nt x' a w' s' ∧ Rel x' w0.heap.size v' (.sl ⟨.cl c0, fx && fy⟩ i.size (xs ++ ys)) := by
  obtain ⟨A2, cap2, b2, o2, news, rfl, n1, n2, n3, n4, n5, n6, n7⟩ := sl_cells2 ru ru2 hzy h0
  refine h.appG had hu hu2 (.inl ⟨e2, rfl⟩) hi hz hzs h0 hb0 rv rv2 hzx rfl n2 n3 (fun w1 hw1 => ?_) n6 n7 hroom hlim
  refine firstCells_run (b := b2) (o := o2) n2 (fun hp => n4 (fun e => by rw [e] at hp; simp at hp)) w1 fun k q hq => ?_
  have := agree_cell h.ag (n5 k q hq)
  unfold World.cell? at this ⊢
  rw [hw1]; exact this
/-- A text's bytes are appended to a slice. -/
theorem St.appS (h : St E x0 w0 pb nt x a w s) {s' : AS} {c0 : Nat} (had : Adapts x0 x w0.heap.size a w s s' c0) {t t2 ty e : Nat} {i : TypeInfo} {z : Value} (hu : E.P.underlying t = some (.slice e)) (hu2 : E.P.underlying t2 = some .string) (hi : E.P.info? e = some i) (hz : i.zero = some z) (hzs : z.cells.size = i.size) (h0 : i.size = 1) (hb0 : i.bytes = 1)
    {v : Value} {b : ByteArray} {fx : Bool} {zx : Nat} {m1 : Mk} {xs : List AV} (rv : RepD x.G x.nm v (.sl m1 zx xs)) (rv2 : fx = true → RepD (x.G.from w0.heap.size) x.nm v (.sl m1 zx xs)) (hzx : zx = 1 ∨ xs = [])
    (hroom : (∃ A, v = .slice A 0 0) ∨ ∃ b o n cap, v = .slice (some ⟨b, o, none⟩) n cap ∧ x.tl c0 = some (b, o + n * i.size, o + cap * i.size)) (hlim : xs.length + b.size ≤ 70368744177664) :
    ∃ v' w' x', (Builtin.append_ #[t, t2] ty #[v, .string b]).run E.P w = .ok v' w' ∧ St E x0 w0 pb nt x' a w' s' ∧ Rel x' w0.heap.size v' (.sl ⟨.cl c0, fx⟩ 1 (xs ++ bytesV b)) := by
  have hbl : (bytesV b).length = b.size := by simp [bytesV]
  have key := h.appG (fy := true) (ys := bytesV b) (news := b.data.toList.map fun u : UInt8 => Value.int .u8 u.toNat) (u := .string b) (ty := ty) had hu hu2 (.inr rfl) hi hz hzs (by omega) (by omega) rv rv2 (by rw [h0]; exact hzx) (by rw [hbl]; rfl) (by rw [hbl, h0]; simp) (fun u hu => by
    obtain ⟨y, _, rfl⟩ := List.mem_map.1 hu; rfl) (fun w1 hw1 => by
    rw [hbl]
    have e1 : b.extract 0 b.size = b := by
      apply ByteArray.ext
      rw [ByteArray.data_extract]
      exact Array.extract_eq_self_of_le (Nat.le_refl _)
    simp [Builtin.firstCells, e1]
    apply Array.toList_inj.1
    simp) (fun j y hy => by
    unfold bytesV at hy
    rw [List.getElem?_map] at hy
    obtain ⟨q, _, rfl⟩ := Option.map_eq_some_iff.1 hy
    exact h0.symm) (fun k y j c hy hc => by
    unfold bytesV at hy
    rw [List.getElem?_map] at hy
    obtain ⟨q, hq, rfl⟩ := Option.map_eq_some_iff.1 hy
    cases j with
    | succ j => simp [AV.cells] at hc
    | zero =>
      obtain rfl : AV.lit (.int .u8 q.toNat) = c := Option.some.inj hc
      exact ⟨.int .u8 q.toNat, by rw [h0]; simp [hq], .lit _ rfl, fun _ => .lit _ rfl⟩) hroom (by rw [hbl, hb0]; omega)
  rw [Bool.and_true, h0] at key
  exact key
end
end Go.Proofs.YticockdhfglolaaGreatDoor.Vm
/- An abstract machine over values: calls. -/
namespace Go.Proofs.YticockdhfglolaaGreatDoor.Vm
open Go Go.RowKit
set_option linter.unusedVariables false
set_option linter.unusedSimpArgs false
theorem dd_mem {m : Nat} : ∀ {ns : List Nat}, m ∈ dd ns ↔ m ∈ ns
  | [] => Iff.rfl
  | n :: ns => by
    simp only [dd, List.mem_cons, List.mem_filter, dd_mem (ns := ns), bne_iff_ne]
    by_cases h : m = n <;> simp [h]
theorem dd_nodup : ∀ (ns : List Nat), (dd ns).Nodup
  | [] => List.nodup_nil
  | n :: ns => by
    simp only [dd, List.nodup_cons, List.mem_filter, bne_iff_ne]
    exact ⟨fun h => h.2 rfl, (dd_nodup ns).filter _⟩
theorem renL_get (ns : List Nat) : ∀ (cs : List AV) (j : Nat), (ren.renL ns cs)[j]? = (cs[j]?).map (ren ns)
  | [], j => by simp [ren.renL]
  | c :: cs, 0 => by simp [ren.renL]
  | c :: cs, j + 1 => by simp [ren.renL, renL_get ns cs j]
theorem renL_len (ns : List Nat) : ∀ (cs : List AV), (ren.renL ns cs).length = cs.length
  | [] => rfl
  | c :: cs => by simp [ren.renL, renL_len ns cs]
theorem relabL_get (d : Nat) (b : Bool) : ∀ (cs : List AV) (j : Nat), (relab.relabL d b cs)[j]? = (cs[j]?).map (relab d b)
  | [], j => by simp [relab.relabL]
  | c :: cs, 0 => by simp [relab.relabL]
  | c :: cs, j + 1 => by simp [relab.relabL, relabL_get d b cs j]
theorem relabL_len (d : Nat) (b : Bool) : ∀ (cs : List AV), (relab.relabL d b cs).length = cs.length
  | [] => rfl
  | c :: cs => by simp [relab.relabL, relabL_len d b cs]
theorem argL_get : ∀ {cs : List AV} {j : Nat} {c : AV}, argOk.argL cs = true → cs[j]? = some c → argOk c = true
  | [], _, _, _, h => by simp at h
  | y :: cs, 0, c, h, hc => by
    obtain rfl : y = c := by simpa using hc
    simp [argOk.argL] at h; exact h.1
  | y :: cs, j + 1, c, h, hc => by
    simp [argOk.argL] at h
    exact argL_get h.2 (by simpa using hc)
theorem resL_get : ∀ {cs : List AV} {j : Nat} {c : AV}, resOk.resL cs = true → cs[j]? = some c → resOk c = true
  | [], _, _, _, h => by simp at h
  | y :: cs, 0, c, h, hc => by
    obtain rfl : y = c := by simpa using hc
    simp [resOk.resL] at h; exact h.1
  | y :: cs, j + 1, c, h, hc => by
    simp [resOk.resL] at h
    exact resL_get h.2 (by simpa using hc)
theorem ptrsL_get : ∀ {cs : List AV} {j : Nat} {c : AV}, cs[j]? = some c → ∀ n ∈ ptrs c, n ∈ ptrs.ptrsL cs
  | [], _, _, h => by simp at h
  | y :: cs, 0, c, hc => by
    obtain rfl : y = c := by simpa using hc
    intro n hn
    simp [ptrs.ptrsL, hn]
  | y :: cs, j + 1, c, hc => by
    intro n hn
    have := ptrsL_get (cs := cs) (by simpa using hc) n hn
    simp [ptrs.ptrsL, this]
theorem renB_get {ns : List Nat} {n : Nat} (h : n ∈ ns) : renB ns n < ns.length ∧ ns[renB ns n]? = some n := by
  have hlt : ns.findIdx (· == n) < ns.length := List.findIdx_lt_length_of_exists ⟨n, h, by simp⟩
  refine ⟨hlt, ?_⟩
  have := List.findIdx_getElem (w := hlt)
  simp at this
  unfold renB
  rw [List.getElem?_eq_getElem hlt, this]
theorem room_skI (x : X) (sz : Nat) (xs : List AV) (v : Value) (m : Mk) : Room x sz xs v (skI m).ap := by
  obtain ⟨ap, fr⟩ := m
  cases ap <;> trivial
/-- A value of data read through less of the memory. -/
theorem rel_dat {x x' : X} {base base' : Nat} {v : Value} {c : AV} (r : Rel x base v c) (hd : dat c = true) (hG : ∀ u y, RepD x.G x.nm u y → (frA c = true → RepD (x.G.from base) x.nm u y) → RepD x'.G x'.nm u y) : Rel x' base' v (strip c) := by
  induction r with
  | un v => exact .un v
  | lit v h => exact .lit v h
  | sl v m sz xs h1 h2 h3 => exact .sl _ _ _ _ (hG _ _ (h1.mark fun k hk => (skI_ap m k).1 hk) fun hf => (h2 hf).mark fun k hk => (skI_ap m k).1 hk) (fun hf => by rw [skI_fr] at hf; cases hf) (room_skI _ _ _ _ _)
  | agg vs cs hs hr ih =>
    refine .agg _ _ (by rw [stripL_len]; exact hs) fun j v d hv hdd => ?_
    rw [stripL_get] at hdd
    obtain ⟨e, he, rfl⟩ := Option.map_eq_some_iff.1 hdd
    exact ih j v e hv he (datL_get hd he) fun u y h1 h2 => hG u y h1 fun hf => h2 (frL_get hf he)
  | tup => cases hd
  | ptr => cases hd
  | ep => cases hd
  | fn => cases hd
  | bs => cases hd
  | hs => cases hd
  | hp => cases hd
theorem dat_argOk : ∀ (c : AV), dat c = true → argOk c = true := by
  intro c
  refine AV.rec (motive_1 := fun c => dat c = true → argOk c = true) (motive_2 := fun cs => dat.datL cs = true → argOk.argL cs = true) ?_ ?_ ?_ ?_ ?_ ?_ ?_ ?_ ?_ ?_ ?_ ?_ ?_ c
  all_goals (intros; first | rfl | skip)
  · rename_i cs ih h; simp only [dat] at h; simp [argOk, h]
  all_goals first
    | (rename_i h; simp [dat] at h; done)
    | (rename_i c cs ih1 ih2 h; simp [dat.datL] at h; simp [argOk.argL, ih1 h.1, ih2 h.2])
theorem datL_argL : ∀ {cs : List AV}, dat.datL cs = true → argOk.argL cs = true
  | [], _ => rfl
  | c :: cs, h => by
    simp [dat.datL] at h
    simp [argOk.argL, dat_argOk c h.1, datL_argL h.2]
theorem argOk_agg' {cs : List AV} (h : argOk (.agg cs) = true) : argOk.argL cs = true := by
  simp only [argOk, Bool.or_eq_true] at h
  rcases h with h | h
  · exact datL_argL h
  · exact h
/-- An argument, as the callee sees it. -/
theorem rel_arg {x x' : X} {base base' : Nat} {ns : List Nat} {v : Value} {c : AV} (r : Rel x base v c) : argOk c = true → (∀ n ∈ ptrs c, n ∈ ns) → (∀ n k, ns[k]? = some n → x'.bx k = x.bx n ∧ x'.bz k = x.bz n) →
    (∀ u y, RepD x.G x.nm u y → (frA c = true → RepD (x.G.from base) x.nm u y) → RepD x'.G x'.nm u y) → (∀ u y, RepH x.G x.J u y → frA c = false → RepH x'.G x'.J u y) → Rel x' base' v (ren ns (strip c)) := by
  induction r with
  | un v => exact fun _ _ _ _ _ => .un v
  | lit v h => exact fun _ _ _ _ _ => .lit v h
  | sl v m sz xs h1 h2 h3 => exact fun _ _ _ hG _ => .sl _ _ _ _ (hG _ _ (h1.mark fun k hk => (skI_ap m k).1 hk) fun hf => (h2 hf).mark fun k hk => (skI_ap m k).1 hk) (fun hf => by rw [skI_fr] at hf; cases hf) (room_skI _ _ _ _ _)
  | agg vs cs hs hr ih =>
    intro ha hp hb hG hH
    replace ha := argOk_agg' ha
    simp only [strip, ren]
    refine .agg _ _ (by rw [renL_len, stripL_len]; exact hs) fun j v d hv hdd => ?_
    rw [renL_get, stripL_get, Option.map_map] at hdd
    obtain ⟨e, he, rfl⟩ := Option.map_eq_some_iff.1 hdd
    refine ih j v e hv he (argL_get ha he) (fun n hn => hp n (by simp only [ptrs]; exact ptrsL_get he n hn)) hb (fun u y h1 h2 => hG u y h1 fun hf => h2 (frL_get hf he)) fun u y h1 h2 => hH u y h1 ?_
    cases hf : frA (.agg cs) with
    | false => rfl
    | true => rw [frL_get (cs := cs) hf he] at h2; cases h2
  | tup => intro ha; cases ha
  | ptr n i off =>
    intro ha hp hb hG _
    have hn := hp n (by simp [ptrs])
    obtain ⟨h1, h2⟩ := renB_get hn
    obtain ⟨e1, e2⟩ := hb n _ h2
    simp only [strip, ren]
    rw [← e1, ← e2]
    exact .ptr _ i off
  | ep => intro ha; cases ha
  | fn f vs cs hs hr ih =>
    intro ha hp hb hG hH
    simp only [strip, ren]
    refine .fn f _ _ (by rw [renL_len, stripL_len]; exact hs) fun j v d hv hdd => ?_
    rw [renL_get, stripL_get, Option.map_map] at hdd
    obtain ⟨e, he, rfl⟩ := Option.map_eq_some_iff.1 hdd
    exact ih j v e hv he (argL_get ha he) (fun n hn => hp n (by simp only [ptrs]; exact ptrsL_get he n hn)) hb (fun u y h1 h2 => hG u y h1 fun hf => by simp [frA] at hf) fun u y h1 h2 => hH u y h1 rfl
  | bs n sz len cap h hl =>
    intro ha hp hb hG _
    have hn := hp n (by simp [ptrs])
    obtain ⟨h1, h2⟩ := renB_get hn
    obtain ⟨e1, e2⟩ := hb n _ h2
    simp only [strip, ren]
    rw [← e1, ← e2]
    exact .bs _ sz len cap (by rw [e2]; exact h) hl
  | hs v sz xs h => exact fun _ _ _ _ hH => .hs v sz xs (hH _ _ h rfl)
  | hp => intro ha; cases ha
theorem bxsOf_get {s : AS} : ∀ {ns : List Nat} {bs : List (List AV)}, bxsOf s ns = some bs → bs.length = ns.length ∧ ∀ (k : Nat) (l : List AV), bs[k]? = some l → ∃ n, ns[k]? = some n ∧ look s.bxs n = some l
  | [], bs, h => by obtain rfl := Option.some.inj h; simp
  | n :: ns, bs, h => by
    simp only [bxsOf] at h
    obtain ⟨l, hl, h⟩ := Option.bind_eq_some_iff.1 h
    obtain ⟨r, hr, h⟩ := Option.bind_eq_some_iff.1 h
    obtain rfl := Option.some.inj h
    obtain ⟨i1, i2⟩ := bxsOf_get hr
    refine ⟨by simp [i1], fun k l' hk => ?_⟩
    cases k with
    | zero =>
      obtain rfl : l = l' := by simpa using hk
      exact ⟨n, rfl, hl⟩
    | succ k => exact i2 k l' (by simpa using hk)
theorem setBs_env (s : AS) : ∀ (ns : List Nat) (ls : List (List AV)), (setBs s ns ls).env = s.env
  | [], ls => by cases ls <;> rfl
  | n :: ns, [] => rfl
  | n :: ns, l :: ls => by simp only [setBs]; rw [setBs_env]; rfl
theorem setBs_get (u : Nat) (s : AS) (ns : List Nat) (ls : List (List AV)) : (setBs s ns ls).get u = s.get u := by
  unfold AS.get; rw [setBs_env]
theorem setBs_look : ∀ (ns : List Nat) (ls : List (List AV)) (s : AS) (n : Nat) (l : List AV), ns.length = ls.length → ns.Nodup → look (setBs s ns ls).bxs n = some l → (∃ k : Nat, ns[k]? = some n ∧ ls[k]? = some l) ∨ (n ∉ ns ∧ look s.bxs n = some l)
  | [], [], s, n, l, _, _, h => .inr ⟨by simp, h⟩
  | m :: ns, q :: ls, s, n, l, hlen, hnd, h => by
    simp only [setBs] at h
    rw [List.nodup_cons] at hnd
    rcases setBs_look ns ls _ n l (by simpa using hlen) hnd.2 h with ⟨k, h1, h2⟩ | ⟨h1, h2⟩
    · exact .inl ⟨k + 1, by simpa using h1, by simpa using h2⟩
    · rw [look_setB] at h2
      by_cases hn : n = m
      · rw [if_pos hn] at h2
        exact .inl ⟨0, by rw [hn]; rfl, by simpa using h2⟩
      · rw [if_neg hn] at h2
        exact .inr ⟨by simp [hn, h1], h2⟩
end Go.Proofs.YticockdhfglolaaGreatDoor.Vm
/- An abstract machine over values: a call, on the state. -/
namespace Go.Proofs.YticockdhfglolaaGreatDoor.Vm
open Go Go.RowKit
set_option linter.unusedVariables false
set_option linter.unusedSimpArgs false
/-- A result, as the caller takes it over. -/
theorem rel_res {x' X2 : X} {base' base t : Nat} {b : Bool} {v : Value} {r : AV} (h : Rel x' base' v r) : resOk r = true → x'.G.le X2.G → (∀ k b, x'.nm k = some b → X2.nm k = some b) → base ≤ base' → (b = true → x'.G.le (X2.G.from base)) → (∀ c, c < 64 → X2.tl (64 * t + c) = x'.tl c) → Rel X2 base v (relab t b r) := by
  induction h with
  | un v => exact fun _ _ _ _ _ _ => .un v
  | lit v h => exact fun _ _ _ _ _ _ => .lit v h
  | sl v m sz xs h1 h2 h3 =>
    intro hr hG hN hbb hf ht
    obtain ⟨ap, fr⟩ := m
    have hm : ∀ k, (⟨match ap with | .cl c => .cl (64 * t + c) | a => a, fr || b⟩ : Mk).ap = .id k → ap = .id k := fun k hk => by cases ap <;> simp_all
    refine .sl _ _ _ _ ((h1.monoN hG hN).mark hm) (fun he => ?_) ?_
    · simp only [Bool.or_eq_true] at he
      rcases he with he | he
      · refine ((h2 he).monoN ?_ hN).mark hm
        intro bb o u hu
        unfold Gh.from at hu ⊢
        split at hu
        · rw [if_pos (by omega)]; exact hG _ _ _ hu
        · cases hu
      · exact (h1.monoN (hf he) hN).mark hm
    · cases ap with
      | no => trivial
      | nl => exact h3
      | cl c =>
        have hc : c < 64 := by simpa [resOk] using hr
        simp only [Room] at h3 ⊢
        rw [ht c hc]
        exact h3
      | ow k => simp [resOk] at hr
      | id k => trivial
  | agg vs cs hs _ ih =>
    intro hr hG hN hbb hf ht
    refine .agg _ _ (by rw [relabL_len]; exact hs) fun j v d hv hd => ?_
    rw [relabL_get] at hd
    obtain ⟨e, he, rfl⟩ := Option.map_eq_some_iff.1 hd
    exact ih j v e hv he (resL_get hr he) hG hN hbb hf ht
  | tup vs cs hs _ ih =>
    intro hr hG hN hbb hf ht
    refine .tup _ _ (by rw [relabL_len]; exact hs) fun j v d hv hd => ?_
    rw [relabL_get] at hd
    obtain ⟨e, he, rfl⟩ := Option.map_eq_some_iff.1 hd
    exact ih j v e hv he (resL_get hr he) hG hN hbb hf ht
  | ptr => intro hr; cases hr
  | ep => intro hr; cases hr
  | fn => intro hr; cases hr
  | bs => intro hr; cases hr
  | hs => intro hr; cases hr
  | hp => intro hr; cases hr
theorem okC_relab (t : Nat) (b : Bool) (c : AV) : okC (relab t b c) = okC c := by cases c <;> rfl
theorem okC_strip (c : AV) : okC (strip c) = okC c := by cases c <;> rfl
theorem relab_cells (t : Nat) (b : Bool) (c : AV) : (relab t b c).cells = relab.relabL t b c.cells := by cases c <;> simp [relab, AV.cells, relab.relabL]
section
variable {E : EnvK} {x0 x : X} {w0 w : World} {pb nt : Nat} {a : Act} {s : AS}
theorem St.call (h : St E x0 w0 pb nt x a w s) (hK : ∀ n, n < pb → E.ng ≤ x0.bx n) {q : Bool} {f t : Nat} (ht : t < nt) {args : Array Value} {vs : List AV} (hlen : args.size = vs.length) (hargs : ∀ (i : Nat) (v : Value) (c : AV), args[i]? = some v → vs[i]? = some c → Rel x w0.heap.size v c) (hok : argOk.argL vs = true) (hfree : (s.putO (some t) .un).noC t = true)
    {bs bs' : List (List AV)} {r : AV} (hbs : bxsOf s (dd (ptrs.ptrsL vs)) = some bs) (hdat : bs.all dat.datL = true) {K : Nat → Prop} (hkn : ∀ k, K k → E.nk k ∧ x.nm k = none) (hf : FxK E K f (bs.map strip.stripL) (ren.renL (dd (ptrs.ptrsL vs)) (strip.stripL vs)) bs' r) (hres : bs'.all (fun l => resOk.resL l && dat.datL l) = true) :
    Calls E.P f args w fun e w' => ∃ v x', e = .returned v ∧ St E x0 w0 pb nt x' (a.put (some t) v) w' ((setBs s (dd (ptrs.ptrsL vs)) (bs'.map (relab.relabL t false))).put t (relab t (frA.frL vs) r)) ∧ Rel x' w.heap.size v (relab t false r) ∧ w.heap.size ≤ w'.heap.size ∧ x'.rg = x.rg ∧ (∀ k, ¬ K k → x'.nm k = x.nm k) ∧ (∀ k b, K k → x'.nb k = some b → w.heap.size ≤ b) ∧ (∀ c, c / 64 ≠ t → x'.tl c = x.tl c) := by
  obtain ⟨f1, f2, f3⟩ := hf
  obtain ⟨b1, b2⟩ := bxsOf_get hbs
  generalize hns : (dd (ptrs.ptrsL vs)) = ns at *
  have hnd : ns.Nodup := by rw [← hns]; exact dd_nodup _
  have hbase := h.fr.2.2.2.1
  have hfr0 : frA.frL vs = true → ns = [] := by
    intro hfr
    rw [← hns]
    have : ∀ (cs : List AV), frA.frL cs = true → argOk.argL cs = true → ptrs.ptrsL cs = [] := by
      intro cs
      have one : ∀ c : AV, frA c = true → ptrs c = [] := by
        intro c
        refine AV.rec (motive_1 := fun c => frA c = true → ptrs c = []) (motive_2 := fun cs => frA.frL cs = true → ptrs.ptrsL cs = []) ?_ ?_ ?_ ?_ ?_ ?_ ?_ ?_ ?_ ?_ ?_ ?_ ?_ c
        all_goals (intros; first | rfl | skip)
        · rename_i cs ih h; simp only [ptrs]; exact ih (by simpa [frA] using h)
        · rename_i h; simp [frA] at h
        · rename_i h; simp [frA] at h
        · rename_i h; simp [frA] at h
        · rename_i c cs ih1 ih2 h
          simp [frA.frL] at h
          simp [ptrs.ptrsL, ih1 h.1, ih2 h.2]
      induction cs with
      | nil => intros; rfl
      | cons c cs ih =>
        intro h1 h2
        simp [frA.frL] at h1
        simp [argOk.argL] at h2
        simp [ptrs.ptrsL, one c h1.1, ih h1.2 h2.2]
    rw [this vs hfr hok]
    rfl
  -- the callee's account of the memory
  let xc : X := { G := if frA.frL vs then x.G.from w0.heap.size else x.G, bx := fun k => x.bx (ns.getD k 0), bz := fun k => x.bz (ns.getD k 0), tl := fun _ => none, rg := fun _ _ => False, J := fun b o => frA.frL vs = false ∧ x.J b o, rv := fun _ => none, nm := x.nm }
  have hGc : xc.G.le x.G := by
    show Gh.le (if frA.frL vs then x.G.from w0.heap.size else x.G) x.G
    split
    · exact from_le _ _
    · exact fun _ _ _ h => h
  have hbx : ∀ n k, ns[k]? = some n → xc.bx k = x.bx n ∧ xc.bz k = x.bz n := by
    intro n k hk
    simp only [xc, List.getD, hk, Option.getD_some]
    exact ⟨trivial, trivial⟩
  have box : ∀ (k : Nat) (l : List AV), bs[k]? = some l → ∃ n, ns[k]? = some n ∧ look s.bxs n = some l := b2
  have hng : ∀ n, n < (bs.map strip.stripL).length → E.ng ≤ xc.bx n := by
    intro k hk
    have hk' : k < bs.length := by simpa using hk
    obtain ⟨n, hn, hl⟩ := box k bs[k] (List.getElem?_eq_getElem hk')
    rw [(hbx n k hn).1]
    rcases (h.bxs n _ hl).2.1 with hp | hp
    · rw [(h.pbx n hp).1]; exact hK n hp
    · have := E.hg _ h.k; omega
  have hJold : ∀ b o, x.J b o → b < w0.heap.size ∧ E.ng ≤ b ∧ x.G b o = none ∧ ∀ n l, look s.bxs n = some l → x.bx n ≠ b := by
    intro b o hj
    rw [h.jx] at hj
    obtain ⟨j1, j2, j3, j4⟩ := h.j0 b o hj
    refine ⟨j1, j2, ?_, fun n l hl => ?_⟩
    · cases hx : x.G b o with
      | none => rfl
      | some u => rw [h.g2 b o u hx j1] at j3; cases j3
    · rcases (h.bxs n l hl).2.1 with hp | hp
      · rw [(h.pbx n hp).1]; exact j4 n hp
      · omega
  have hjpre : JPre E.ng (bs.map strip.stripL).length xc w := by
    refine ⟨fun b o hj => h.jp b o (by rw [← h.jx]; exact hj.2), fun b o hj => ?_, fun _ _ hf => hf⟩
    obtain ⟨j1, j2, j3, j4⟩ := hJold b o hj.2
    refine ⟨j2, ?_, fun k hk => ?_⟩
    · cases hx : xc.G b o with
      | none => rfl
      | some u => rw [hGc _ _ _ hx] at j3; cases j3
    · have hk' : k < bs.length := by simpa using hk
      obtain ⟨n, hn, hl⟩ := box k bs[k] (List.getElem?_eq_getElem hk')
      rw [(hbx n k hn).1]
      exact j4 n _ hl
  have hnpre : NmPre K (bs.map strip.stripL).length xc w := by
    refine ⟨fun k hk => (hkn k hk).2, h.no.ia, fun k b hb => ⟨h.no.ba k b hb, fun n hn e => ?_⟩⟩
    have hn' : n < bs.length := by simpa using hn
    obtain ⟨n1, hn1, hl⟩ := box n bs[n] (List.getElem?_eq_getElem hn')
    rw [(hbx n1 n hn1).1] at e
    exact h.no.xa k n1 _ hl (by rw [e]; exact hb)
  have hcall := f3 xc w args (h.K hK) (fun _ => rfl) hng hjpre (by rw [renL_len, stripL_len]; exact hlen) (fun i v c hv hc => ?_) (fun b o v hv => h.ag b o v (hGc _ _ _ hv)) (fun k l hk => ?_) (fun n m hn hm e => ?_) hnpre
  · refine hcall.mono ?_
    rintro e w' ⟨v, x', rfl, g1, g2, g3, g4, g5, g6, g7, g8, g9, g10, g11, g12, g13, g14⟩
    have hNx : ∀ k b, x.nm k = some b → x'.nm k = some b := fun k b hb => by
      rw [g11 k fun hk => by rw [(hkn k hk).2] at hb; cases hb]; exact hb
    have hNe : ∀ k, ¬ K k → x'.nb k = x.nb k := fun k hk => by unfold X.nb; rw [g11 k hk]
    have hNn : ∀ k b, x'.nb k = some b → x.nb k = some b ∨ w.heap.size ≤ b := fun k b hb => by
      by_cases hk : K k
      · exact .inr (g12 k b hk hb).1
      · rw [hNe k hk] at hb; exact .inl hb
    obtain ⟨w1, w2, w3, w4, w5⟩ := g5
    have hS : ∀ b, SBx (bs.map strip.stripL).length xc b → (∃ n l, ns.contains n = true ∧ look s.bxs n = some l ∧ b = x.bx n) ∨ (frA.frL vs = false ∧ ∃ o, x.J b o) := by
      rintro b (⟨k, hk, rfl⟩ | ⟨o, ho⟩)
      · have hk' : k < bs.length := by simpa using hk
        obtain ⟨n, hn, hl⟩ := box k bs[k] (List.getElem?_eq_getElem hk')
        exact .inl ⟨n, _, by simp; exact List.mem_of_getElem? hn, hl, (hbx n k hn).1⟩
      · exact .inr ⟨ho.1, o, ho.2⟩
    -- what was known and what the callee made
    let G2 : Gh := fun b o => (x.G b o).or (x'.G b o)
    have hle1 : x.G.le G2 := fun b o u hu => by simp [G2, hu]
    have hag1 : Agree x.G w' := by
      intro b o u hu
      by_cases hj : frA.frL vs = false ∧ ∃ o, x.J b o
      · refine g4 b o u (g2 b o u ?_)
        show (if frA.frL vs then x.G.from w0.heap.size else x.G) b o = some u
        rw [hj.1]
        exact hu
      · obtain ⟨c, ty, fz, e1, e2⟩ := h.ag b o u hu
        refine ⟨c, ty, fz, (w5 b (agree_lt h.ag hu) fun hh => ?_).trans e1, e2⟩
        rcases hS b hh with ⟨n, l, _, hl, rfl⟩ | hh
        · rw [(h.bxs n l hl).2.2 o] at hu; cases hu
        · exact hj hh
    have hle2 : x'.G.le G2 := by
      intro b o u hu
      cases hx : x.G b o with
      | none => simp [G2, hx, hu]
      | some u' =>
        have e1 := agree_cell hag1 hx
        have e2 := agree_cell g4 hu
        rw [e1] at e2
        simp [G2, hx, Option.some.inj e2]
    have hG2 : ∀ b o u, G2 b o = some u → x.G b o = some u ∨ x'.G b o = some u := by
      intro b o u hu
      simp only [G2, Option.or_eq_some_iff] at hu
      rcases hu with hu | ⟨_, hu⟩
      · exact .inl hu
      · exact .inr hu
    have hnew : ∀ b o u, x'.G b o = some u → b < w.heap.size → x.G b o = some u := fun b o u hu hb => hGc _ _ _ (g3 b o u hu hb)
    let X2 : X := { G := G2, bx := x.bx, bz := x.bz, tl := fun c => if c / 64 = t then x'.tl (c % 64) else x.tl c, rg := x.rg, J := x.J, rv := x.rv, nm := x'.nm }
    have htl : ∀ c, c < 64 → X2.tl (64 * t + c) = x'.tl c := by
      intro c hc
      show (if (64 * t + c) / 64 = t then x'.tl ((64 * t + c) % 64) else x.tl (64 * t + c)) = _
      rw [if_pos (by omega), show (64 * t + c) % 64 = c by omega]
    have htl2 : ∀ d, d ≠ t → ∀ c, c / 64 = d → X2.tl c = x.tl c := by
      intro d hd c hc
      show (if c / 64 = t then x'.tl (c % 64) else x.tl c) = _
      rw [if_neg (by omega)]
    have hfresh : frA.frL vs = true → x'.G.le (X2.G.from w0.heap.size) := by
      intro hfr b o u hu
      show (G2.from w0.heap.size) b o = some u
      unfold Gh.from
      rw [if_pos ?_]
      · exact hle2 _ _ _ hu
      · rcases Nat.lt_or_ge b w.heap.size with hb | hb
        · have := g3 b o u hu hb
          simp only [xc, hfr, if_true] at this
          unfold Gh.from at this
          split at this
          · assumption
          · cases this
        · omega
    have hboxlt : ∀ n l, look s.bxs n = some l → x.bx n < w.heap.size := fun n l hl => box_lt h hl
    have hnone : ∀ n l, look s.bxs n = some l → ∀ o, G2 (x.bx n) o = none := by
      intro n l hl o
      have h1 := (h.bxs n l hl).2.2 o
      cases hx : x'.G (x.bx n) o with
      | none => simp [G2, h1, hx]
      | some u => rw [hnew _ _ _ hx (hboxlt n l hl)] at h1; cases h1
    have hlook : ∀ n l', look ((setBs s ns (bs'.map (relab.relabL t false))).put t (relab t (frA.frL vs) r)).bxs n = some l' → ∃ l, look s.bxs n = some l ∧ BoxAt X2 w0.heap.size w' n l' := by
      intro n l' hl'
      rw [bxs_put] at hl'
      rcases setBs_look ns _ s n l' (by simp [f1, b1]) hnd hl' with ⟨k, hk1, hk2⟩ | ⟨hk1, hk2⟩
      · rw [List.getElem?_map] at hk2
        obtain ⟨l1, hl1, rfl⟩ := Option.map_eq_some_iff.1 hk2
        have hkb : k < bs.length := by rw [b1]; exact (List.getElem?_eq_some_iff.1 hk1).1
        obtain ⟨n', hn', hl⟩ := box k bs[k] (List.getElem?_eq_getElem hkb)
        rw [hk1] at hn'
        obtain rfl := Option.some.inj hn'
        refine ⟨_, hl, ?_⟩
        obtain ⟨⟨vals, ty, v1, v2, v3, v4⟩, _⟩ := g7 k l1 hl1
        obtain ⟨q1, q2⟩ := g6 k (by simpa using hkb)
        obtain ⟨q3, q4⟩ := hbx n k hk1
        rw [q1, q3] at v1
        rw [q2, q4] at v2 v3
        have hall := List.all_eq_true.1 hres l1 (List.mem_of_getElem? hl1)
        simp only [Bool.and_eq_true] at hall
        refine ⟨vals, ty, v1, by rw [relabL_len]; exact v2, v3, fun i e he => ?_⟩
        rw [relabL_get] at he
        obtain ⟨e', he', rfl⟩ := Option.map_eq_some_iff.1 he
        obtain ⟨v5, v6⟩ := v4 i e' he'
        rw [q2, q4] at v5
        refine ⟨by rw [relab_cells, relabL_len]; exact v5, fun j c hc => ?_⟩
        rw [relab_cells, relabL_get] at hc
        obtain ⟨c', hc', rfl⟩ := Option.map_eq_some_iff.1 hc
        obtain ⟨v7, u, v8, v9, v10⟩ := v6 j c' hc'
        rw [q2, q4] at v8
        have hrc : resOk c' = true := by
          have := resL_get hall.1 he'
          cases e' with
          | agg cs => exact resL_get this hc'
          | _ =>
            cases j with
            | zero => have hh := Option.some.inj hc'; rw [← hh]; exact this
            | succ j => simp [AV.cells] at hc'
        exact ⟨by rw [okC_relab]; exact v7, u, v8, v9, rel_res v10 hrc hle2 (fun _ _ h => h) hbase (fun hh => by cases hh) htl⟩
      · refine ⟨l', hk2, (BoxAt.up (x := x) (x' := X2) (h.bxs n l' hk2).1 hle1 ⟨fun _ _ h => h, fun _ _ h => h, fun _ => rfl, hNx⟩ rfl rfl (fun _ _ => ⟨rfl, rfl⟩) (fun d hd => htl2 d ?_)).heap (w5 _ (hboxlt n l' hk2) fun hh => ?_)⟩
        · rintro rfl
          rw [noC_box hfree hk2] at hd; cases hd
        · rcases hS _ hh with ⟨m, l, hm, hl, e⟩ | ⟨_, o, ho⟩
          · have := h.inj n m l' l hk2 hl e
            subst this
            exact hk1 (by simpa using hm)
          · exact (hJold _ o ho).2.2.2 n l' hk2 rfl
    refine ⟨v, X2, rfl, { df := by rw [defers_put]; exact h.df, nt := by rw [size_put]; exact h.nt, ntl := h.ntl, env := fun u => ?_, k := h.k, fr := h.fr.step w1 w2 w3 w4 (fun k hk hs => w5 k (by omega) fun hh => ?_), ag := fun b o u hu => ?_, g1 := fun b o u hu => hle1 _ _ _ (h.g1 b o u hu), g2 := fun b o u hu hb => ?_, pbx := h.pbx, pbl := h.pbl, bxs := fun n l' hl' => ?_, inj := fun n m l1 l2 h1 h2 e => ?_, tl := ⟨fun c b e tt htt => ?_, fun c c' b e tt e' tt' h1 h2 => ?_⟩, tlb := fun c b e tt htt n l' hl' => ?_, jp := fun b o hj => ?_, j0 := h.j0, jx := h.jx, uf := fun b o u c ty fz hb hg hh => ?_, rgb := fun k b hb => ⟨Nat.lt_of_lt_of_le (h.rgb k b hb).1 w4, (h.rgb k b hb).2⟩, rgd := h.rgd, g0 := h.g0, no := ⟨fun k hk => ?_, fun k b hk hb => ?_, g13, fun k b hb => ?_, fun k c b e tt htt hb => ?_, fun k n l' hl' hb => ?_, fun k T b hT hb => ?_, fun T b c e tt htt hT => ?_, h.no.za⟩ }, rel_res g1 f2 hle2 (fun _ _ h => h) (Nat.le_refl _) (fun hh => by cases hh) htl, w4, rfl, g11, fun k b hk hb => (g12 k b hk hb).1, fun c hc => htl2 _ hc c rfl⟩
    · rw [rd_put fun u hu => by obtain rfl := Option.some.inj hu; have := h.ntl; omega]
      simp only [get_put, setBs_get]
      by_cases hu : u = t
      · rw [if_pos ⟨hu, by rw [h.nt]; exact ht⟩, if_pos hu]
        exact rel_res g1 f2 hle2 (fun _ _ h => h) hbase hfresh htl
      · rw [if_neg (fun e => hu e.1), if_neg hu]
        refine Rel.up (x := x) (x' := X2) hle1 ⟨fun _ _ h => h, fun _ _ h => h, fun _ => rfl, hNx⟩ (h.env u) (fun _ _ => ⟨rfl, rfl⟩) (fun d hd => htl2 d ?_)
        rintro rfl
        rw [noC_of hfree u hu] at hd; cases hd
    · rcases hS k hh with ⟨n, l, _, hl, rfl⟩ | ⟨_, o, ho⟩
      · rcases (h.bxs n l hl).2.1 with hp | hp
        · exact hs (.inl ⟨n, hp, (h.pbx n hp).1⟩)
        · omega
      · exact hs (.inr ⟨o, by rw [← h.jx]; exact ho⟩)
    · rcases hG2 b o u hu with hu | hu
      · exact hag1 b o u hu
      · exact g4 b o u hu
    · rcases hG2 b o u hu with hu | hu
      · exact h.g2 b o u hu hb
      · exact h.g2 b o u (hnew b o u hu (by omega)) hb
    · obtain ⟨l, hl, hb⟩ := hlook n l' hl'
      exact ⟨hb, (h.bxs n l hl).2.1, hnone n l hl⟩
    · obtain ⟨l, hl, _⟩ := hlook n l1 h1
      obtain ⟨l', hl', _⟩ := hlook m l2 h2
      exact h.inj n m l l' hl hl' e
    · change (if c / 64 = t then x'.tl (c % 64) else x.tl c) = some (b, e, tt) at htt
      split at htt
      · obtain ⟨q1, q2, q3⟩ := g8.1 _ _ _ _ htt
        refine ⟨by omega, q2, fun o ho => ?_⟩
        have h1 : x.G b o = none := by
          cases hx : x.G b o with
          | none => rfl
          | some u => have := agree_lt h.ag hx; omega
        show (x.G b o).or (x'.G b o) = none
        rw [h1, q3 o ho]; rfl
      · obtain ⟨q1, ⟨vals, ty, q2, q3⟩, q4⟩ := h.tl.1 _ _ _ _ htt
        have hlt := (Array.getElem?_eq_some_iff.1 q2).1
        refine ⟨q1, ⟨vals, ty, (w5 b hlt fun hh => ?_).trans q2, q3⟩, fun o ho => ?_⟩
        · rcases hS b hh with ⟨n, l, _, hl, e⟩ | ⟨_, o, ho⟩
          · exact h.tlb _ _ _ _ htt n l hl e.symm
          · have := (hJold b o ho).1
            omega
        · have h1 := q4 o ho
          have h2 : x'.G b o = none := by
            cases hx : x'.G b o with
            | none => rfl
            | some u => rw [hnew b o u hx hlt] at h1; cases h1
          show (x.G b o).or (x'.G b o) = none
          rw [h1, h2]; rfl
    · change (if c / 64 = t then x'.tl (c % 64) else x.tl c) = some (b, e, tt) at h1
      change (if c' / 64 = t then x'.tl (c' % 64) else x.tl c') = some (b, e', tt') at h2
      have old : ∀ {k eb te}, x.tl k = some (b, eb, te) → b < w.heap.size := by
        intro k eb te hk
        obtain ⟨_, ⟨vals, ty, q2, _⟩, _⟩ := h.tl.1 _ _ _ _ hk
        exact (Array.getElem?_eq_some_iff.1 q2).1
      have new : ∀ {k eb te}, x'.tl k = some (b, eb, te) → w.heap.size ≤ b := fun hk => (g8.1 _ _ _ _ hk).1
      split at h1
      · split at h2
        · have := g8.2 _ _ _ _ _ _ _ h1 h2
          omega
        · have := new h1; have := old h2; omega
      · split at h2
        · have := old h1; have := new h2; omega
        · exact h.tl.2 _ _ _ _ _ _ _ h1 h2
    · change (if c / 64 = t then x'.tl (c % 64) else x.tl c) = some (b, e, tt) at htt
      obtain ⟨l, hl, _⟩ := hlook n l' hl'
      split at htt
      · have := (g8.1 _ _ _ _ htt).1
        have := hboxlt n l hl
        show x.bx n ≠ b
        omega
      · exact h.tlb _ _ _ _ htt n l hl
    · have hjx : x.J b o := by rw [h.jx]; exact hj
      by_cases hf : frA.frL vs = false
      · exact g9 b o ⟨hf, hjx⟩
      · obtain ⟨vs', ty, q1, q2⟩ := h.jp b o hj
        refine ⟨vs', ty, (w5 b (Array.getElem?_eq_some_iff.1 q1).1 fun hh => ?_).trans q1, q2⟩
        rcases hS b hh with ⟨n, l, _, hl, e⟩ | hh
        · exact (hJold b o hjx).2.2.2 n l hl e.symm
        · exact hf hh.1
    · rcases Nat.lt_or_ge b w.heap.size with hlt | hge
      · by_cases hsb : SBx (bs.map strip.stripL).length xc b
        · rcases hS b hsb with ⟨n, l, hn, hl, e⟩ | ⟨_, o, ho⟩
          · obtain ⟨k, hk, hkn⟩ := List.getElem_of_mem (by simpa using hn : n ∈ ns)
            have hkb : k < bs'.length := by rw [f1]; simp; omega
            obtain ⟨⟨vals, ty', v1, _⟩, _⟩ := g7 k _ (List.getElem?_eq_getElem hkb)
            obtain ⟨q1, _⟩ := g6 k (by simp; omega)
            have hn' : ns[k]? = some n := by rw [List.getElem?_eq_getElem hk, hkn]
            rw [q1, (hbx n k hn').1, ← e, hh] at v1
            injection v1 with v1; injection v1
          · have := (hJold b o ho).1
            omega
        · rw [w5 b hlt hsb] at hh
          rcases hG2 b o u hg with hu | hu
          · exact h.uf b o u c ty fz hb hu hh
          · exact h.uf b o u c ty fz hb (hnew b o u hu hlt) hh
      · rcases hG2 b o u hg with hu | hu
        · have := agree_lt h.ag hu; omega
        · exact g10 b o u c ty fz hge hu hh
    · exact (g11 k fun hk' => hk (hkn k hk').1).trans (h.no.ka k hk)
    · rcases hNn k b hb with hb | hb
      · exact h.no.fa k b hk hb
      · omega
    · by_cases hk : K k
      · exact (g12 k b hk hb).2
      · have hb' : x.nb k = some b := by rw [← hb]; exact (hNe k hk).symm
        have := h.no.ba k b hb'
        omega
    · change (if c / 64 = t then x'.tl (c % 64) else x.tl c) = some (b, e, tt) at htt
      split at htt
      · exact g14 k _ _ _ _ htt hb
      · rcases hNn k b hb with hb | hb
        · exact h.no.ta k _ _ _ _ htt hb
        · obtain ⟨_, ⟨vals, ty, q2, _⟩, _⟩ := h.tl.1 _ _ _ _ htt
          have := (Array.getElem?_eq_some_iff.1 q2).1
          omega
    · obtain ⟨l, hl, _⟩ := hlook n l' hl'
      rcases hNn k _ hb with hb | hb
      · exact h.no.xa k n l hl hb
      · have := hboxlt n l hl
        change w.heap.size ≤ x.bx n at hb
        omega
    · rcases hNn k b hb with hb | hb
      · exact h.no.ra k T b hT hb
      · have := (h.rgb T b hT).1
        omega
    · change (if c / 64 = t then x'.tl (c % 64) else x.tl c) = some (b, e, tt) at htt
      split at htt
      · have := (g8.1 _ _ _ _ htt).1
        have := (h.rgb T b hT).1
        omega
      · exact h.no.qa T _ _ _ _ htt hT
  · rw [renL_get, stripL_get, Option.map_map] at hc
    obtain ⟨c', hc', rfl⟩ := Option.map_eq_some_iff.1 hc
    refine rel_arg (hargs i v c' hv hc') (argL_get hok hc') (fun n hn => ?_) hbx (fun u y h1 h2 => ?_) (fun u y h1 h2 => ?_)
    · rw [← hns, dd_mem]
      exact ptrsL_get hc' n hn
    · show RepD (if frA.frL vs then x.G.from w0.heap.size else x.G) x.nm u y
      split
      · rename_i hfr; exact h2 (frL_get hfr hc')
      · exact h1
    · have hff : frA.frL vs = false := by
        cases hf : frA.frL vs with
        | false => rfl
        | true => rw [frL_get hf hc'] at h2; cases h2
      refine h1.mono (fun b o u hu => ?_) (fun b o hj => ⟨hff, hj⟩)
      show (if frA.frL vs then x.G.from w0.heap.size else x.G) b o = some u
      rw [hff]
      exact hu
  · rw [List.getElem?_map] at hk
    obtain ⟨l1, hl1, rfl⟩ := Option.map_eq_some_iff.1 hk
    obtain ⟨n, hn, hl⟩ := box k l1 hl1
    obtain ⟨q3, q4⟩ := hbx n k hn
    obtain ⟨⟨vals, ty, v1, v2, v3, v4⟩, _, hG⟩ := h.bxs n l1 hl
    have hd := List.all_eq_true.1 hdat l1 (List.mem_of_getElem? hl1)
    have hnf : frA.frL vs = false := by
      cases hh : frA.frL vs with
      | false => rfl
      | true => have := hfr0 hh; rw [this] at hn; simp at hn
    refine ⟨⟨vals, ty, by rw [q3]; exact v1, by rw [q4, stripL_len]; exact v2, by rw [q4]; exact v3, fun i e he => ?_⟩, fun o => ?_⟩
    · rw [stripL_get] at he
      obtain ⟨e', he', rfl⟩ := Option.map_eq_some_iff.1 he
      obtain ⟨v5, v6⟩ := v4 i e' he'
      refine ⟨by rw [q4, strip_cells, stripL_len]; exact v5, fun j c hc => ?_⟩
      rw [strip_cells, stripL_get] at hc
      obtain ⟨c', hc', rfl⟩ := Option.map_eq_some_iff.1 hc
      obtain ⟨v7, u, v8, v9, v10⟩ := v6 j c' hc'
      have hdc : dat c' = true := by
        have := datL_get hd he'
        cases e' with
        | agg cs => exact datL_get this hc'
        | _ =>
          cases j with
          | zero => have hh := Option.some.inj hc'; rw [← hh]; exact this
          | succ j => simp [AV.cells] at hc'
      refine ⟨by rw [okC_strip]; exact v7, u, by rw [q4]; exact v8, v9, rel_dat v10 hdc fun uu y h1 _ => ?_⟩
      show RepD (if frA.frL vs then x.G.from w0.heap.size else x.G) x.nm uu y
      rw [hnf]
      exact h1
    · rw [q3]
      cases hx : xc.G (x.bx n) o with
      | none => rfl
      | some u => have := hGc _ _ _ hx; rw [hG o] at this; cases this
  · rw [List.length_map] at hn hm
    obtain ⟨n1, hn1, hl1⟩ := box n bs[n] (List.getElem?_eq_getElem hn)
    obtain ⟨m1, hm1, hl2⟩ := box m bs[m] (List.getElem?_eq_getElem hm)
    rw [(hbx n1 n hn1).1, (hbx m1 m hm1).1] at e
    have e2 := h.inj n1 m1 _ _ hl1 hl2 e
    rw [← e2] at hm1
    obtain ⟨p1, p2⟩ := List.getElem?_eq_some_iff.1 hn1
    obtain ⟨p3, p4⟩ := List.getElem?_eq_some_iff.1 hm1
    exact (List.getElem_inj hnd).1 (p2.trans p4.symm)
end
end Go.Proofs.YticockdhfglolaaGreatDoor.Vm
/- An abstract machine over values: every operation does what it is said to do. -/
namespace Go.Proofs.YticockdhfglolaaGreatDoor.Vm
open Go Go.RowKit
set_option linter.unusedVariables false
set_option linter.unusedSimpArgs false
theorem run_callFunc {P : Program} {f : Nat} (h : fnOk P f = true) (args : Array Value) (w : World) : (callFunc f args).run P w = .ok (.enter f args) w := by
  unfold fnOk at h
  cases hf : P.funcs[f]? with
  | none => rw [hf] at h; cases h
  | some fn =>
    rw [hf] at h
    simp only [Option.map_some, Option.getD_some, Bool.and_eq_true, bne_iff_ne] at h
    have h1 : fn.body.isNone = false := by cases hb : fn.body <;> simp_all
    have h2 : (fn.name == "runtime.NumGoroutine") = false := by simpa using h.2
    have h3 : fn.body ≠ none := by intro e; rw [e] at h; simp at h
    simp [callFunc, hf, h.2, h3]
section
variable {E : EnvK} {x0 x : X} {w0 w : World} {pb nt : Nat} {a : Act} {s : AS}
theorem cut_spec (h : ∀ t, Rel x w0.heap.size (rd x0 a t) (s.get t)) {n : Nat} {lo hi : Option Operand} {lo' hi' : Option Od} (hlo : oo lo = some lo') (hhi : oo hi = some hi') {l hh : Nat} (hc : cutB s n lo' hi' = some (l, hh)) (isS : Bool) (cap : Nat) (hcap : n ≤ cap) (w1 : World) :
    l ≤ hh ∧ hh ≤ n ∧ (Instr.sliceBounds isS n cap (lo.map a.eval) (hi.map a.eval) none).run E.P w1 = .ok (l, hh, cap) w1 := by
  have one : ∀ {y : Operand} {y' : Od} {k : IntKind} {i : Int}, od y = some y' → s.val y' = .lit (.int k i) → a.eval y = .int k i := by
    intro y y' k i hy hv
    have r := od_rel (w0 := w0) h hy
    rw [hv] at r
    exact r.lit_inv
  unfold cutB at hc
  cases hi with
  | none =>
    obtain rfl := Option.some.inj hhi
    simp only at hc
    cases lo with
    | none =>
      obtain rfl := Option.some.inj hlo
      simp only [Option.some.injEq, Prod.mk.injEq] at hc
      obtain ⟨rfl, rfl⟩ := hc
      exact ⟨Nat.zero_le _, Nat.le_refl _, by simp [Instr.sliceBounds]⟩
    | some y =>
      obtain ⟨y', hy, e⟩ := Option.bind_eq_some_iff.1 hlo
      obtain rfl := Option.some.inj e
      simp only at hc
      split at hc
      · rename_i k i hv
        split at hc
        · rename_i hb
          simp only [Option.some.injEq, Prod.mk.injEq] at hc
          obtain ⟨rfl, rfl⟩ := hc
          have e1 := one hy hv
          exact ⟨by omega, Nat.le_refl _, by simp [Instr.sliceBounds, e1, Instr.sliceBound, asIntOf, hb]⟩
        · cases hc
      · cases hc
  | some z =>
    obtain ⟨z', hz, e⟩ := Option.bind_eq_some_iff.1 hhi
    obtain rfl := Option.some.inj e
    simp only at hc
    split at hc
    · cases hc
    · rename_i h0 hv0
      split at hv0
      · rename_i k i hv
        split at hv0
        · rename_i hb
          obtain rfl := Option.some.inj hv0
          have e1 := one hz hv
          have hb2 : 0 ≤ i ∧ i ≤ cap := ⟨hb.1, by omega⟩
          cases lo with
          | none =>
            obtain rfl := Option.some.inj hlo
            simp only [Option.some.injEq, Prod.mk.injEq] at hc
            obtain ⟨rfl, rfl⟩ := hc
            exact ⟨Nat.zero_le _, by omega, by simp [Instr.sliceBounds, e1, Instr.sliceBound, asIntOf, hb2]⟩
          | some y =>
            obtain ⟨y', hy, e⟩ := Option.bind_eq_some_iff.1 hlo
            obtain rfl := Option.some.inj e
            simp only at hc
            split at hc
            · rename_i k' i' hv'
              split at hc
              · rename_i hb'
                simp only [Option.some.injEq, Prod.mk.injEq] at hc
                obtain ⟨rfl, rfl⟩ := hc
                have e2 := one hy hv'
                have hb3 : 0 ≤ i' ∧ i' ≤ ((i.toNat : Nat) : Int) := hb'
                exact ⟨by omega, by omega, by
                  have hb4 : ¬ (max i 0 < i') := by omega
                  simp [Instr.sliceBounds, e1, e2, Instr.sliceBound, asIntOf, hb2, hb3, hb4]⟩
              · cases hc
            · cases hc
        · cases hv0
      · cases hv0
theorem bparts_spec (h : ∀ t, Rel x w0.heap.size (rd x0 a t) (s.get t)) (pl : List (Nat × Nat)) : ∀ {ps : List (Nat × Operand)} {xs : List (Nat × Nat × Od)} {vs : Array Value} {z cs : List AV}, bparts pl ps = some xs → Vm.fill z (pvals s xs) = some cs → vs.size = z.length → (∀ (j : Nat) (v : Value) (c : AV), vs[j]? = some v → z[j]? = some c → Rel x w0.heap.size v c) → (∀ p ∈ pvals s xs, p.2.2.cells.all okC = true) →
    ∃ vs', Instr.fill (fun i => pl[i]?) vs (ps.map fun p => (p.1, a.eval p.2)) = some vs' ∧ vs'.size = cs.length ∧ ∀ (j : Nat) (v : Value) (c : AV), vs'[j]? = some v → cs[j]? = some c → Rel x w0.heap.size v c
  | [], xs, vs, z, cs, hp, hf, hs, hr, _ => by
    obtain rfl := Option.some.inj hp
    obtain rfl := Option.some.inj hf
    exact ⟨vs, rfl, hs, hr⟩
  | (i, y) :: ps, xs, vs, z, cs, hp, hf, hs, hr, hok => by
    simp only [bparts] at hp
    obtain ⟨p, hpl, hp⟩ := Option.bind_eq_some_iff.1 hp
    obtain ⟨y', hy, hp⟩ := Option.bind_eq_some_iff.1 hp
    obtain ⟨r, hrr, hp⟩ := Option.bind_eq_some_iff.1 hp
    obtain rfl := Option.some.inj hp
    simp only [pvals, Vm.fill] at hf
    split at hf
    · rename_i hc
      obtain ⟨q1, q2, q3⟩ := rel_cells (od_rel h hy) (hok (p.1, p.2, s.val y') (by simp [pvals]))
      obtain ⟨off, sz⟩ := p
      simp only at hc
      obtain ⟨c1, f1, f2, f3⟩ := fill_cons (place := fun i => pl[i]?) (cells := vs) (i := i) (v := a.eval y) (rest := ps.map fun p => (p.1, a.eval p.2)) hpl (by rw [q1]; exact hc.1) (by rw [q1, hs]; omega)
      have hfit : off + (s.val y').cells.length ≤ z.length := by omega
      have hr' : ∀ (j : Nat) (v : Value) (c : AV), c1[j]? = some v → (upd z off (s.val y').cells)[j]? = some c → Rel x w0.heap.size v c := by
        intro j v c hv hcc
        rw [f3] at hv
        rw [upd_get _ _ _ hfit] at hcc
        rw [q1] at hv
        by_cases hj : off ≤ j ∧ j < off + (s.val y').cells.length
        · rw [if_pos hj] at hv hcc
          obtain ⟨u, hu, hru, _⟩ := q2 _ c hcc
          rw [hv] at hu
          obtain rfl := Option.some.inj hu
          exact hru
        · rw [if_neg hj] at hv hcc
          exact hr j v c hv hcc
      obtain ⟨vs', g1, g2, g3⟩ := bparts_spec h pl (vs := c1) hrr hf (by rw [f2, hs, upd_len _ _ _ hfit]) hr' (fun p hp => hok p (by simp [pvals, hp]))
      exact ⟨vs', by rw [List.map_cons, f1]; exact g1, g2, g3⟩
    · cases hf
theorem run_places {P : Program} : ∀ {fs : List Field} {pl : List (Nat × Nat)} (w : World), places P fs = some pl → (fs.mapM fun (f : Field) => (do pure (f.offset, ← sizeOf f.type) : Sem (Nat × Nat))).run P w = .ok pl w
  | [], pl, w, h => by obtain rfl := Option.some.inj h; rfl
  | f :: fs, pl, w, h => by
    simp only [places] at h
    obtain ⟨z, hz, h⟩ := Option.bind_eq_some_iff.1 h
    obtain ⟨r, hr, h⟩ := Option.bind_eq_some_iff.1 h
    obtain rfl := Option.some.inj h
    simp only [List.mapM_cons, Sem.run_bind, run_szOf hz, Result.andThen_ok, Sem.run_pure, run_places w hr]
theorem run_build {P : Program} {t : Nat} {fs : Array Field} {pl : List (Nat × Nat)} {z : Value} {ps : Array (Nat × Operand)} (ρ : Operand → Value) {vs' : Array Value} (hu : P.underlying t = some (.struct fs)) (hz : zeroOf P t = some z) (hp : places P fs.toList = some pl) (hf : Instr.fill (fun i => pl[i]?) z.cells (ps.toList.map fun p => (p.1, ρ p.2)) = some vs') (w : World) :
    (Instr.build t (ps.map fun p => (p.1, ρ p.2))).run P w = .ok (.agg vs') w := by
  unfold zeroOf at hz
  obtain ⟨i, hi, hiz⟩ := Option.bind_eq_some_iff.1 hz
  have hzv : (zeroValue t).run P w = .ok z w := by simp [zeroValue, typeInfo, hi, hiz]
  have hm : (fs.mapM fun (f : Field) => (do pure (f.offset, ← sizeOf f.type) : Sem (Nat × Nat))).run P w = .ok pl.toArray w := by
    rw [Array.mapM_eq_mapM_toList, Sem.run_map, run_places w hp]
    rfl
  unfold Instr.build
  simp only [Sem.run_bind, hzv, Result.andThen_ok, run_underlying hu, hm, Array.toList_map, List.getElem?_toArray]
  rw [hf]
  rfl
end
end Go.Proofs.YticockdhfglolaaGreatDoor.Vm
/- An abstract machine over values: names that nothing bears. -/
namespace Go.Proofs.YticockdhfglolaaGreatDoor.Vm
open Go Go.RowKit
set_option linter.unusedVariables false
set_option linter.unusedSimpArgs false
theorem noIL_get {p : Nat → Prop} : ∀ {cs : List AV} {j : Nat} {c : AV}, noI.noIL p cs → cs[j]? = some c → noI p c
  | [], _, _, _, h => by simp at h
  | y :: cs, 0, c, h, hc => by
    obtain rfl : y = c := by simpa using hc
    exact h.1
  | y :: cs, j + 1, c, h, hc => noIL_get (cs := cs) (j := j) h.2 (by simpa using hc)
theorem RepD.reN {G : Gh} {N N' : Nat → Option (Nat × Nat)} {p : Nat → Prop} (hN : ∀ j b, ¬ p j → N j = some b → N' j = some b) {v : Value} {a : AV} (r : RepD G N v a) : noI p a → RepD G N' v a := by
  induction r with
  | un v => exact fun _ => .un v
  | lit v h => exact fun _ => .lit v h
  | sl A n cap m sz xs b o f h1 h2 h3 h4 h5 h6 h7 ih =>
    intro hn
    refine .sl A n cap m sz xs b o f h1 h2 h3 h4 h5 (fun i y j c hy hc => ih i y j c hy hc ?_) fun k hk hx => hN k _ (hn.1 k hk) (h7 k hk hx)
    have hy' := noIL_get hn.2 hy
    cases y with
    | agg cs => exact noIL_get (cs := cs) hy' hc
    | _ =>
      cases j with
      | zero => have := Option.some.inj hc; rw [← this]; exact hy'
      | succ j => simp [AV.cells] at hc
theorem allP_get {α : Type} {p : α → Prop} {t : Nat} {v : α} : ∀ {l : List (Nat × α)}, allP p l → look l t = some v → p v
  | [], _, h => by cases h
  | (u, y) :: l, h, hl => by
    simp only [look] at hl
    split at hl
    · obtain rfl := Option.some.inj hl; exact h.1
    · exact allP_get h.2 hl
theorem noI_get {s : AS} {p : Nat → Prop} (h : s.noI p) (t : Nat) : noI p (s.get t) := by
  unfold AS.get
  cases hl : look s.env t with
  | none => trivial
  | some v => exact allP_get h.1 hl
/-- Names told anew where nothing bears them. -/
theorem Rel.reN {x : X} {base : Nat} {p : Nat → Prop} {nm' : Nat → Option (Nat × Nat)} (hN : ∀ j b, ¬ p j → x.nm j = some b → nm' j = some b) {v : Value} {a : AV} (r : Rel x base v a) : noI p a → Rel { x with nm := nm' } base v a := by
  induction r with
  | un v => exact fun _ => .un v
  | lit v h => exact fun _ => .lit v h
  | sl v m sz xs h1 h2 h3 =>
    intro hn
    refine .sl _ _ _ _ (h1.reN hN hn) (fun hf => (h2 hf).reN hN hn) ?_
    obtain ⟨ap, fr⟩ := m
    cases ap with
    | no => trivial
    | nl => exact h3
    | cl c => exact h3
    | id k => trivial
    | ow t => exact ⟨h3.1.reN hN ⟨by simp [ro], hn.2⟩, h3.2⟩
  | agg vs cs hs _ ih => exact fun hn => .agg vs cs hs fun j v c hv hc => ih j v c hv hc (noIL_get (cs := cs) hn hc)
  | tup vs cs hs _ ih => exact fun hn => .tup vs cs hs fun j v c hv hc => ih j v c hv hc (noIL_get (cs := cs) hn hc)
  | ptr n i off => exact fun _ => Rel.ptr (x := { x with nm := nm' }) n i off
  | ep b o fr cs f h1 h2 h3 =>
    intro hn
    exact .ep b o fr cs f h1 (fun j c h => (h2 j c h).reN hN (noIL_get (cs := cs) hn h)) fun hf j c h => (h3 hf j c h).reN hN (noIL_get (cs := cs) hn h)
  | fn f vs cs hs _ ih => exact fun hn => .fn f vs cs hs fun j v c hv hc => ih j v c hv hc (noIL_get (cs := cs) hn hc)
  | bs n sz len cap h hl => exact fun _ => Rel.bs (x := { x with nm := nm' }) n sz len cap h hl
  | hs v sz xs h => exact fun _ => .hs v sz xs h
  | hp b o cs f h1 h2 => exact fun _ => .hp b o cs f h1 h2
theorem BoxAt.reN {x : X} {base : Nat} {w : World} {n : Nat} {l : List AV} {p : Nat → Prop} {nm' : Nat → Option (Nat × Nat)} (hN : ∀ j b, ¬ p j → x.nm j = some b → nm' j = some b) (h : BoxAt x base w n l) (hn : noI.noIL p l) : BoxAt { x with nm := nm' } base w n l := by
  obtain ⟨vals, ty, e1, e2, e3, e4⟩ := h
  refine ⟨vals, ty, e1, e2, e3, fun i e he => ?_⟩
  obtain ⟨e5, e6⟩ := e4 i e he
  refine ⟨e5, fun j d hd => ?_⟩
  obtain ⟨e7, v, e8, e9, e10⟩ := e6 j d hd
  refine ⟨e7, v, e8, e9, e10.reN hN ?_⟩
  have hy' := noIL_get hn he
  cases e with
  | agg cs => exact noIL_get (cs := cs) hy' hd
  | _ =>
    cases j with
    | zero => have := Option.some.inj hd; rw [← this]; exact hy'
    | succ j => simp [AV.cells] at hd
section
variable {E : EnvK} {x0 x : X} {w0 w : World} {pb nt : Nat} {a : Act} {s : AS}
open Classical in
/-- names that nothing bears, forgotten -/
noncomputable def X.drop (x : X) (p : Nat → Prop) : X := { x with nm := fun k => if p k then none else x.nm k }
theorem X.drop_nb {p : Nat → Prop} {k b : Nat} (h : (x.drop p).nb k = some b) : ¬ p k ∧ x.nb k = some b := by
  unfold X.nb X.drop at h
  simp only at h
  split at h
  · cases h
  · exact ⟨by assumption, h⟩
theorem X.drop_nm {p : Nat → Prop} (j : Nat) (b : Nat × Nat) (hj : ¬ p j) (h : x.nm j = some b) : (x.drop p).nm j = some b := by
  unfold X.drop
  simp only
  rw [if_neg hj]; exact h
theorem St.reN (h : St E x0 w0 pb nt x a w s) {p : Nat → Prop} (hp : ∀ k, p k → E.nk k) (hs : s.noI p) : St E x0 w0 pb nt (x.drop p) a w s :=
  { h with
    env := fun t => (h.env t).reN X.drop_nm (noI_get hs t)
    bxs := fun n l hl => ⟨(h.bxs n l hl).1.reN X.drop_nm (allP_get hs.2 hl), (h.bxs n l hl).2⟩
    no := ⟨fun k hk => by
        have : ¬ p k := fun hh => hk (hp k hh)
        show (x.drop p).nm k = _
        unfold X.drop
        simp only
        rw [if_neg this]
        exact h.no.ka k hk, fun k b hk hb => h.no.fa k b hk (X.drop_nb hb).2, fun k k' b hb hb' => h.no.ia k k' b (X.drop_nb hb).2 (X.drop_nb hb').2, fun k b hb => h.no.ba k b (X.drop_nb hb).2,
      fun k c b e t ht hb => h.no.ta k c b e t ht (X.drop_nb hb).2, fun k n l hl hb => h.no.xa k n l hl (X.drop_nb hb).2, fun k T b hT hb => h.no.ra k T b hT (X.drop_nb hb).2, h.no.qa, h.no.za⟩ }
end
end Go.Proofs.YticockdhfglolaaGreatDoor.Vm
