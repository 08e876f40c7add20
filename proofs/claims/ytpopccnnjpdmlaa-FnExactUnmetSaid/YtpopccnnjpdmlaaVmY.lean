/- An abstract machine over values: steps, for simp. -/
import Derived.Test.YtpopccnnjpdmlaaVmX
namespace Go.Proofs.Ytpopccnnjpdmlaa.Vm
open Go Go.RowKit
set_option linter.unusedVariables false
set_option linter.unusedSimpArgs false
def by8 (s : String) : ByteArray := s.toUTF8
def dl (l : List (Nat × List Nat)) (i : Nat) : List Nat := (look l i).getD []
/-- keeps simp out of what it speaks of -/
inductive Lk {α : Type} (a : α) : Type
  | mk
/-- a fork, by a value; nothing behind it is looked at before the value is known -/
def fk (v : AV) (w : Bool) (A B : Prop) (_ : Lk (A, B)) : Prop := ∃ b, v = .lit (.bool b) ∧ if b = w then A else B
theorem fk_same {b : Bool} {A B : Prop} (l : Lk (A, B)) : fk (.lit (.bool b)) b A B l = A := by unfold fk; simp
theorem fk_tf {A B : Prop} (l : Lk (A, B)) : fk (.lit (.bool true)) false A B l = B := by unfold fk; simp
theorem fk_ft {A B : Prop} (l : Lk (A, B)) : fk (.lit (.bool false)) true A B l = B := by unfold fk; simp
theorem fk_split {b : Bool} {w : Bool} {A B : Prop} {l : Lk (A, B)} (h1 : b = w → A) (h2 : b ≠ w → B) : fk (.lit (.bool b)) w A B l := by
  refine ⟨b, rfl, ?_⟩
  split
  · exact h1 ‹_›
  · exact h2 ‹_›
/-- a guard -/
def gk (v : AV) (w : Bool) (A B : Prop) (_ : Lk (A, B)) : Prop := ∃ b, gOf v = some b ∧ if b = some w then A else B
theorem gk_same {b : Bool} {A B : Prop} (l : Lk (A, B)) : gk (.lit (.bool b)) b A B l = A := by unfold gk; simp [gOf]
theorem gk_tf {A B : Prop} (l : Lk (A, B)) : gk (.lit (.bool true)) false A B l = B := by unfold gk; simp [gOf]
theorem gk_ft {A B : Prop} (l : Lk (A, B)) : gk (.lit (.bool false)) true A B l = B := by unfold gk; simp [gOf]
theorem gk_no {w : Bool} {A B : Prop} (l : Lk (A, B)) : gk (.tup []) w A B l = B := by unfold gk; simp [gOf]
/-- a value that there must be -/
def wh {α : Type} (o : Option α) (K : α → Prop) (_ : Lk K) : Prop := ∃ v, o = some v ∧ K v
theorem wh_some {α : Type} (v : α) (K : α → Prop) (l : Lk K) : wh (some v) K l = K v := by unfold wh; simp
theorem wh_map {α β : Type} (o : Option α) (f : α → β) (K : β → Prop) (l : Lk K) : wh (o.map f) K l = wh o (fun v => K (f v)) .mk := by unfold wh; cases o <;> simp
theorem wh_ite {α : Type} (c : Prop) [Decidable c] (v : α) (K : α → Prop) (l : Lk K) : wh (if c then some v else none) K l = (c ∧ K v) := by unfold wh; split <;> simp [*]
theorem wh_of {α : Type} {o : Option α} {v : α} {K : α → Prop} {l : Lk K} (h : o = some v) (hk : K v) : wh o K l := ⟨v, h, hk⟩
def strOf : AV → Option ByteArray
  | .lit (.string b) => some b
  | _ => none
def intOf : AV → Option Int
  | .lit (.int _ i) => some i
  | _ => none
theorem strOf_some {v : AV} {b : ByteArray} : strOf v = some b ↔ v = .lit (.string b) := by
  unfold strOf; split <;> simp_all
theorem intOf_some {v : AV} {i : Int} : intOf v = some i ↔ ∃ k, v = .lit (.int k i) := by
  unfold intOf; split
  · rename_i k j; simp
  · rename_i h; simp only [reduceCtorEq, false_iff]; rintro ⟨k, rfl⟩; exact h k i rfl
def iaK (sz : Nat) (v : AV) (j : Int) (K : AV → Prop) (_ : Lk K) : Prop := match v with
  | .sl m z xs => z = sz ∧ wh xs[j.toNat]? (fun e => K (.ep m.fr e.cells)) .mk
  | .bs n z l => z = sz ∧ j < l ∧ K (.ptr n j.toNat 0)
  | .hs z xs => z = sz ∧ wh xs[j.toNat]? (fun e => K (.hp e.cells)) .mk
  | _ => False
theorem iaK_sl (sz : Nat) (m : Mk) (xs : List AV) (j : Int) (K : AV → Prop) (l : Lk K) : iaK sz (.sl m sz xs) j K l = wh xs[j.toNat]? (fun e => K (.ep m.fr e.cells)) .mk := by simp [iaK]
theorem iaK_hs (sz : Nat) (xs : List AV) (j : Int) (K : AV → Prop) (l : Lk K) : iaK sz (.hs sz xs) j K l = wh xs[j.toNat]? (fun e => K (.hp e.cells)) .mk := by simp [iaK]
theorem iaK_bs (sz n l : Nat) (j : Int) (K : AV → Prop) (q : Lk K) : iaK sz (.bs n sz l) j K q = (j < l ∧ K (.ptr n j.toNat 0)) := by simp [iaK]
def faK (off : Nat) (v : AV) (K : AV → Prop) (_ : Lk K) : Prop := match v with
  | .ep fr cs => off ≤ cs.length ∧ K (.ep fr (cs.drop off))
  | .ptr n i o => K (.ptr n i (o + off))
  | .hp cs => off ≤ cs.length ∧ K (.hp (cs.drop off))
  | _ => False
theorem faK_ep (off : Nat) (fr : Bool) (cs : List AV) (K : AV → Prop) (l : Lk K) : faK off (.ep fr cs) K l = (off ≤ cs.length ∧ K (.ep fr (cs.drop off))) := propext Iff.rfl
theorem faK_hp (off : Nat) (cs : List AV) (K : AV → Prop) (l : Lk K) : faK off (.hp cs) K l = (off ≤ cs.length ∧ K (.hp (cs.drop off))) := propext Iff.rfl
theorem faK_ptr (off n i o : Nat) (K : AV → Prop) (l : Lk K) : faK off (.ptr n i o) K l = K (.ptr n i (o + off)) := propext Iff.rfl
def hsOf : List AV → Option (Nat × List AV)
  | .hs z ys :: _ => some (z, ys)
  | _ => none
theorem hsOf_some {cs : List AV} {z : Nat} {ys : List AV} : hsOf cs = some (z, ys) ↔ cs[0]? = some (.hs z ys) := by
  unfold hsOf
  split
  · simp
  · rename_i h
    simp only [reduceCtorEq, false_iff]
    intro hc
    cases cs with
    | nil => simp at hc
    | cons c cs =>
      obtain rfl : c = .hs z ys := by simpa using hc
      exact h z ys cs rfl
def ldK (ag : Bool) (sz : Nat) (bxs : List (Nat × List AV)) (v : AV) (K : AV → Prop) (_ : Lk K) : Prop := match v with
  | .ep fr cs => if ag then sz ≤ cs.length ∧ K (.agg (mkF.mkL fr (cs.take sz))) else wh cs[0]? (fun c => K (mkF fr c)) .mk
  | .ptr n i o => wh (look bxs n) (fun l => wh l[i]? (fun e => if ag then o + sz ≤ e.cells.length ∧ K (.agg ((e.cells.drop o).take sz)) else wh e.cells[o]? K .mk) .mk) .mk
  | .hp cs => ag = false ∧ wh (hsOf cs) (fun p => K (.hs p.1 p.2)) .mk
  | _ => False
theorem ldK_hp (sz : Nat) (bxs : List (Nat × List AV)) (cs : List AV) (K : AV → Prop) (l : Lk K) : ldK false sz bxs (.hp cs) K l = wh (hsOf cs) (fun p => K (.hs p.1 p.2)) .mk := by simp [ldK]
theorem ldK_epA (sz : Nat) (bxs : List (Nat × List AV)) (fr : Bool) (cs : List AV) (K : AV → Prop) (l : Lk K) : ldK true sz bxs (.ep fr cs) K l = (sz ≤ cs.length ∧ K (.agg (mkF.mkL fr (cs.take sz)))) := propext Iff.rfl
theorem ldK_ep (sz : Nat) (bxs : List (Nat × List AV)) (fr : Bool) (cs : List AV) (K : AV → Prop) (l : Lk K) : ldK false sz bxs (.ep fr cs) K l = wh cs[0]? (fun c => K (mkF fr c)) .mk := propext Iff.rfl
theorem ldK_ptrA (sz : Nat) (bxs : List (Nat × List AV)) (n i o : Nat) (K : AV → Prop) (l : Lk K) : ldK true sz bxs (.ptr n i o) K l = wh (look bxs n) (fun l => wh l[i]? (fun e => o + sz ≤ e.cells.length ∧ K (.agg ((e.cells.drop o).take sz))) .mk) .mk := propext Iff.rfl
theorem ldK_ptr (sz : Nat) (bxs : List (Nat × List AV)) (n i o : Nat) (K : AV → Prop) (l : Lk K) : ldK false sz bxs (.ptr n i o) K l = wh (look bxs n) (fun l => wh l[i]? (fun e => wh e.cells[o]? K .mk) .mk) .mk := propext Iff.rfl
def stK (v : AV) (K : Nat × Nat × Nat → Prop) (H : Unit → Prop) (_ : Lk K) (_ : Lk H) : Prop := match v with
  | .ptr n i o => K (n, i, o)
  | .hp (c :: _) => isUn c = true ∧ H ()
  | _ => False
theorem stK_ptr (n i o : Nat) (K : Nat × Nat × Nat → Prop) (H : Unit → Prop) (l : Lk K) (m : Lk H) : stK (.ptr n i o) K H l m = K (n, i, o) := propext Iff.rfl
theorem stK_hp (c : AV) (cs : List AV) (K : Nat × Nat × Nat → Prop) (H : Unit → Prop) (l : Lk K) (m : Lk H) : stK (.hp (c :: cs)) K H l m = (isUn c = true ∧ H ()) := propext Iff.rfl
def ptrOf : AV → Option (Nat × Nat × Nat)
  | .ptr n i o => some (n, i, o)
  | _ => none
theorem ptrOf_some {v : AV} {n i o : Nat} : ptrOf v = some (n, i, o) ↔ v = .ptr n i o := by
  unfold ptrOf; split <;> simp_all
def slOf : AV → Option (Mk × Nat × List AV)
  | .sl m z xs => some (m, z, xs)
  | _ => none
theorem slOf_some {v : AV} {m : Mk} {z : Nat} {xs : List AV} : slOf v = some (m, z, xs) ↔ v = .sl m z xs := by
  unfold slOf; split <;> simp_all
def tupOf : AV → Option (List AV)
  | .tup cs => some cs
  | _ => none
theorem tupOf_some {v : AV} {cs : List AV} : tupOf v = some cs ↔ v = .tup cs := by
  unfold tupOf; split <;> simp_all
def fnOf : AV → Option (Nat × List AV)
  | .fn f cs => some (f, cs)
  | _ => none
theorem fnOf_some {v : AV} {f : Nat} {cs : List AV} : fnOf v = some (f, cs) ↔ v = .fn f cs := by
  unfold fnOf; split <;> simp_all
/-- append, by the room there is -/
def apK (s : AS) (d : Option Nat) (sz z : Nat) (ap : Ap) (fr : Bool) (l : List AV) (Q : AS → Prop) (_ : Lk Q) : Prop := match ap with
  | .no => False
  | .ow _ => False
  | .nl => ∃ t, d = some t ∧ (s.putO d .un).noC t = true ∧ Q (s.put t (.sl ⟨.cl (64 * t), fr⟩ sz l))
  | .cl c => z = sz ∧ Q ((s.dem c).putO d (.sl ⟨.cl c, fr⟩ sz l))
theorem apK_nl (s : AS) (t sz z : Nat) (fr : Bool) (l : List AV) (Q : AS → Prop) (q : Lk Q) : apK s (some t) sz z .nl fr l Q q = ((s.putO (some t) .un).noC t = true ∧ Q (s.put t (.sl ⟨.cl (64 * t), fr⟩ sz l))) := by simp [apK]
theorem apK_cl (s : AS) (d : Option Nat) (sz c : Nat) (fr : Bool) (l : List AV) (Q : AS → Prop) (q : Lk Q) : apK s d sz sz (.cl c) fr l Q q = Q ((s.dem c).putO d (.sl ⟨.cl c, fr⟩ sz l)) := by simp [apK]
/-! the same, with what comes behind kept shut -/
def Xe (E : Env) (c : VC) (s : AS) (Q : Ex → AS → Prop) (_ : Lk Q) : Prop := vx E c s Q
def Xs (E : Env) (os : List VO) (s : AS) (Q : AS → Prop) (_ : Lk Q) : Prop := vops E os s Q
def Xo (E : Env) (o : VO) (s : AS) (Q : AS → Prop) (_ : Lk Q) : Prop := vop E o s Q
def Xa (E : Env) (s : AS) (d : Option Nat) (k : VK) (Q : AS → Prop) (_ : Lk Q) : Prop := vact E s d Q k
def Xc (E : Env) (q : Bool) (s : AS) (d : Option Nat) (f : Nat) (vs : List AV) (Q : AS → Prop) (_ : Lk Q) : Prop := vcall2 E q s d f vs Q
section
variable {E : Env} {s : AS} {Q : Ex → AS → Prop}
theorem vx_X {c : VC} (h : Xe E c s Q .mk) : vx E c s Q := h
variable (l : Lk Q)
theorem X_skip : Xe E .skip s Q l = Q .normal s := propext Iff.rfl
theorem X_ret : Xe E .ret s Q l = Q .ret s := propext Iff.rfl
theorem X_exit (n : Nat) : Xe E (.exit n) s Q l = Q (.exit n) s := propext Iff.rfl
theorem X_seq (a b : VC) : Xe E (.seq a b) s Q l = Xe E a s (fun e s' => match e with | .normal => Xe E b s' Q .mk | e => Q e s') .mk := propext Iff.rfl
theorem X_cond (c : Od) (a b : VC) : Xe E (.cond c a b) s Q l = fk (s.val c) true (Xe E a s Q .mk) (Xe E b s Q .mk) .mk := propext Iff.rfl
theorem X_block (n : Nat) (c : VC) : Xe E (.block n c) s Q l = Xe E c s (fun e s' => if e = .exit n then Q .normal s' else Q e s') .mk := propext Iff.rfl
theorem X_reg0 (os : List VO) (dr : List Nat) : Xe E (.reg false os dr) s Q l = Xs E os s (fun s' => Q .normal ⟨drops dr s'.env, s'.bxs⟩) .mk := by simp [Xe, Xs, vx]
theorem X_reg1 (os : List VO) (dr : List Nat) : Xe E (.reg true os dr) s Q l = (os.all (tmpOk s) = true ∧ Xs E os s (fun s' => Q .normal ⟨drops dr s'.env, s'.bxs⟩) .mk) := by simp [Xe, Xs, vx]
end
section
variable {E : Env} {s : AS} {Q : AS → Prop} (l : Lk Q) (d : Option Nat)
theorem Xs_nil : Xs E [] s Q l = Q s := propext Iff.rfl
theorem Xs_cons (o : VO) (os : List VO) : Xs E (o :: os) s Q l = Xo E o s (fun s' => Xs E os s' Q .mk) .mk := propext Iff.rfl
theorem Xo_n (k : VK) : Xo E ⟨d, k, none⟩ s Q l = Xa E s d k Q .mk := propext Iff.rfl
theorem Xo_g (k : VK) (t : Nat) (w : Bool) : Xo E ⟨d, k, some (t, w)⟩ s Q l = gk (s.get t) w (Xa E s d k Q .mk) (Q (s.putO d (.tup []))) .mk := propext Iff.rfl
theorem Xa_mv (x : Od) : Xa E s d (.mv x) Q l = Q (s.putO d (s.val x)) := propext Iff.rfl
theorem Xa_as (x : Od) : Xa E s d (.as x) Q l = Q (s.putO d (s.val x)) := propext Iff.rfl
theorem Xa_pick (c a b : Od) : Xa E s d (.pick c a b) Q l = fk (s.val c) true (Q (s.putO d (s.val a))) (Q (s.putO d (s.val b))) .mk := by
  unfold fk
  simp only [Xa, vact]
  congr 1
  funext t
  cases t <;> simp
theorem Xa_bin (op : BinOp) (ty : Nat) (x y : Od) : Xa E s d (.bin op ty x y) Q l = wh (binV op ty (s.val x) (s.val y)) (fun v => Q (s.putO d (.lit v))) .mk := propext Iff.rfl
theorem Xa_un (op : UnOp) (x : Od) : Xa E s d (.un op x) Q l = wh (unV op (s.val x)) (fun v => Q (s.putO d (.lit v))) .mk := propext Iff.rfl
theorem Xa_len (b : Bool) (x : Od) : Xa E s d (.len b x) Q l = wh (lenV b (s.val x)) (fun n => Q (s.putO d (.lit (.int .i64 n)))) .mk := propext Iff.rfl
theorem Xa_idx (x i : Od) : Xa E s d (.idx x i) Q l = wh (strOf (s.val x)) (fun b => wh (intOf (s.val i)) (fun j => 0 ≤ j ∧ j < b.size ∧ Q (s.putO d (.lit (.int .u8 (bt b j.toNat).toNat)))) .mk) .mk := by
  simp only [Xa, vact, wh, strOf_some, intOf_some, eq_iff_iff]
  constructor
  · rintro ⟨b, k, j, h1, h2, h3⟩; exact ⟨b, h1, j, ⟨k, h2⟩, h3⟩
  · rintro ⟨b, h1, j, ⟨k, h2⟩, h3⟩; exact ⟨b, k, j, h1, h2, h3⟩
theorem Xa_ia (sz : Nat) (x i : Od) : Xa E s d (.ia sz x i) Q l = wh (intOf (s.val i)) (fun j => 0 ≤ j ∧ iaK sz (s.val x) j (fun v => Q (s.putO d v)) .mk) .mk := by
  simp only [Xa, vact, wh, intOf_some, iaK, eq_iff_iff]
  constructor
  · rintro ⟨k, j, h1, h2, h3⟩; exact ⟨j, ⟨k, h1⟩, h2, h3⟩
  · rintro ⟨j, ⟨k, h1⟩, h2, h3⟩; exact ⟨k, j, h1, h2, h3⟩
theorem Xa_fa (off : Nat) (x : Od) : Xa E s d (.fa off x) Q l = faK off (s.val x) (fun v => Q (s.putO d v)) .mk := propext Iff.rfl
theorem Xa_ld (ag : Bool) (sz : Nat) (x : Od) : Xa E s d (.ld ag sz x) Q l = ldK ag sz s.bxs (s.val x) (fun v => Q (s.putO d v)) .mk := by
  simp only [Xa, vact, ldK]
  cases s.val x <;> simp only [wh]
  · simp only [eq_iff_iff]
    constructor
    · rintro ⟨l, e, h1, h2, h3⟩; exact ⟨l, h1, e, h2, h3⟩
    · rintro ⟨l, h1, e, h2, h3⟩; exact ⟨l, e, h1, h2, h3⟩
  · simp only [eq_iff_iff]
    constructor
    · rintro ⟨h1, z, ys, h2, h3⟩; exact ⟨h1, (z, ys), hsOf_some.2 h2, h3⟩
    · rintro ⟨h1, ⟨z, ys⟩, h2, h3⟩; exact ⟨h1, z, ys, hsOf_some.1 h2, h3⟩
theorem Xa_st (sz : Nat) (a x : Od) : Xa E s d (.st sz a x) Q l = stK (s.val a) (fun p => wh (look s.bxs p.1) (fun l => wh l[p.2.1]? (fun e => 0 < sz ∧ (s.val x).cells.length = sz ∧ p.2.2 + sz ≤ e.cells.length ∧ (s.val x).cells.all okC = true ∧ Q ((s.setB p.1 (l.set p.2.1 (putElem e p.2.2 (s.val x)))).putO d .un)) .mk) .mk) (fun _ => sz = 1 ∧ (s.val x).cells.length = 1 ∧ (s.val x).cells.all okC = true ∧ Q (s.putO d .un)) .mk .mk := by
  simp only [Xa, vact, wh, eq_iff_iff]
  constructor
  · rintro (⟨n, i, o, h1, l, e, h2, h3, h4⟩ | ⟨c, cs, h1, h2, h3⟩)
    · rw [h1]; exact ⟨l, h2, e, h3, h4⟩
    · rw [h1]; exact ⟨h2, h3⟩
  · intro h
    unfold stK at h
    split at h
    · rename_i n i o h1
      obtain ⟨l, h2, e, h3, h4⟩ := h
      exact .inl ⟨n, i, o, h1, l, e, h2, h3, h4⟩
    · rename_i c cs h1
      exact .inr ⟨c, cs, h1, h.1, h.2⟩
    · exact h.elim
theorem Xa_box (t sz : Nat) (x : Od) : Xa E s (some t) (.box sz x) Q l = ((s.val x).cells.length = sz ∧ 0 < sz ∧ (s.val x).cells.all okC = true ∧ (s.putO (some t) .un).noB (1000 + t) = true ∧ noB (1000 + t) (s.val x) = true ∧ Q ((s.setB (1000 + t) [s.val x]).put t (.ptr (1000 + t) 0 0))) := by simp [Xa, vact]
theorem Xa_alloc (t : Nat) (z : AV) : Xa E s (some t) (.alloc z) Q l = (0 < z.cells.length ∧ z.cells.all okC = true ∧ (s.putO (some t) .un).noB (1000 + t) = true ∧ noB (1000 + t) z = true ∧ Q ((s.setB (1000 + t) [z]).put t (.ptr (1000 + t) 0 0))) := by simp [Xa, vact]
theorem Xa_bld (z : List AV) (ps : List (Nat × Nat × Od)) : Xa E s d (.bld z ps) Q l = ((pvals s ps).all (fun p => p.2.2.cells.all okC) = true ∧ wh (fill z (pvals s ps)) (fun cs => Q (s.putO d (.agg cs))) .mk) := propext Iff.rfl
theorem Xa_bsl (t sz : Nat) (xs : List Od) : Xa E s (some t) (.bsl sz xs) Q l = ((s.putO (some t) .un).noC t = true ∧ (s.vals xs).all (fun x => decide (x.cells.length = sz) && dat x && x.cells.all okC) = true ∧ Q (s.put t (.sl ⟨.cl (64 * t), frA.frL (s.vals xs)⟩ sz (strip.stripL (s.vals xs))))) := by simp [Xa, vact]
theorem Xa_slS (x : Od) (lo hi : Option Od) : Xa E s d (.slS x lo hi) Q l = wh (strOf (s.val x)) (fun b => wh (cutB s b.size lo hi) (fun p => Q (s.putO d (.lit (.string (b.extract p.1 p.2))))) .mk) .mk := by
  simp only [Xa, vact, wh, strOf_some, eq_iff_iff]
  constructor
  · rintro ⟨b, h1, l, h, h2, h3⟩; exact ⟨b, h1, (l, h), h2, h3⟩
  · rintro ⟨b, h1, ⟨l, h⟩, h2, h3⟩; exact ⟨b, h1, l, h, h2, h3⟩
theorem Xa_slL (sz : Nat) (x : Od) (lo hi : Option Od) : Xa E s d (.slL sz x lo hi) Q l = wh (slOf (s.val x)) (fun q => (q.2.1 = sz ∨ q.2.2 = []) ∧ wh (cutB s q.2.2.length lo hi) (fun p => Q (s.putO d (.sl ⟨if isNone hi then noOw q.1.ap else .no, q.1.fr⟩ q.2.1 ((q.2.2.take p.2).drop p.1)))) .mk) .mk := by
  simp only [Xa, vact, wh, eq_iff_iff]
  constructor
  · rintro ⟨m, z, xs, h1, h2, l, h, h3, h4⟩; exact ⟨(m, z, xs), slOf_some.2 h1, h2, (l, h), h3, h4⟩
  · rintro ⟨⟨m, z, xs⟩, h1, h2, ⟨l, h⟩, h3, h4⟩; exact ⟨m, z, xs, slOf_some.1 h1, h2, l, h, h3, h4⟩
theorem Xa_app (sz byt : Nat) (x y : Od) : Xa E s d (.app sz byt x y) Q l = wh (slOf (s.val x)) (fun p => wh (slOf (s.val y)) (fun q => (p.2.1 = sz ∨ p.2.2 = []) ∧ (q.2.1 = sz ∨ q.2.2 = []) ∧ (p.2.2.length + q.2.2.length) * byt ≤ 70368744177664 ∧ apK s d sz p.2.1 p.1.ap (p.1.fr && q.1.fr) (p.2.2 ++ q.2.2) Q .mk) .mk) .mk := by
  simp only [Xa, vact, wh, eq_iff_iff]
  constructor
  · rintro ⟨m, z, xs, h1, m2, z2, ys, h2, h3⟩; exact ⟨(m, z, xs), slOf_some.2 h1, (m2, z2, ys), slOf_some.2 h2, h3⟩
  · rintro ⟨⟨m, z, xs⟩, h1, ⟨m2, z2, ys⟩, h2, h3⟩; exact ⟨m, z, xs, slOf_some.1 h1, m2, z2, ys, slOf_some.1 h2, h3⟩
theorem Xa_mks (t sz byt : Nat) (z : AV) (n : Od) : Xa E s (some t) (.mks sz byt z n) Q l = wh (intOf (s.val n)) (fun j => 0 ≤ j ∧ j * byt ≤ 70368744177664 ∧ j ≤ 9223372036854775807 ∧ z.cells.length = sz ∧ z.cells.all okC = true ∧ (s.putO (some t) .un).noB (1000 + t) = true ∧ noB (1000 + t) z = true ∧ Q ((s.setB (1000 + t) (List.replicate j.toNat z)).put t (.bs (1000 + t) sz j.toNat))) .mk := by
  simp only [Xa, vact, wh, intOf_some, eq_iff_iff]
  constructor
  · rintro ⟨t', k, j, h0, h1, h2⟩
    obtain rfl := Option.some.inj h0
    exact ⟨j, ⟨k, h1⟩, h2⟩
  · rintro ⟨j, ⟨k, h1⟩, h2⟩; exact ⟨t, k, j, rfl, h1, h2⟩
theorem Xa_ext (x : Od) (i : Nat) : Xa E s d (.ext x i) Q l = wh (tupOf (s.val x)) (fun cs => wh cs[i]? (fun c => Q (s.putO d c)) .mk) .mk := by
  simp only [Xa, vact, wh, tupOf_some, eq_iff_iff]
  constructor
  · rintro ⟨cs, c, h1, h2, h3⟩; exact ⟨cs, h1, c, h2, h3⟩
  · rintro ⟨cs, h1, c, h2, h3⟩; exact ⟨cs, c, h1, h2, h3⟩
theorem Xa_call (q : Bool) (f : Nat) (as : List Od) : Xa E s d (.call q f as) Q l = Xc E q s d f (s.vals as) Q .mk := propext Iff.rfl
theorem Xa_callv (q : Bool) (x : Od) (as : List Od) : Xa E s d (.callv q x as) Q l = wh (fnOf (s.val x)) (fun p => fnOk E.P p.1 = true ∧ Xc E q s d p.1 (s.vals as ++ p.2) Q .mk) .mk := by
  simp only [Xa, Xc, vact, wh, eq_iff_iff]
  constructor
  · rintro ⟨f, cs, h1, h2⟩; exact ⟨(f, cs), fnOf_some.2 h1, h2⟩
  · rintro ⟨⟨f, cs⟩, h1, h2⟩; exact ⟨f, cs, fnOf_some.1 h1, h2⟩
theorem Xa_mkf (f : Nat) (as : List Od) : Xa E s d (.mkf f as) Q l = Q (s.putO d (.fn f (s.vals as))) := propext Iff.rfl
theorem Xa_cvI (k : IntKind) (x : Od) : Xa E s d (.cvI k x) Q l = wh (intOf (s.val x)) (fun j => Q (s.putO d (.lit (.int k (k.wrap j))))) .mk := by
  simp only [Xa, vact, wh, intOf_some, eq_iff_iff]
  constructor
  · rintro ⟨k, j, h1, h2⟩; exact ⟨j, ⟨k, h1⟩, h2⟩
  · rintro ⟨j, ⟨k, h1⟩, h2⟩; exact ⟨k, j, h1, h2⟩
theorem Xa_isn (neg : Bool) (x : Od) : Xa E s d (.isn neg x) Q l = wh (slOf (s.val x)) (fun p => ∀ b, (p.2.2 ≠ [] → b = neg) → Q (s.putO d (.lit (.bool b)))) .mk := by
  simp only [Xa, vact, wh, eq_iff_iff]
  constructor
  · rintro ⟨m, z, xs, h1, h2⟩; exact ⟨(m, z, xs), slOf_some.2 h1, h2⟩
  · rintro ⟨⟨m, z, xs⟩, h1, h2⟩; exact ⟨m, z, xs, slOf_some.1 h1, h2⟩
theorem Xa_cvS (x : Od) : Xa E s d (.cvS x) Q l = wh (strOf (s.val x)) (fun b => Q (s.putO d (.lit (.string b)))) .mk := by
  simp only [Xa, vact, wh, strOf_some]
end
theorem val_t (s : AS) (n : Nat) : s.val (.t n) = (look s.env n).getD .un := rfl
theorem val_c (s : AS) (x : AV) : s.val (.c x) = x := rfl
theorem get_mk (l : List (Nat × AV)) (b : List (Nat × List AV)) (n : Nat) : AS.get ⟨l, b⟩ n = (look l n).getD .un := rfl
theorem put_mk (l : List (Nat × AV)) (b : List (Nat × List AV)) (n : Nat) (v : AV) : AS.put ⟨l, b⟩ n v = ⟨setL n v l, b⟩ := rfl
theorem putO_some (s : AS) (n : Nat) (v : AV) : s.putO (some n) v = s.put n v := rfl
theorem putO_none (s : AS) (v : AV) : s.putO none v = s := rfl
theorem setB_mk (l : List (Nat × AV)) (b : List (Nat × List AV)) (n : Nat) (v : List AV) : AS.setB ⟨l, b⟩ n v = ⟨l, setL n v b⟩ := rfl
/-- The end: nothing more is forgotten. -/
def Fin (rs : List VR) (r : AV) (ks : List Nat) (e : Ex) (s : AS) : Prop := (e = .normal ∨ e = .ret) ∧ ∃ s1, Wk s1 s ∧ ∃ l, resVs s1 rs = some l ∧ r = reC ks (oneOr l)
theorem Fin.ret {rs : List VR} {r : AV} {ks : List Nat} {s : AS} {l : List AV} (h1 : resVs s rs = some l) (h2 : r = reC ks (oneOr l)) : Fin rs r ks .ret s := ⟨.inr rfl, s, .refl s, l, h1, h2⟩
theorem Fin.normal {rs : List VR} {r : AV} {ks : List Nat} {s : AS} {l : List AV} (h1 : resVs s rs = some l) (h2 : r = reC ks (oneOr l)) : Fin rs r ks .normal s := ⟨.inl rfl, s, .refl s, l, h1, h2⟩
theorem Fin_ret {rs : List VR} {r r' : AV} {ks : List Nat} {s : AS} (h : resVs s rs = some [r']) (h2 : r = reC ks r') : Fin rs r ks .ret s := Fin.ret h h2
/-- What is read off a function's code, in one. -/
structure Is (P : Program) (f : Nat) (nt : Nat) (vc : VC) (rs : List VR) : Prop where
  ex : ∃ fn dr, P.funcs[f]? = some fn ∧ fn.body = some (fn.body.getD .skip) ∧ cCode P fn.ntmps chkR dr (fn.body.getD .skip) = some vc ∧ cRes P fn.results.toList = some rs ∧ fn.ntmps = nt
theorem Is.fx {E : Env} {f nt : Nat} {vc : VC} {rs : List VR} (h : Is E.P f nt vc rs) {args : List AV} {r : AV} (ks : List Nat) (hlen : args.length ≤ nt) (hks : dd ks = ks) (hres : resOk r = true) (hv : Xe E vc ⟨enum 0 args, []⟩ (Fin rs r ks) .mk) : Fx E f [] args [] r := by
  obtain ⟨fn, dr, h1, h2, h3, h4, h5⟩ := h.ex
  exact Fx.of0 h1 h2 h3 h4 (by rw [h5]; exact hlen) ks hks hres hv
attribute [simp] gk_same gk_tf gk_ft gk_no fk_same fk_tf fk_ft X_skip X_ret X_exit X_seq X_cond X_block X_reg0 X_reg1 Xs_nil Xs_cons Xo_n Xo_g val_t val_c get_mk put_mk putO_some putO_none setB_mk look setL drops drop1 enum binV binI binS unV lenV tmpOk isUn isNone AS.vals pvals
attribute [simp] Xa_mv Xa_as Xa_pick Xa_bin Xa_un Xa_len Xa_idx Xa_ia Xa_fa Xa_ld Xa_st Xa_box Xa_alloc Xa_bld Xa_bsl Xa_slS Xa_slL Xa_app Xa_mks Xa_ext Xa_call Xa_callv Xa_mkf Xa_cvI Xa_cvS Xa_isn
attribute [simp] noOw wh_some wh_map wh_ite strOf intOf ptrOf slOf tupOf fnOf iaK_sl iaK_bs faK_ep faK_ptr ldK_epA ldK_ep ldK_ptrA ldK_ptr iaK_hs faK_hp ldK_hp hsOf stK_ptr stK_hp isUn apK_nl apK_cl AV.cells
end Go.Proofs.Ytpopccnnjpdmlaa.Vm
