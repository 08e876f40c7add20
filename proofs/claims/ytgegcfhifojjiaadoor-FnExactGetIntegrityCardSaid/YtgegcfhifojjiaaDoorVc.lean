/- The abstract machine over values: VmY VmZ VmEq VmSz VmTo VmBx VmOpen VmOw VmOv VmOt. -/
import Derived.Test.YtgegcfhifojjiaaDoorVb
import Derived.Deep.Slices
import Derived.ChangeSame
import Derived.SizedLaws
import Derived.ChangeSlices
import Derived.OpenShut
import Derived.Carry
/- An abstract machine over values: steps, for simp. -/
namespace Go.Proofs.YtgegcfhifojjiaaDoor.Vm
open Go Go.RowKit
set_option linter.unusedVariables false
set_option linter.unusedSimpArgs false
def by8 (s : String) : ByteArray := s.toUTF8
def dl (l : List (Nat × List Nat)) (i : Nat) : List Nat := (look l i).getD []
/-- keeps simp out of what it speaks of -/
inductive Lk {α : Type} (a : α) : Type
  | mk
/-- a fork, by a value; nothing behind it is looked at before the value is known -/
def fk (v : AV) (w : Bool) (A B : Prop) (_ : Lk (A, B)) : Prop := ∃ b, v = .lit (.bool b) ∧ if b = w then A else B
theorem fk_same {b : Bool} {A B : Prop} (l : Lk (A, B)) : fk (.lit (.bool b)) b A B l = A := by unfold fk; simp
theorem fk_tf {A B : Prop} (l : Lk (A, B)) : fk (.lit (.bool true)) false A B l = B := by unfold fk; simp
theorem fk_ft {A B : Prop} (l : Lk (A, B)) : fk (.lit (.bool false)) true A B l = B := by unfold fk; simp
theorem fk_split {b : Bool} {w : Bool} {A B : Prop} {l : Lk (A, B)} (h1 : b = w → A) (h2 : b ≠ w → B) : fk (.lit (.bool b)) w A B l := by
  refine ⟨b, rfl, ?_⟩
  split
  · exact h1 ‹_›
  · exact h2 ‹_›
/-- a guard -/
def gk (v : AV) (w : Bool) (A B : Prop) (_ : Lk (A, B)) : Prop := ∃ b, gOf v = some b ∧ if b = some w then A else B
theorem gk_same {b : Bool} {A B : Prop} (l : Lk (A, B)) : gk (.lit (.bool b)) b A B l = A := by unfold gk; simp [gOf]
theorem gk_tf {A B : Prop} (l : Lk (A, B)) : gk (.lit (.bool true)) false A B l = B := by unfold gk; simp [gOf]
theorem gk_ft {A B : Prop} (l : Lk (A, B)) : gk (.lit (.bool false)) true A B l = B := by unfold gk; simp [gOf]
theorem gk_no {w : Bool} {A B : Prop} (l : Lk (A, B)) : gk (.tup []) w A B l = B := by unfold gk; simp [gOf]
/-- a value that there must be -/
def wh {α : Type} (o : Option α) (K : α → Prop) (_ : Lk K) : Prop := ∃ v, o = some v ∧ K v
theorem wh_some {α : Type} (v : α) (K : α → Prop) (l : Lk K) : wh (some v) K l = K v := by unfold wh; simp
theorem wh_map {α β : Type} (o : Option α) (f : α → β) (K : β → Prop) (l : Lk K) : wh (o.map f) K l = wh o (fun v => K (f v)) .mk := by unfold wh; cases o <;> simp
theorem wh_ite {α : Type} (c : Prop) [Decidable c] (v : α) (K : α → Prop) (l : Lk K) : wh (if c then some v else none) K l = (c ∧ K v) := by unfold wh; split <;> simp [*]
theorem wh_of {α : Type} {o : Option α} {v : α} {K : α → Prop} {l : Lk K} (h : o = some v) (hk : K v) : wh o K l := ⟨v, h, hk⟩
def strOf : AV → Option ByteArray
  | .lit (.string b) => some b
  | _ => none
def intOf : AV → Option Int
  | .lit (.int _ i) => some i
  | _ => none
def intKOf : AV → Option (IntKind × Int)
  | .lit (.int k i) => some (k, i)
  | _ => none
theorem intKOf_some {v : AV} {p : IntKind × Int} : intKOf v = some p ↔ v = .lit (.int p.1 p.2) := by
  unfold intKOf; split
  · rename_i k j; obtain ⟨k', i⟩ := p; simp
  · rename_i h; simp only [reduceCtorEq, false_iff]; rintro rfl; exact h _ _ rfl
theorem strOf_some {v : AV} {b : ByteArray} : strOf v = some b ↔ v = .lit (.string b) := by
  unfold strOf; split <;> simp_all
theorem intOf_some {v : AV} {i : Int} : intOf v = some i ↔ ∃ k, v = .lit (.int k i) := by
  unfold intOf; split
  · rename_i k j; simp
  · rename_i h; simp only [reduceCtorEq, false_iff]; rintro ⟨k, rfl⟩; exact h k i rfl
def iaK (sz : Nat) (v : AV) (j : Int) (K : AV → Prop) (_ : Lk K) : Prop := match v with
  | .sl m z xs => z = sz ∧ wh xs[j.toNat]? (fun e => K (.ep m.fr e.cells)) .mk
  | .bs n z l => z = sz ∧ j < l ∧ K (.ptr n j.toNat 0)
  | .hs z xs => z = sz ∧ wh xs[j.toNat]? (fun e => K (.hp e.cells)) .mk
  | _ => False
theorem iaK_sl (sz : Nat) (m : Mk) (xs : List AV) (j : Int) (K : AV → Prop) (l : Lk K) : iaK sz (.sl m sz xs) j K l = wh xs[j.toNat]? (fun e => K (.ep m.fr e.cells)) .mk := by simp [iaK]
theorem iaK_hs (sz : Nat) (xs : List AV) (j : Int) (K : AV → Prop) (l : Lk K) : iaK sz (.hs sz xs) j K l = wh xs[j.toNat]? (fun e => K (.hp e.cells)) .mk := by simp [iaK]
theorem iaK_bs (sz n l : Nat) (j : Int) (K : AV → Prop) (q : Lk K) : iaK sz (.bs n sz l) j K q = (j < l ∧ K (.ptr n j.toNat 0)) := by simp [iaK]
def faK (off : Nat) (v : AV) (K : AV → Prop) (_ : Lk K) : Prop := match v with
  | .ep fr cs => off ≤ cs.length ∧ K (.ep fr (cs.drop off))
  | .ptr n i o => K (.ptr n i (o + off))
  | .hp cs => off ≤ cs.length ∧ K (.hp (cs.drop off))
  | _ => False
theorem faK_ep (off : Nat) (fr : Bool) (cs : List AV) (K : AV → Prop) (l : Lk K) : faK off (.ep fr cs) K l = (off ≤ cs.length ∧ K (.ep fr (cs.drop off))) := propext Iff.rfl
theorem faK_hp (off : Nat) (cs : List AV) (K : AV → Prop) (l : Lk K) : faK off (.hp cs) K l = (off ≤ cs.length ∧ K (.hp (cs.drop off))) := propext Iff.rfl
theorem faK_ptr (off n i o : Nat) (K : AV → Prop) (l : Lk K) : faK off (.ptr n i o) K l = K (.ptr n i (o + off)) := propext Iff.rfl
def hsOf : List AV → Option (Nat × List AV)
  | .hs z ys :: _ => some (z, ys)
  | _ => none
theorem hsOf_some {cs : List AV} {z : Nat} {ys : List AV} : hsOf cs = some (z, ys) ↔ cs[0]? = some (.hs z ys) := by
  unfold hsOf
  split
  · simp
  · rename_i h
    simp only [reduceCtorEq, false_iff]
    intro hc
    cases cs with
    | nil => simp at hc
    | cons c cs =>
      obtain rfl : c = .hs z ys := by simpa using hc
      exact h z ys cs rfl
def ldK (ag : Bool) (sz : Nat) (bxs : List (Nat × List AV)) (v : AV) (K : AV → Prop) (_ : Lk K) : Prop := match v with
  | .ep fr cs => if ag then sz ≤ cs.length ∧ K (.agg (mkF.mkL fr (cs.take sz))) else wh cs[0]? (fun c => K (mkF fr c)) .mk
  | .ptr n i o => wh (look bxs n) (fun l => wh l[i]? (fun e => if ag then o + sz ≤ e.cells.length ∧ K (.agg ((e.cells.drop o).take sz)) else wh e.cells[o]? K .mk) .mk) .mk
  | .hp cs => ag = false ∧ wh (hsOf cs) (fun p => K (.hs p.1 p.2)) .mk
  | _ => False
theorem ldK_hp (sz : Nat) (bxs : List (Nat × List AV)) (cs : List AV) (K : AV → Prop) (l : Lk K) : ldK false sz bxs (.hp cs) K l = wh (hsOf cs) (fun p => K (.hs p.1 p.2)) .mk := by simp [ldK]
theorem ldK_epA (sz : Nat) (bxs : List (Nat × List AV)) (fr : Bool) (cs : List AV) (K : AV → Prop) (l : Lk K) : ldK true sz bxs (.ep fr cs) K l = (sz ≤ cs.length ∧ K (.agg (mkF.mkL fr (cs.take sz)))) := propext Iff.rfl
theorem ldK_ep (sz : Nat) (bxs : List (Nat × List AV)) (fr : Bool) (cs : List AV) (K : AV → Prop) (l : Lk K) : ldK false sz bxs (.ep fr cs) K l = wh cs[0]? (fun c => K (mkF fr c)) .mk := propext Iff.rfl
theorem ldK_ptrA (sz : Nat) (bxs : List (Nat × List AV)) (n i o : Nat) (K : AV → Prop) (l : Lk K) : ldK true sz bxs (.ptr n i o) K l = wh (look bxs n) (fun l => wh l[i]? (fun e => o + sz ≤ e.cells.length ∧ K (.agg ((e.cells.drop o).take sz))) .mk) .mk := propext Iff.rfl
theorem ldK_ptr (sz : Nat) (bxs : List (Nat × List AV)) (n i o : Nat) (K : AV → Prop) (l : Lk K) : ldK false sz bxs (.ptr n i o) K l = wh (look bxs n) (fun l => wh l[i]? (fun e => wh e.cells[o]? K .mk) .mk) .mk := propext Iff.rfl
def stK (v : AV) (K : Nat × Nat × Nat → Prop) (H : Unit → Prop) (_ : Lk K) (_ : Lk H) : Prop := match v with
  | .ptr n i o => K (n, i, o)
  | .hp (c :: _) => isUn c = true ∧ H ()
  | _ => False
theorem stK_ptr (n i o : Nat) (K : Nat × Nat × Nat → Prop) (H : Unit → Prop) (l : Lk K) (m : Lk H) : stK (.ptr n i o) K H l m = K (n, i, o) := propext Iff.rfl
theorem stK_hp (c : AV) (cs : List AV) (K : Nat × Nat × Nat → Prop) (H : Unit → Prop) (l : Lk K) (m : Lk H) : stK (.hp (c :: cs)) K H l m = (isUn c = true ∧ H ()) := propext Iff.rfl
def ptrOf : AV → Option (Nat × Nat × Nat)
  | .ptr n i o => some (n, i, o)
  | _ => none
theorem ptrOf_some {v : AV} {n i o : Nat} : ptrOf v = some (n, i, o) ↔ v = .ptr n i o := by
  unfold ptrOf; split <;> simp_all
def slOf : AV → Option (Mk × Nat × List AV)
  | .sl m z xs => some (m, z, xs)
  | _ => none
theorem slOf_some {v : AV} {m : Mk} {z : Nat} {xs : List AV} : slOf v = some (m, z, xs) ↔ v = .sl m z xs := by
  unfold slOf; split <;> simp_all
def tupOf : AV → Option (List AV)
  | .tup cs => some cs
  | _ => none
theorem tupOf_some {v : AV} {cs : List AV} : tupOf v = some cs ↔ v = .tup cs := by
  unfold tupOf; split <;> simp_all
def fnOf : AV → Option (Nat × List AV)
  | .fn f cs => some (f, cs)
  | _ => none
theorem fnOf_some {v : AV} {f : Nat} {cs : List AV} : fnOf v = some (f, cs) ↔ v = .fn f cs := by
  unfold fnOf; split <;> simp_all
/-- append, by the room there is -/
def apK (s : AS) (d : Option Nat) (sz z : Nat) (ap : Ap) (fr : Bool) (l : List AV) (Q : AS → Prop) (_ : Lk Q) : Prop := match ap with
  | .no => False
  | .ow _ => False
  | .nl => ∃ t, d = some t ∧ (s.putO d .un).noC t = true ∧ Q (s.put t (.sl ⟨.cl (64 * t), fr⟩ sz l))
  | .cl c => z = sz ∧ Q ((s.dem c).putO d (.sl ⟨.cl c, fr⟩ sz l))
theorem apK_nl (s : AS) (t sz z : Nat) (fr : Bool) (l : List AV) (Q : AS → Prop) (q : Lk Q) : apK s (some t) sz z .nl fr l Q q = ((s.putO (some t) .un).noC t = true ∧ Q (s.put t (.sl ⟨.cl (64 * t), fr⟩ sz l))) := by simp [apK]
theorem apK_cl (s : AS) (d : Option Nat) (sz c : Nat) (fr : Bool) (l : List AV) (Q : AS → Prop) (q : Lk Q) : apK s d sz sz (.cl c) fr l Q q = Q ((s.dem c).putO d (.sl ⟨.cl c, fr⟩ sz l)) := by simp [apK]
/-! the same, with what comes behind kept shut -/
def Xe (E : Env) (c : VC) (s : AS) (Q : Ex → AS → Prop) (_ : Lk Q) : Prop := vx E c s Q
def Xs (E : Env) (os : List VO) (s : AS) (Q : AS → Prop) (_ : Lk Q) : Prop := vops E os s Q
def Xo (E : Env) (o : VO) (s : AS) (Q : AS → Prop) (_ : Lk Q) : Prop := vop E o s Q
def Xa (E : Env) (s : AS) (d : Option Nat) (k : VK) (Q : AS → Prop) (_ : Lk Q) : Prop := vact E s d Q k
def Xc (E : Env) (q : Bool) (s : AS) (d : Option Nat) (f : Nat) (vs : List AV) (Q : AS → Prop) (_ : Lk Q) : Prop := vcall2 E q s d f vs Q
section
variable {E : Env} {s : AS} {Q : Ex → AS → Prop}
theorem vx_X {c : VC} (h : Xe E c s Q .mk) : vx E c s Q := h
variable (l : Lk Q)
theorem X_skip : Xe E .skip s Q l = Q .normal s := propext Iff.rfl
theorem X_ret : Xe E .ret s Q l = Q .ret s := propext Iff.rfl
theorem X_exit (n : Nat) : Xe E (.exit n) s Q l = Q (.exit n) s := propext Iff.rfl
theorem X_seq (a b : VC) : Xe E (.seq a b) s Q l = Xe E a s (fun e s' => match e with | .normal => Xe E b s' Q .mk | e => Q e s') .mk := propext Iff.rfl
theorem X_cond (c : Od) (a b : VC) : Xe E (.cond c a b) s Q l = fk (s.val c) true (Xe E a s Q .mk) (Xe E b s Q .mk) .mk := propext Iff.rfl
theorem X_block (n : Nat) (c : VC) : Xe E (.block n c) s Q l = Xe E c s (fun e s' => if e = .exit n then Q .normal s' else Q e s') .mk := propext Iff.rfl
theorem X_reg0 (os : List VO) (dr : List Nat) : Xe E (.reg false os dr) s Q l = Xs E os s (fun s' => Q .normal ⟨drops dr s'.env, s'.bxs⟩) .mk := by simp [Xe, Xs, vx]
theorem X_reg1 (os : List VO) (dr : List Nat) : Xe E (.reg true os dr) s Q l = (os.all (tmpOk s) = true ∧ Xs E os s (fun s' => Q .normal ⟨drops dr s'.env, s'.bxs⟩) .mk) := by simp [Xe, Xs, vx]
end
section
variable {E : Env} {s : AS} {Q : AS → Prop} (l : Lk Q) (d : Option Nat)
theorem Xs_nil : Xs E [] s Q l = Q s := propext Iff.rfl
theorem Xs_cons (o : VO) (os : List VO) : Xs E (o :: os) s Q l = Xo E o s (fun s' => Xs E os s' Q .mk) .mk := propext Iff.rfl
theorem Xo_n (k : VK) : Xo E ⟨d, k, none⟩ s Q l = Xa E s d k Q .mk := propext Iff.rfl
theorem Xo_g (k : VK) (t : Nat) (w : Bool) : Xo E ⟨d, k, some (t, w)⟩ s Q l = gk (s.get t) w (Xa E s d k Q .mk) (Q (s.putO d (.tup []))) .mk := propext Iff.rfl
theorem Xa_mv (x : Od) : Xa E s d (.mv x) Q l = Q (s.putO d (s.val x)) := propext Iff.rfl
theorem Xa_as (x : Od) : Xa E s d (.as x) Q l = Q (s.putO d (s.val x)) := propext Iff.rfl
theorem Xa_pick (c a b : Od) : Xa E s d (.pick c a b) Q l = fk (s.val c) true (Q (s.putO d (s.val a))) (Q (s.putO d (s.val b))) .mk := by
  unfold fk
  simp only [Xa, vact]
  congr 1
  funext t
  cases t <;> simp
theorem Xa_bin (op : BinOp) (ty : Nat) (x y : Od) : Xa E s d (.bin op ty x y) Q l = wh (binV op ty (s.val x) (s.val y)) (fun v => Q (s.putO d (.lit v))) .mk := propext Iff.rfl
theorem Xa_un (op : UnOp) (x : Od) : Xa E s d (.un op x) Q l = wh (unV op (s.val x)) (fun v => Q (s.putO d (.lit v))) .mk := propext Iff.rfl
theorem Xa_len (b : Bool) (x : Od) : Xa E s d (.len b x) Q l = wh (lenV b (s.val x)) (fun n => Q (s.putO d (.lit (.int .i64 n)))) .mk := propext Iff.rfl
theorem Xa_idx (x i : Od) : Xa E s d (.idx x i) Q l = wh (strOf (s.val x)) (fun b => wh (intOf (s.val i)) (fun j => 0 ≤ j ∧ j < b.size ∧ Q (s.putO d (.lit (.int .u8 (bt b j.toNat).toNat)))) .mk) .mk := by
  simp only [Xa, vact, wh, strOf_some, intOf_some, eq_iff_iff]
  constructor
  · rintro ⟨b, k, j, h1, h2, h3⟩; exact ⟨b, h1, j, ⟨k, h2⟩, h3⟩
  · rintro ⟨b, h1, j, ⟨k, h2⟩, h3⟩; exact ⟨b, k, j, h1, h2, h3⟩
theorem Xa_ia (sz : Nat) (x i : Od) : Xa E s d (.ia sz x i) Q l = wh (intOf (s.val i)) (fun j => 0 ≤ j ∧ iaK sz (s.val x) j (fun v => Q (s.putO d v)) .mk) .mk := by
  simp only [Xa, vact, wh, intOf_some, iaK, eq_iff_iff]
  constructor
  · rintro ⟨k, j, h1, h2, h3⟩; exact ⟨j, ⟨k, h1⟩, h2, h3⟩
  · rintro ⟨j, ⟨k, h1⟩, h2, h3⟩; exact ⟨k, j, h1, h2, h3⟩
theorem Xa_fa (off : Nat) (x : Od) : Xa E s d (.fa off x) Q l = faK off (s.val x) (fun v => Q (s.putO d v)) .mk := propext Iff.rfl
theorem Xa_ld (ag : Bool) (sz : Nat) (x : Od) : Xa E s d (.ld ag sz x) Q l = ldK ag sz s.bxs (s.val x) (fun v => Q (s.putO d v)) .mk := by
  simp only [Xa, vact, ldK]
  cases s.val x <;> simp only [wh]
  · simp only [eq_iff_iff]
    constructor
    · rintro ⟨l, e, h1, h2, h3⟩; exact ⟨l, h1, e, h2, h3⟩
    · rintro ⟨l, h1, e, h2, h3⟩; exact ⟨l, e, h1, h2, h3⟩
  · simp only [eq_iff_iff]
    constructor
    · rintro ⟨h1, z, ys, h2, h3⟩; exact ⟨h1, (z, ys), hsOf_some.2 h2, h3⟩
    · rintro ⟨h1, ⟨z, ys⟩, h2, h3⟩; exact ⟨h1, z, ys, hsOf_some.1 h2, h3⟩
theorem Xa_st (sz : Nat) (a x : Od) : Xa E s d (.st sz a x) Q l = stK (s.val a) (fun p => wh (look s.bxs p.1) (fun l => wh l[p.2.1]? (fun e => 0 < sz ∧ (s.val x).cells.length = sz ∧ p.2.2 + sz ≤ e.cells.length ∧ (s.val x).cells.all okC = true ∧ Q ((s.setB p.1 (l.set p.2.1 (putElem e p.2.2 (s.val x)))).putO d .un)) .mk) .mk) (fun _ => sz = 1 ∧ (s.val x).cells.length = 1 ∧ (s.val x).cells.all okC = true ∧ Q (s.putO d .un)) .mk .mk := by
  simp only [Xa, vact, wh, eq_iff_iff]
  constructor
  · rintro (⟨n, i, o, h1, l, e, h2, h3, h4⟩ | ⟨c, cs, h1, h2, h3⟩)
    · rw [h1]; exact ⟨l, h2, e, h3, h4⟩
    · rw [h1]; exact ⟨h2, h3⟩
  · intro h
    unfold stK at h
    split at h
    · rename_i n i o h1
      obtain ⟨l, h2, e, h3, h4⟩ := h
      exact .inl ⟨n, i, o, h1, l, e, h2, h3, h4⟩
    · rename_i c cs h1
      exact .inr ⟨c, cs, h1, h.1, h.2⟩
    · exact h.elim
theorem Xa_box (t sz : Nat) (x : Od) : Xa E s (some t) (.box sz x) Q l = ((s.val x).cells.length = sz ∧ 0 < sz ∧ (s.val x).cells.all okC = true ∧ (s.putO (some t) .un).noB (1000 + t) = true ∧ noB (1000 + t) (s.val x) = true ∧ Q ((s.setB (1000 + t) [s.val x]).put t (.ptr (1000 + t) 0 0))) := by simp [Xa, vact]
theorem Xa_alloc (t : Nat) (z : AV) : Xa E s (some t) (.alloc z) Q l = (0 < z.cells.length ∧ z.cells.all okC = true ∧ (s.putO (some t) .un).noB (1000 + t) = true ∧ noB (1000 + t) z = true ∧ Q ((s.setB (1000 + t) [z]).put t (.ptr (1000 + t) 0 0))) := by simp [Xa, vact]
theorem Xa_bld (z : List AV) (ps : List (Nat × Nat × Od)) : Xa E s d (.bld z ps) Q l = ((pvals s ps).all (fun p => p.2.2.cells.all okC) = true ∧ wh (fill z (pvals s ps)) (fun cs => Q (s.putO d (.agg cs))) .mk) := propext Iff.rfl
theorem Xa_bsl (t sz : Nat) (xs : List Od) : Xa E s (some t) (.bsl sz xs) Q l = ((s.putO (some t) .un).noC t = true ∧ (s.vals xs).all (fun x => decide (x.cells.length = sz) && dat x && x.cells.all okC) = true ∧ Q (s.put t (.sl ⟨.cl (64 * t), frA.frL (s.vals xs)⟩ sz (strip.stripL (s.vals xs))))) := by simp [Xa, vact]
theorem Xa_slS (x : Od) (lo hi : Option Od) : Xa E s d (.slS x lo hi) Q l = wh (strOf (s.val x)) (fun b => wh (cutB s b.size lo hi) (fun p => Q (s.putO d (.lit (.string (b.extract p.1 p.2))))) .mk) .mk := by
  simp only [Xa, vact, wh, strOf_some, eq_iff_iff]
  constructor
  · rintro ⟨b, h1, l, h, h2, h3⟩; exact ⟨b, h1, (l, h), h2, h3⟩
  · rintro ⟨b, h1, ⟨l, h⟩, h2, h3⟩; exact ⟨b, h1, l, h, h2, h3⟩
theorem Xa_slL (sz : Nat) (x : Od) (lo hi : Option Od) : Xa E s d (.slL sz x lo hi) Q l = wh (slOf (s.val x)) (fun q => (q.2.1 = sz ∨ q.2.2 = []) ∧ wh (cutB s q.2.2.length lo hi) (fun p => Q (s.putO d (.sl ⟨if isNone hi then noOw q.1.ap else .no, q.1.fr⟩ q.2.1 ((q.2.2.take p.2).drop p.1)))) .mk) .mk := by
  simp only [Xa, vact, wh, eq_iff_iff]
  constructor
  · rintro ⟨m, z, xs, h1, h2, l, h, h3, h4⟩; exact ⟨(m, z, xs), slOf_some.2 h1, h2, (l, h), h3, h4⟩
  · rintro ⟨⟨m, z, xs⟩, h1, h2, ⟨l, h⟩, h3, h4⟩; exact ⟨m, z, xs, slOf_some.1 h1, h2, l, h, h3, h4⟩
theorem Xa_app (sz byt : Nat) (x y : Od) : Xa E s d (.app sz byt x y) Q l = wh (slOf (s.val x)) (fun p => wh (slOf (s.val y)) (fun q => (p.2.1 = sz ∨ p.2.2 = []) ∧ (q.2.1 = sz ∨ q.2.2 = []) ∧ (p.2.2.length + q.2.2.length) * byt ≤ 70368744177664 ∧ apK s d sz p.2.1 p.1.ap (p.1.fr && q.1.fr) (p.2.2 ++ q.2.2) Q .mk) .mk) .mk := by
  simp only [Xa, vact, wh, eq_iff_iff]
  constructor
  · rintro ⟨m, z, xs, h1, m2, z2, ys, h2, h3⟩; exact ⟨(m, z, xs), slOf_some.2 h1, (m2, z2, ys), slOf_some.2 h2, h3⟩
  · rintro ⟨⟨m, z, xs⟩, h1, ⟨m2, z2, ys⟩, h2, h3⟩; exact ⟨m, z, xs, slOf_some.1 h1, m2, z2, ys, slOf_some.1 h2, h3⟩
theorem Xa_mks (t sz byt : Nat) (z : AV) (n : Od) : Xa E s (some t) (.mks sz byt z n) Q l = wh (intOf (s.val n)) (fun j => 0 ≤ j ∧ j * byt ≤ 70368744177664 ∧ j ≤ 9223372036854775807 ∧ z.cells.length = sz ∧ z.cells.all okC = true ∧ (s.putO (some t) .un).noB (1000 + t) = true ∧ noB (1000 + t) z = true ∧ Q ((s.setB (1000 + t) (List.replicate j.toNat z)).put t (.bs (1000 + t) sz j.toNat))) .mk := by
  simp only [Xa, vact, wh, intOf_some, eq_iff_iff]
  constructor
  · rintro ⟨t', k, j, h0, h1, h2⟩
    obtain rfl := Option.some.inj h0
    exact ⟨j, ⟨k, h1⟩, h2⟩
  · rintro ⟨j, ⟨k, h1⟩, h2⟩; exact ⟨t, k, j, rfl, h1, h2⟩
theorem Xa_ext (x : Od) (i : Nat) : Xa E s d (.ext x i) Q l = wh (tupOf (s.val x)) (fun cs => wh cs[i]? (fun c => Q (s.putO d c)) .mk) .mk := by
  simp only [Xa, vact, wh, tupOf_some, eq_iff_iff]
  constructor
  · rintro ⟨cs, c, h1, h2, h3⟩; exact ⟨cs, h1, c, h2, h3⟩
  · rintro ⟨cs, h1, c, h2, h3⟩; exact ⟨cs, c, h1, h2, h3⟩
theorem Xa_call (q : Bool) (f : Nat) (as : List Od) : Xa E s d (.call q f as) Q l = Xc E q s d f (s.vals as) Q .mk := propext Iff.rfl
theorem Xa_callv (q : Bool) (x : Od) (as : List Od) : Xa E s d (.callv q x as) Q l = wh (fnOf (s.val x)) (fun p => fnOk E.P p.1 = true ∧ Xc E q s d p.1 (s.vals as ++ p.2) Q .mk) .mk := by
  simp only [Xa, Xc, vact, wh, eq_iff_iff]
  constructor
  · rintro ⟨f, cs, h1, h2⟩; exact ⟨(f, cs), fnOf_some.2 h1, h2⟩
  · rintro ⟨⟨f, cs⟩, h1, h2⟩; exact ⟨f, cs, fnOf_some.1 h1, h2⟩
theorem Xa_mkf (f : Nat) (as : List Od) : Xa E s d (.mkf f as) Q l = Q (s.putO d (.fn f (s.vals as))) := propext Iff.rfl
theorem Xa_cvI (k : IntKind) (x : Od) : Xa E s d (.cvI k x) Q l = wh (intOf (s.val x)) (fun j => Q (s.putO d (.lit (.int k (k.wrap j))))) .mk := by
  simp only [Xa, vact, wh, intOf_some, eq_iff_iff]
  constructor
  · rintro ⟨k, j, h1, h2⟩; exact ⟨j, ⟨k, h1⟩, h2⟩
  · rintro ⟨j, ⟨k, h1⟩, h2⟩; exact ⟨k, j, h1, h2⟩
theorem Xa_isn (neg : Bool) (x : Od) : Xa E s d (.isn neg x) Q l = wh (slOf (s.val x)) (fun p => ∀ b, (p.2.2 ≠ [] → b = neg) → Q (s.putO d (.lit (.bool b)))) .mk := by
  simp only [Xa, vact, wh, eq_iff_iff]
  constructor
  · rintro ⟨m, z, xs, h1, h2⟩; exact ⟨(m, z, xs), slOf_some.2 h1, h2⟩
  · rintro ⟨⟨m, z, xs⟩, h1, h2⟩; exact ⟨m, z, xs, slOf_some.1 h1, h2⟩
theorem Xa_mn (x y : Od) : Xa E s d (.mn x y) Q l = wh (intKOf (s.val x)) (fun p => wh (intKOf (s.val y)) (fun q => p.1 = q.1 ∧ Q (s.putO d (.lit (.int p.1 (min p.2 q.2))))) .mk) .mk := by
  simp only [Xa, vact, wh, intKOf_some, eq_iff_iff]
  constructor
  · rintro ⟨k, u, v, h1, h2, h3⟩; exact ⟨(k, u), h1, (k, v), h2, rfl, h3⟩
  · rintro ⟨⟨k, u⟩, h1, ⟨k', v⟩, h2, rfl, h3⟩; exact ⟨_, u, v, h1, h2, h3⟩
theorem Xa_bsb (t : Nat) (xs : List Od) : Xa E s (some t) (.bsb xs) Q l = (bsbOk xs = true ∧ (s.putO (some t) .un).noB (1000 + t) = true ∧ Q ((s.setB (1000 + t) (s.vals xs)).put t (.bs (1000 + t) 1 xs.length))) := by simp [Xa, vact]
theorem Xa_cvS (x : Od) : Xa E s d (.cvS x) Q l = wh (strOf (s.val x)) (fun b => Q (s.putO d (.lit (.string b)))) .mk := by
  simp only [Xa, vact, wh, strOf_some]
end
theorem val_t (s : AS) (n : Nat) : s.val (.t n) = (look s.env n).getD .un := rfl
theorem val_c (s : AS) (x : AV) : s.val (.c x) = x := rfl
theorem get_mk (l : List (Nat × AV)) (b : List (Nat × List AV)) (n : Nat) : AS.get ⟨l, b⟩ n = (look l n).getD .un := rfl
theorem put_mk (l : List (Nat × AV)) (b : List (Nat × List AV)) (n : Nat) (v : AV) : AS.put ⟨l, b⟩ n v = ⟨setL n v l, b⟩ := rfl
theorem putO_some (s : AS) (n : Nat) (v : AV) : s.putO (some n) v = s.put n v := rfl
theorem putO_none (s : AS) (v : AV) : s.putO none v = s := rfl
theorem setB_mk (l : List (Nat × AV)) (b : List (Nat × List AV)) (n : Nat) (v : List AV) : AS.setB ⟨l, b⟩ n v = ⟨l, setL n v b⟩ := rfl
/-- The end: nothing more is forgotten. -/
def Fin (rs : List VR) (r : AV) (ks : List Nat) (e : Ex) (s : AS) : Prop := (e = .normal ∨ e = .ret) ∧ ∃ s1, Wk s1 s ∧ ∃ l, resVs s1 rs = some l ∧ r = reC ks (oneOr l)
theorem Fin.ret {rs : List VR} {r : AV} {ks : List Nat} {s : AS} {l : List AV} (h1 : resVs s rs = some l) (h2 : r = reC ks (oneOr l)) : Fin rs r ks .ret s := ⟨.inr rfl, s, .refl s, l, h1, h2⟩
theorem Fin.normal {rs : List VR} {r : AV} {ks : List Nat} {s : AS} {l : List AV} (h1 : resVs s rs = some l) (h2 : r = reC ks (oneOr l)) : Fin rs r ks .normal s := ⟨.inl rfl, s, .refl s, l, h1, h2⟩
theorem Fin_ret {rs : List VR} {r r' : AV} {ks : List Nat} {s : AS} (h : resVs s rs = some [r']) (h2 : r = reC ks r') : Fin rs r ks .ret s := Fin.ret h h2
/-- What is read off a function's code, in one. -/
structure Is (P : Program) (f : Nat) (nt : Nat) (vc : VC) (rs : List VR) : Prop where
  ex : ∃ fn dr, P.funcs[f]? = some fn ∧ fn.body = some (fn.body.getD .skip) ∧ cCode P fn.ntmps chkR dr (fn.body.getD .skip) = some vc ∧ cRes P fn.results.toList = some rs ∧ fn.ntmps = nt
theorem Is.fx {E : Env} {f nt : Nat} {vc : VC} {rs : List VR} (h : Is E.P f nt vc rs) {args : List AV} {r : AV} (ks : List Nat) (hlen : args.length ≤ nt) (hks : dd ks = ks) (hres : resOk r = true) (hv : Xe E vc ⟨enum 0 args, []⟩ (Fin rs r ks) .mk) : Fx E f [] args [] r := by
  obtain ⟨fn, dr, h1, h2, h3, h4, h5⟩ := h.ex
  exact Fx.of0 h1 h2 h3 h4 (by rw [h5]; exact hlen) ks hks hres hv
attribute [simp] gk_same gk_tf gk_ft gk_no fk_same fk_tf fk_ft X_skip X_ret X_exit X_seq X_cond X_block X_reg0 X_reg1 Xs_nil Xs_cons Xo_n Xo_g val_t val_c get_mk put_mk putO_some putO_none setB_mk look setL drops drop1 enum binV binI binS unV lenV tmpOk isUn isNone AS.vals pvals
attribute [simp] Xa_mv Xa_as Xa_pick Xa_bin Xa_un Xa_len Xa_idx Xa_ia Xa_fa Xa_ld Xa_st Xa_box Xa_alloc Xa_bld Xa_bsl Xa_slS Xa_slL Xa_app Xa_mks Xa_ext Xa_call Xa_callv Xa_mkf Xa_cvI Xa_cvS Xa_isn Xa_mn Xa_bsb bsbOk intKOf
attribute [simp] noOw wh_some wh_map wh_ite strOf intOf ptrOf slOf tupOf fnOf iaK_sl iaK_bs faK_ep faK_ptr ldK_epA ldK_ep ldK_ptrA ldK_ptr iaK_hs faK_hp ldK_hp hsOf stK_ptr stK_hp isUn apK_nl apK_cl AV.cells
end Go.Proofs.YtgegcfhifojjiaaDoor.Vm
/- An abstract machine over values: plain data, calls. -/
namespace Go.Proofs.YtgegcfhifojjiaaDoor.Vm
open Go Go.RowKit
set_option linter.unusedVariables false
set_option linter.unusedSimpArgs false
/-- data without marks -/
def Pl (a : AV) : Prop := mkF false a = a
def PlL (l : List AV) : Prop := mkF.mkL false l = l
theorem PlL_nil : PlL [] := rfl
theorem PlL_cons {a : AV} {l : List AV} : PlL (a :: l) ↔ Pl a ∧ PlL l := by simp [PlL, Pl, mkF.mkL]
theorem Pl_agg {l : List AV} : Pl (.agg l) ↔ PlL l := by simp [PlL, Pl, mkF]
theorem Pl_lit (v : Value) : Pl (.lit v) := rfl
theorem Pl_sl (sz : Nat) (xs : List AV) : Pl (.sl ro sz xs) := rfl
theorem PlL_iff {l : List AV} : PlL l ↔ ∀ a ∈ l, Pl a := by
  induction l with
  | nil => simp [PlL_nil]
  | cons a l ih => simp [PlL_cons, ih]
theorem Pl.cells {a : AV} (h : Pl a) : PlL a.cells := by
  cases a with
  | agg cs => exact Pl_agg.1 h
  | _ => exact PlL_cons.2 ⟨h, PlL_nil⟩
/-- induction over plain data -/
theorem Pl.ind {p : AV → Prop} (hun : p .un) (hlit : ∀ v, p (.lit v)) (hsl : ∀ sz xs, p (.sl ro sz xs)) (hagg : ∀ l, (∀ a ∈ l, p a) → p (.agg l)) : ∀ a, Pl a → p a := by
  intro a
  refine AV.rec (motive_1 := fun a => Pl a → p a) (motive_2 := fun l => PlL l → ∀ a ∈ l, p a) ?_ ?_ ?_ ?_ ?_ ?_ ?_ ?_ ?_ ?_ ?_ ?_ ?_ a
  · exact fun _ => hun
  · exact fun v _ => hlit v
  · intro m sz xs _ h
    have : m = ro := by
      simp only [Pl, mkF, AV.sl.injEq, and_true] at h
      exact h.symm
    rw [this]; exact hsl sz xs
  · exact fun cs ih h => hagg cs (ih (Pl_agg.1 h))
  · intro cs _ h; simp [Pl, mkF] at h
  · intro n i o h; simp [Pl, mkF] at h
  · intro fr cs _ h; simp [Pl, mkF] at h
  · intro f cs _ h; simp [Pl, mkF] at h
  · intro n sz l h; simp [Pl, mkF] at h
  · intro sz cs _ h; simp [Pl, mkF] at h
  · intro cs _ h; simp [Pl, mkF] at h
  · intro _ a h; simp at h
  · intro b l h1 h2 h a ha
    obtain ⟨p1, p2⟩ := PlL_cons.1 h
    rcases List.mem_cons.1 ha with rfl | ha
    · exact h1 p1
    · exact h2 p2 a ha
theorem stripL_map : ∀ (l : List AV), strip.stripL l = l.map strip
  | [] => rfl
  | a :: l => by simp [strip.stripL, stripL_map l]
theorem datL_iff {l : List AV} : dat.datL l = true ↔ ∀ a ∈ l, dat a = true := by
  induction l with
  | nil => simp [dat.datL]
  | cons a l ih => simp [dat.datL, ih]
theorem argL_iff {l : List AV} : argOk.argL l = true ↔ ∀ a ∈ l, argOk a = true := by
  induction l with
  | nil => simp [argOk.argL]
  | cons a l ih => simp [argOk.argL, ih]
theorem noCL_iff {d : Nat} {l : List AV} : noC.noL d l = true ↔ ∀ a ∈ l, noC d a = true := by
  induction l with
  | nil => simp [noC.noL]
  | cons a l ih => simp [noC.noL, ih]
theorem noBL_iff {d : Nat} {l : List AV} : noB.noL d l = true ↔ ∀ a ∈ l, noB d a = true := by
  induction l with
  | nil => simp [noB.noL]
  | cons a l ih => simp [noB.noL, ih]
theorem ptrsL_nil {l : List AV} : ptrs.ptrsL l = [] ↔ ∀ a ∈ l, ptrs a = [] := by
  induction l with
  | nil => simp [ptrs.ptrsL]
  | cons a l ih => simp [ptrs.ptrsL, ih]
theorem Pl.strip {a : AV} (h : Pl a) : Vm.strip a = a := Pl.ind (p := fun a => Vm.strip a = a) rfl (fun _ => rfl) (fun _ _ => rfl) (fun l ih => by
  simp only [Vm.strip, stripL_map, AV.agg.injEq]
  exact (List.map_congr_left ih).trans (List.map_id l)) a h
theorem Pl.dat {a : AV} (h : Pl a) : Vm.dat a = true := Pl.ind (p := fun a => Vm.dat a = true) rfl (fun _ => rfl) (fun _ _ => rfl) (fun l ih => by simp only [Vm.dat]; exact datL_iff.2 ih) a h
theorem Pl.argOk {a : AV} (h : Pl a) : Vm.argOk a = true := dat_argOk a h.dat
theorem Pl.noC {a : AV} (h : Pl a) (d : Nat) : Vm.noC d a = true := Pl.ind (p := fun a => Vm.noC d a = true) rfl (fun _ => rfl) (fun _ _ => rfl) (fun l ih => by simp only [Vm.noC]; exact noCL_iff.2 ih) a h
theorem Pl.noB {a : AV} (h : Pl a) (d : Nat) : Vm.noB d a = true := Pl.ind (p := fun a => Vm.noB d a = true) rfl (fun _ => rfl) (fun _ _ => rfl) (fun l ih => by simp only [Vm.noB]; exact noBL_iff.2 ih) a h
theorem Pl.ptrs {a : AV} (h : Pl a) : Vm.ptrs a = [] := Pl.ind (p := fun a => Vm.ptrs a = []) rfl (fun _ => rfl) (fun _ _ => rfl) (fun l ih => by simp only [Vm.ptrs]; exact ptrsL_nil.2 ih) a h
theorem PlL.strip {l : List AV} (h : PlL l) : strip.stripL l = l := by
  rw [stripL_map]
  exact (List.map_congr_left fun a ha => (PlL_iff.1 h a ha).strip).trans (List.map_id l)
/-- what a load out of a row gives, unmarked again -/
theorem strip_mkF (b : Bool) : ∀ (a : AV), Vm.strip (mkF b a) = mkF false a := by
  intro a
  refine AV.rec (motive_1 := fun a => Vm.strip (mkF b a) = mkF false a) (motive_2 := fun l => strip.stripL (mkF.mkL b l) = mkF.mkL false l) ?_ ?_ ?_ ?_ ?_ ?_ ?_ ?_ ?_ ?_ ?_ ?_ ?_ a
  all_goals (intros; try rfl)
  · rename_i cs ih; simp only [mkF, Vm.strip, ih]
  · rename_i a l h1 h2; simp only [mkF.mkL, strip.stripL, h1, h2]
theorem noC_mkF (d : Nat) (b : Bool) (a : AV) : Vm.noC d (mkF b a) = true := by rw [ok1_noC]; exact ok1_mkF b a
theorem noB_mkF (d : Nat) (b : Bool) (a : AV) : Vm.noB d (mkF b a) = true := by rw [ok1_noB]; exact ok1_mkF b a
theorem ren_nil : ∀ (a : AV), Vm.ptrs a = [] → ren [] a = a := by
  intro a
  refine AV.rec (motive_1 := fun a => Vm.ptrs a = [] → ren [] a = a) (motive_2 := fun l => ptrs.ptrsL l = [] → ren.renL [] l = l) ?_ ?_ ?_ ?_ ?_ ?_ ?_ ?_ ?_ ?_ ?_ ?_ ?_ a
  all_goals (intros; try rfl)
  · rename_i cs ih h; simp only [ren, ih (by simpa only [Vm.ptrs] using h)]
  · rename_i n i o h; simp [Vm.ptrs] at h
  · rename_i f cs ih h; simp only [ren, ih (by simpa only [Vm.ptrs] using h)]
  · rename_i n sz l h; simp [Vm.ptrs] at h
  · rename_i a l h1 h2 h
    simp only [ptrs.ptrsL, List.append_eq_nil_iff] at h
    simp only [ren.renL, h1 h.1, h2 h.2]
theorem renL_nil {l : List AV} (h : ptrs.ptrsL l = []) : ren.renL [] l = l := by
  induction l with
  | nil => rfl
  | cons a l ih =>
    simp only [ptrs.ptrsL, List.append_eq_nil_iff] at h
    simp only [ren.renL, ren_nil a h.1, ih h.2]
theorem strip_ptrs : ∀ (a : AV), Vm.ptrs (Vm.strip a) = Vm.ptrs a := by
  intro a
  refine AV.rec (motive_1 := fun a => Vm.ptrs (Vm.strip a) = Vm.ptrs a) (motive_2 := fun l => ptrs.ptrsL (strip.stripL l) = ptrs.ptrsL l) ?_ ?_ ?_ ?_ ?_ ?_ ?_ ?_ ?_ ?_ ?_ ?_ ?_ a
  all_goals (intros; try rfl)
  · rename_i cs ih; simp only [Vm.strip, Vm.ptrs, ih]
  · rename_i f cs ih; simp only [Vm.strip, Vm.ptrs, ih]
  · rename_i a l h1 h2; simp only [strip.stripL, ptrs.ptrsL, h1, h2]
theorem strip_ptrsL (l : List AV) : ptrs.ptrsL (strip.stripL l) = ptrs.ptrsL l := by
  induction l with
  | nil => rfl
  | cons a l ih => simp only [strip.stripL, ptrs.ptrsL, strip_ptrs, ih]
/-- a loop, kept shut -/
theorem X_loop {E : Env} {c : VC} {Q : Ex → AS → Prop} {l : Lk Q} {τ : Type} (st : τ → AS) (I : τ → Prop) (m : τ → Nat) {s : AS} (i : τ) (hi : I i) (hw : Wk (st i) s) (step : ∀ i, I i → Xe E c (st i) (fun e s' => match e with | .normal => ∃ j, I j ∧ m j < m i ∧ Wk (st j) s' | e => Q e s') .mk) : Xe E (.loop c) s Q l := vx_loop st I m step i hi hw
/-- A call with data alone. -/
theorem vcall_go {E : Env} {q : Bool} {s : AS} {t f : Nat} {vs ws : List AV} {Q : AS → Prop} {r : AV} (hF : Fx E f [] ws [] r) (hw : strip.stripL vs = ws) (h1 : argOk.argL vs = true) (h2 : ptrs.ptrsL vs = []) (h3 : (s.putO (some t) .un).noC t = true) {l : Lk Q} (h4 : Q (s.put t (relab t (frA.frL vs) r))) : Xc E q s (some t) f vs Q l := by
  refine .inl ⟨h1, fun _ => by rw [h2]; rfl, t, rfl, h3, [], by rw [h2]; rfl, rfl, [], r, ?_, rfl, by rw [h2]; exact h4⟩
  rw [h2]
  show Fx E f [] (ren.renL [] (strip.stripL vs)) [] r
  rw [renL_nil (by rw [strip_ptrsL, h2]), hw]
  exact hF
theorem dat_mkF (b : Bool) : ∀ (a : AV), Vm.dat (mkF b a) = true := by
  intro a
  refine AV.rec (motive_1 := fun a => Vm.dat (mkF b a) = true) (motive_2 := fun l => dat.datL (mkF.mkL b l) = true) ?_ ?_ ?_ ?_ ?_ ?_ ?_ ?_ ?_ ?_ ?_ ?_ ?_ a
  all_goals (intros; try rfl)
  · rename_i cs ih; simp only [mkF, Vm.dat, ih]
  · rename_i a l h1 h2; simp only [mkF.mkL, dat.datL, h1, h2, Bool.and_self]
theorem mkL_map (b : Bool) : ∀ (l : List AV), mkF.mkL b l = l.map (mkF b)
  | [] => rfl
  | a :: l => by simp [mkF.mkL, mkL_map b l]
theorem datL_mkL (b : Bool) (l : List AV) : dat.datL (mkF.mkL b l) = true := by rw [mkL_map, datL_iff]; intro a ha; obtain ⟨c, _, rfl⟩ := List.mem_map.1 ha; exact dat_mkF b c
theorem noL_mkL (d : Nat) (b : Bool) (l : List AV) : noC.noL d (mkF.mkL b l) = true := by rw [mkL_map, noCL_iff]; intro a ha; obtain ⟨c, _, rfl⟩ := List.mem_map.1 ha; exact noC_mkF d b c
theorem noLB_mkL (d : Nat) (b : Bool) (l : List AV) : noB.noL d (mkF.mkL b l) = true := by rw [mkL_map, noBL_iff]; intro a ha; obtain ⟨c, _, rfl⟩ := List.mem_map.1 ha; exact noB_mkF d b c
theorem ptrs_dat : ∀ (a : AV), Vm.dat a = true → Vm.ptrs a = [] := by
  intro a
  refine AV.rec (motive_1 := fun a => Vm.dat a = true → Vm.ptrs a = []) (motive_2 := fun l => dat.datL l = true → ptrs.ptrsL l = []) ?_ ?_ ?_ ?_ ?_ ?_ ?_ ?_ ?_ ?_ ?_ ?_ ?_ a
  all_goals (intros; try rfl)
  · rename_i cs ih h; simp only [Vm.ptrs]; exact ih (by simpa only [Vm.dat] using h)
  · rename_i h; cases h
  · rename_i h; cases h
  · rename_i h; cases h
  · rename_i a l h1 h2 h
    simp only [dat.datL, Bool.and_eq_true] at h
    simp only [ptrs.ptrsL, h1 h.1, h2 h.2, List.append_nil]
theorem ptrs_mkF (b : Bool) (a : AV) : Vm.ptrs (mkF b a) = [] := ptrs_dat _ (dat_mkF b a)
theorem ptrsL_mkL (b : Bool) (l : List AV) : ptrs.ptrsL (mkF.mkL b l) = [] := by rw [ptrsL_nil]; intro a ha; rw [mkL_map] at ha; obtain ⟨c, _, rfl⟩ := List.mem_map.1 ha; exact ptrs_mkF b c
theorem stripL_mkL (b : Bool) (l : List AV) : strip.stripL (mkF.mkL b l) = mkF.mkL false l := by rw [stripL_map, mkL_map, mkL_map, List.map_map]; exact List.map_congr_left fun a _ => strip_mkF b a
theorem PlL.mkL {l : List AV} (h : PlL l) : mkF.mkL false l = l := h
theorem argOk_mkF (b : Bool) (a : AV) : Vm.argOk (mkF b a) = true := dat_argOk _ (dat_mkF b a)
theorem noC_slno (d : Nat) (fr : Bool) (sz : Nat) (xs : List AV) : noC d (.sl ⟨.no, fr⟩ sz xs) = true := rfl
theorem noC_slnl (d : Nat) (fr : Bool) (sz : Nat) (xs : List AV) : noC d (.sl ⟨.nl, fr⟩ sz xs) = true := rfl
theorem noC_slcl (d c : Nat) (fr : Bool) (sz : Nat) (xs : List AV) : noC d (.sl ⟨.cl c, fr⟩ sz xs) = (c / 64 != d) := rfl
theorem noC_slro (d : Nat) (sz : Nat) (xs : List AV) : noC d (.sl ro sz xs) = true := rfl
theorem noC_un (d : Nat) : noC d .un = true := rfl
theorem noC_lit (d : Nat) (v : Value) : noC d (.lit v) = true := rfl
theorem noC_ptr (d n i o : Nat) : noC d (.ptr n i o) = true := rfl
theorem noC_bs (d n i o : Nat) : noC d (.bs n i o) = true := rfl
theorem noC_ep (d : Nat) (fr : Bool) (cs : List AV) : noC d (.ep fr cs) = true := rfl
theorem noC_agg (d : Nat) (cs : List AV) : noC d (.agg cs) = noC.noL d cs := by rw [noC]
theorem noC_tup (d : Nat) (cs : List AV) : noC d (.tup cs) = noC.noL d cs := by rw [noC]
theorem noC_fn (d f : Nat) (cs : List AV) : noC d (.fn f cs) = noC.noL d cs := by rw [noC]
theorem noB_sl (d : Nat) (m : Mk) (sz : Nat) (xs : List AV) : noB d (.sl m sz xs) = true := rfl
theorem noB_un (d : Nat) : noB d .un = true := rfl
theorem noB_lit (d : Nat) (v : Value) : noB d (.lit v) = true := rfl
theorem noB_ptr (d n i o : Nat) : noB d (.ptr n i o) = (n != d) := rfl
theorem noB_bs (d n i o : Nat) : noB d (.bs n i o) = (n != d) := rfl
theorem noB_ep (d : Nat) (fr : Bool) (cs : List AV) : noB d (.ep fr cs) = true := rfl
theorem noB_agg (d : Nat) (cs : List AV) : noB d (.agg cs) = noB.noL d cs := by rw [noB]
theorem noB_tup (d : Nat) (cs : List AV) : noB d (.tup cs) = noB.noL d cs := by rw [noB]
theorem noB_fn (d f : Nat) (cs : List AV) : noB d (.fn f cs) = noB.noL d cs := by rw [noB]
theorem strip_sl (m : Mk) (sz : Nat) (xs : List AV) : Vm.strip (.sl m sz xs) = .sl ro sz xs := rfl
theorem strip_agg (cs : List AV) : Vm.strip (.agg cs) = .agg (strip.stripL cs) := by rw [Vm.strip]
theorem strip_lit (v : Value) : Vm.strip (.lit v) = .lit v := rfl
theorem argOk_sl (m : Mk) (sz : Nat) (xs : List AV) : Vm.argOk (.sl m sz xs) = true := rfl
theorem argOk_lit (v : Value) : Vm.argOk (.lit v) = true := rfl
theorem argOk_agg (cs : List AV) : Vm.argOk (.agg cs) = (dat.datL cs || argOk.argL cs) := by simp [Vm.argOk]
theorem ptrs_agg (cs : List AV) : Vm.ptrs (.agg cs) = ptrs.ptrsL cs := by rw [Vm.ptrs]
theorem dat_agg (cs : List AV) : Vm.dat (.agg cs) = dat.datL cs := by rw [Vm.dat]
theorem dat_lit (v : Value) : Vm.dat (.lit v) = true := rfl
theorem dat_sl (m : Mk) (sz : Nat) (xs : List AV) : Vm.dat (.sl m sz xs) = true := rfl
theorem ptrs_lit (v : Value) : Vm.ptrs (.lit v) = [] := rfl
theorem ptrs_sl (m : Mk) (sz : Nat) (xs : List AV) : Vm.ptrs (.sl m sz xs) = [] := rfl
theorem relab_lit (d : Nat) (b : Bool) (v : Value) : relab d b (.lit v) = .lit v := rfl
theorem relab_un (d : Nat) (b : Bool) : relab d b .un = .un := rfl
theorem relab_agg (d : Nat) (b : Bool) (cs : List AV) : relab d b (.agg cs) = .agg (relab.relabL d b cs) := by rw [relab]
theorem relab_tup (d : Nat) (b : Bool) (cs : List AV) : relab d b (.tup cs) = .tup (relab.relabL d b cs) := by rw [relab]
theorem relab_slcl (d c : Nat) (b fr : Bool) (sz : Nat) (xs : List AV) : relab d b (.sl ⟨.cl c, fr⟩ sz xs) = .sl ⟨.cl (64 * d + c), fr || b⟩ sz xs := rfl
theorem relab_slno (d : Nat) (b fr : Bool) (sz : Nat) (xs : List AV) : relab d b (.sl ⟨.no, fr⟩ sz xs) = .sl ⟨.no, fr || b⟩ sz xs := rfl
theorem relab_slnl (d : Nat) (b fr : Bool) (sz : Nat) (xs : List AV) : relab d b (.sl ⟨.nl, fr⟩ sz xs) = .sl ⟨.nl, fr || b⟩ sz xs := rfl
theorem wrap_i64 {i : Int} (h0 : -9223372036854775808 ≤ i) (h1 : i ≤ 9223372036854775807) : IntKind.i64.wrap i = i := by
  unfold IntKind.wrap
  have h : IntKind.i64.signed = true := rfl
  simp [IntKind.bits, h]
  split <;> omega
attribute [simp] Pl_lit Pl_sl PlL_nil PlL_cons Pl_agg Pl.strip Pl.dat Pl.argOk Pl.noC Pl.noB Pl.ptrs noC_mkF noB_mkF strip_mkF dat_mkF datL_mkL noL_mkL noLB_mkL ptrs_mkF ptrsL_mkL stripL_mkL PlL.mkL argOk_mkF AS.noC AS.noB allV noC.noL noB.noL ptrs.ptrsL dat.datL argOk.argL strip.stripL relab.relabL
attribute [simp] noC_slno noC_slnl noC_slcl noC_slro noC_un noC_lit noC_ptr noC_bs noC_ep noC_agg noC_tup noC_fn noB_sl noB_un noB_lit noB_ptr noB_bs noB_ep noB_agg noB_tup noB_fn strip_sl strip_agg strip_lit argOk_sl argOk_lit argOk_agg ptrs_agg dat_agg dat_lit dat_sl ptrs_lit ptrs_sl relab_lit relab_un relab_agg relab_tup relab_slcl relab_slno relab_slnl
end Go.Proofs.YtgegcfhifojjiaaDoor.Vm
/- The laws' helpers over slices: eq. -/
namespace Go.Proofs.YtgegcfhifojjiaaDoor.Vm
open Go Go.RowKit
set_option linter.unusedVariables false
set_option linter.unusedSimpArgs false
def eqS (sz f : Nat) : VC :=
  .seq
    (.reg false [⟨some 4, .as (.c (.lit (.bool false))), none⟩] [4])
    (.seq
      (.seq
        (.reg false [⟨some 6, .mv (.t 0), none⟩,
          ⟨some 7, .len false (.t 6), none⟩,
          ⟨some 8, .mv (.t 1), none⟩,
          ⟨some 9, .len false (.t 8), none⟩,
          ⟨some 10, .bin .neq 0 (.t 7) (.t 9), none⟩] [6, 7, 8, 9])
        (.cond (.t 10)
          (.seq
            (.reg false [⟨some 4, .as (.c (.lit (.bool false))), none⟩] [])
            (.ret))
          (.skip)))
      (.seq
        (.seq
          (.reg false [⟨some 5, .as (.c (.lit (.int .i64 0))), none⟩] [])
          (.block 0
            (.loop
              (.seq
                (.seq
                  (.reg false [⟨some 11, .mv (.t 5), none⟩,
                    ⟨some 12, .mv (.t 0), none⟩,
                    ⟨some 13, .len false (.t 12), none⟩,
                    ⟨some 14, .bin .lss 0 (.t 11) (.t 13), none⟩] [11, 12, 13])
                  (.cond (.t 14)
                    (.skip)
                    (.exit 0)))
                (.seq
                  (.block 1
                    (.seq
                      (.reg true [⟨some 17, .mv (.t 0), none⟩,
                        ⟨some 18, .mv (.t 5), none⟩,
                        ⟨some 19, .ia sz (.t 17) (.t 18), none⟩,
                        ⟨some 20, .ld true sz (.t 19), none⟩,
                        ⟨some 21, .mv (.t 1), none⟩,
                        ⟨some 22, .mv (.t 5), none⟩,
                        ⟨some 23, .ia sz (.t 21) (.t 22), none⟩,
                        ⟨some 24, .ld true sz (.t 23), none⟩,
                        ⟨some 25, .call true f [(.t 20), (.t 24)], none⟩,
                        ⟨some 26, .un .not (.t 25), none⟩] [17, 18, 19, 20, 21, 22, 23, 24, 25])
                      (.cond (.t 26)
                        (.seq
                          (.reg false [⟨some 4, .as (.c (.lit (.bool false))), none⟩] [])
                          (.ret))
                        (.skip))))
                  (.reg false [⟨some 15, .mv (.t 5), none⟩,
                    ⟨some 16, .bin .add 0 (.t 15) (.c (.lit (.int .i64 1))), none⟩,
                    ⟨some 5, .as (.t 16), none⟩] [15, 16]))))))
        (.seq
          (.reg false [⟨some 4, .as (.c (.lit (.bool true))), none⟩] [])
          (.ret))))
def all2 {α β : Type} (p : α → β → Bool) : List α → List β → Bool
  | [], [] => true
  | a :: l, b :: m => p a b && all2 p l m
  | _, _ => false
theorem all2_false {α β : Type} {p : α → β → Bool} : ∀ {l : List α} {m : List β} {i : Nat} {a : α} {b : β}, l[i]? = some a → m[i]? = some b → p a b = false → all2 p l m = false
  | [], _, _, _, _, h, _, _ => by simp at h
  | _ :: _, [], _, _, _, _, h, _ => by simp at h
  | a :: l, b :: m, 0, _, _, h1, h2, h => by
    simp at h1 h2
    subst h1 h2
    simp [all2, h]
  | a :: l, b :: m, i + 1, _, _, h1, h2, h => by
    simp [all2, all2_false (l := l) (m := m) (i := i) (by simpa using h1) (by simpa using h2) h]
theorem all2_true {α β : Type} {p : α → β → Bool} : ∀ {l : List α} {m : List β}, l.length = m.length → (∀ (i : Nat) (a : α) (b : β), l[i]? = some a → m[i]? = some b → p a b = true) → all2 p l m = true
  | [], [], _, _ => rfl
  | [], _ :: _, h, _ => by simp at h
  | _ :: _, [], h, _ => by simp at h
  | a :: l, b :: m, hl, h => by
    simp only [all2, h 0 a b rfl rfl, Bool.true_and]
    exact all2_true (by simpa using hl) fun i a b h1 h2 => h (i + 1) a b (by simpa using h1) (by simpa using h2)
theorem all2_len {α β : Type} {p : α → β → Bool} : ∀ {l : List α} {m : List β}, l.length ≠ m.length → all2 p l m = false
  | [], [], h => by simp at h
  | [], _ :: _, _ => rfl
  | _ :: _, [], _ => rfl
  | a :: l, b :: m, h => by simp [all2, all2_len (l := l) (m := m) (by simpa using h)]
variable {E : Env}
theorem eqS_fx {n nt sz f : Nat} (h : Is E.P n nt (eqS sz f) [.t 4]) (hnt : 2 ≤ nt) {α β : Type} {a : α → List AV} {b : β → List AV} {p : α → β → Bool} (ha : ∀ x, PlL (a x)) (hb : ∀ x, PlL (b x)) (hla : ∀ x, (a x).length = sz) (hlb : ∀ x, (b x).length = sz)
    (xs : List α) (hf : ∀ x y, x ∈ xs → Fx E f [] [.agg (a x), .agg (b y)] [] (.lit (.bool (p x y)))) (ys : List β) (hxs : xs.length ≤ 9223372036854775807) : Fx E n [] [.sl ro sz (xs.map fun x => .agg (a x)), .sl ro sz (ys.map fun y => .agg (b y))] [] (.lit (.bool (all2 p xs ys))) := by
  refine h.fx [] (by simpa using hnt) rfl rfl ?_
  simp [eqS]
  by_cases hl : (xs.length : Int) = ys.length
  · simp [hl]
    have hl' : xs.length = ys.length := by omega
    refine X_loop (τ := Nat) (fun i => ⟨[(0, .sl ro sz (xs.map fun x => .agg (a x))), (1, .sl ro sz (ys.map fun y => .agg (b y))), (5, .lit (.int .i64 i))], []⟩) (fun i => i ≤ xs.length ∧ ∀ (k : Nat) x y, k < i → xs[k]? = some x → ys[k]? = some y → p x y = true) (fun i => xs.length - i) 0 (by simp) (Wk.both (by simp [wkL, wkV.same]) trivial) ?_
    rintro i ⟨hi, hall⟩
    simp
    by_cases hlt : i < xs.length
    · have hlt2 : i < ys.length := by omega
      simp [hlt, hlt2, hla, hlb]
      refine vcall_go (hf xs[i] ys[i] (List.getElem_mem hlt)) (by simp [hla, hlb, List.take_of_length_le, ha, hb]) (by simp) (by simp) (by simp) ?_
      cases hp : p xs[i] ys[i]
      · simp
        exact Fin_ret rfl (by rw [all2_false (List.getElem?_eq_getElem hlt) (List.getElem?_eq_getElem hlt2) hp]; rfl)
      · simp
        refine ⟨i + 1, ⟨by omega, fun k x y hk hx hy => ?_⟩, by omega, Wk.both (by simp [wkL, wkV.same]; rw [wrap_i64 (by omega) (by omega)]; exact wkV.same _) trivial⟩
        rcases Nat.lt_succ_iff_lt_or_eq.1 hk with hk | rfl
        · exact hall k x y hk hx hy
        · rw [List.getElem?_eq_getElem hlt] at hx
          rw [List.getElem?_eq_getElem hlt2] at hy
          rw [← Option.some.inj hx, ← Option.some.inj hy]
          exact hp
    · simp [hlt]
      exact Fin_ret rfl (by rw [all2_true hl' fun k x y hx hy => hall k x y (by have := (List.getElem?_eq_some_iff.1 hx).1; omega) hx hy]; rfl)
  · simp [hl]
    have hl' : xs.length ≠ ys.length := by omega
    exact Fin_ret rfl (by simp [reC, all2_len hl'])
def eqStr : VC :=
  .seq
    (.reg false [⟨some 4, .as (.c (.lit (.bool false))), none⟩] [4])
    (.seq
      (.seq
        (.reg false [⟨some 6, .mv (.t 0), none⟩,
          ⟨some 7, .len false (.t 6), none⟩,
          ⟨some 8, .mv (.t 1), none⟩,
          ⟨some 9, .len false (.t 8), none⟩,
          ⟨some 10, .bin .neq 0 (.t 7) (.t 9), none⟩] [6, 7, 8, 9])
        (.cond (.t 10)
          (.seq
            (.reg false [⟨some 4, .as (.c (.lit (.bool false))), none⟩] [])
            (.ret))
          (.skip)))
      (.seq
        (.seq
          (.reg false [⟨some 5, .as (.c (.lit (.int .i64 0))), none⟩] [])
          (.block 0
            (.loop
              (.seq
                (.seq
                  (.reg false [⟨some 11, .mv (.t 5), none⟩,
                    ⟨some 12, .mv (.t 0), none⟩,
                    ⟨some 13, .len false (.t 12), none⟩,
                    ⟨some 14, .bin .lss 0 (.t 11) (.t 13), none⟩] [11, 12, 13])
                  (.cond (.t 14)
                    (.skip)
                    (.exit 0)))
                (.seq
                  (.block 1
                    (.seq
                      (.reg true [⟨some 17, .mv (.t 0), none⟩,
                        ⟨some 18, .mv (.t 5), none⟩,
                        ⟨some 19, .ia 1 (.t 17) (.t 18), none⟩,
                        ⟨some 20, .ld false 1 (.t 19), none⟩,
                        ⟨some 21, .mv (.t 1), none⟩,
                        ⟨some 22, .mv (.t 5), none⟩,
                        ⟨some 23, .ia 1 (.t 21) (.t 22), none⟩,
                        ⟨some 24, .ld false 1 (.t 23), none⟩,
                        ⟨some 25, .bin .neq 0 (.t 20) (.t 24), none⟩] [17, 18, 19, 20, 21, 22, 23, 24])
                      (.cond (.t 25)
                        (.seq
                          (.reg false [⟨some 4, .as (.c (.lit (.bool false))), none⟩] [])
                          (.ret))
                        (.skip))))
                  (.reg false [⟨some 15, .mv (.t 5), none⟩,
                    ⟨some 16, .bin .add 0 (.t 15) (.c (.lit (.int .i64 1))), none⟩,
                    ⟨some 5, .as (.t 16), none⟩] [15, 16]))))))
        (.seq
          (.reg false [⟨some 4, .as (.c (.lit (.bool true))), none⟩] [])
          (.ret))))
theorem eqStr_fx {n nt : Nat} (h : Is E.P n nt eqStr [.t 4]) (hnt : 2 ≤ nt) (xs ys : List ByteArray) (hxs : xs.length ≤ 9223372036854775807) : Fx E n [] [.sl ro 1 (xs.map fun x => .lit (.string x)), .sl ro 1 (ys.map fun y => .lit (.string y))] [] (.lit (.bool (all2 (fun x y => decide (x = y)) xs ys))) := by
  refine h.fx [] (by simpa using hnt) rfl rfl ?_
  simp [eqStr]
  by_cases hl : (xs.length : Int) = ys.length
  · simp [hl]
    have hl' : xs.length = ys.length := by omega
    refine X_loop (τ := Nat) (fun i => ⟨[(0, .sl ro 1 (xs.map fun x => .lit (.string x))), (1, .sl ro 1 (ys.map fun y => .lit (.string y))), (5, .lit (.int .i64 i))], []⟩) (fun i => i ≤ xs.length ∧ ∀ (k : Nat) x y, k < i → xs[k]? = some x → ys[k]? = some y → x = y) (fun i => xs.length - i) 0 (by simp) (Wk.both (by simp [wkL, wkV.same]) trivial) ?_
    rintro i ⟨hi, hall⟩
    simp
    by_cases hlt : i < xs.length
    · have hlt2 : i < ys.length := by omega
      simp [hlt, hlt2, mkF]
      by_cases hp : xs[i] = ys[i]
      · simp [hp]
        refine ⟨i + 1, ⟨by omega, fun k x y hk hx hy => ?_⟩, by omega, Wk.both (by simp [wkL, wkV.same]; rw [wrap_i64 (by omega) (by omega)]; exact wkV.same _) trivial⟩
        rcases Nat.lt_succ_iff_lt_or_eq.1 hk with hk | rfl
        · exact hall k x y hk hx hy
        · rw [List.getElem?_eq_getElem hlt] at hx
          rw [List.getElem?_eq_getElem hlt2] at hy
          rw [← Option.some.inj hx, ← Option.some.inj hy]
          exact hp
      · simp [hp]
        exact Fin_ret rfl (by rw [all2_false (List.getElem?_eq_getElem hlt) (List.getElem?_eq_getElem hlt2) (by simpa using hp)]; rfl)
    · simp [hlt]
      exact Fin_ret rfl (by rw [all2_true hl' fun k x y hx hy => by simpa using hall k x y (by have := (List.getElem?_eq_some_iff.1 hx).1; omega) hx hy]; rfl)
  · simp [hl]
    have hl' : xs.length ≠ ys.length := by omega
    exact Fin_ret rfl (by simp [reC, all2_len hl'])
theorem all2_eq {α : Type} {p : α → α → Bool} (h : ∀ x y, p x y = true ↔ x = y) : ∀ (l m : List α), all2 p l m = true ↔ l = m
  | [], [] => by simp [all2]
  | [], _ :: _ => by simp [all2]
  | _ :: _, [] => by simp [all2]
  | a :: l, b :: m => by simp [all2, h, all2_eq h l m]
end Go.Proofs.YtgegcfhifojjiaaDoor.Vm
/- The laws' helpers over slices: sz. -/
namespace Go.Proofs.YtgegcfhifojjiaaDoor.Vm
open Go Go.RowKit
set_option linter.unusedVariables false
set_option linter.unusedSimpArgs false
theorem Is.to {E : Env} {P : Program} {f nt : Nat} {vc : VC} {rs : List VR} (h : Is P f nt vc rs) (hE : E.P = P) : Is E.P f nt vc rs := hE ▸ h
/-- behind a piece of code whose end is told apart -/
theorem Xe_cut {E : Env} {c : VC} {s : AS} {Q R : Ex → AS → Prop} {l : Lk Q} (h : Xe E c s R .mk) (hm : ∀ e s', R e s' → Q e s') : Xe E c s Q l := vx_mono c s R Q h hm
theorem Xs_cut {E : Env} {os : List VO} {s : AS} {Q R : AS → Prop} {l : Lk Q} (h : Xs E os s R .mk) (hm : ∀ s', R s' → Q s') : Xs E os s Q l := by
  have : ∀ (os : List VO) (s : AS) (R Q : AS → Prop), vops E os s R → (∀ s, R s → Q s) → vops E os s Q := by
    intro os
    induction os with
    | nil => exact fun s R R' h hm => hm _ h
    | cons o os ih => exact fun s R R' h hm => vop_mono h fun s' h' _ => ih _ _ _ h' hm
  exact this os s R Q h hm
def szS (sz f : Nat) : VC :=
  .seq
    (.reg false [⟨some 4, .as (.c (.lit (.int .i64 0))), none⟩] [4])
    (.seq
      (.reg false [⟨some 6, .mv (.t 1), none⟩,
        ⟨some 7, .mv (.t 0), none⟩,
        ⟨some 8, .len false (.t 7), none⟩,
        ⟨some 9, .bin .sub 0 (.t 6) (.t 8), none⟩,
        ⟨some 1, .as (.t 9), none⟩] [6, 7, 8, 9])
      (.seq
        (.seq
          (.reg false [⟨some 10, .mv (.t 1), none⟩,
            ⟨some 11, .bin .lss 0 (.t 10) (.c (.lit (.int .i64 0))), none⟩] [10])
          (.cond (.t 11)
            (.seq
              (.reg false [⟨some 4, .as (.c (.lit (.int .i64 (-1)))), none⟩] [])
              (.ret))
            (.skip)))
        (.seq
          (.seq
            (.reg false [⟨some 5, .as (.c (.lit (.int .i64 0))), none⟩] [])
            (.block 0
              (.loop
                (.seq
                  (.seq
                    (.reg false [⟨some 12, .mv (.t 5), none⟩,
                      ⟨some 13, .mv (.t 0), none⟩,
                      ⟨some 14, .len false (.t 13), none⟩,
                      ⟨some 15, .bin .lss 0 (.t 12) (.t 14), none⟩] [12, 13, 14])
                    (.cond (.t 15)
                      (.skip)
                      (.exit 0)))
                  (.seq
                    (.block 1
                      (.seq
                        (.reg false [⟨some 18, .mv (.t 0), none⟩,
                          ⟨some 19, .mv (.t 5), none⟩,
                          ⟨some 20, .ia sz (.t 18) (.t 19), none⟩,
                          ⟨some 21, .ld true sz (.t 20), none⟩,
                          ⟨some 22, .mv (.t 1), none⟩,
                          ⟨some 23, .call false f [(.t 21), (.t 22)], none⟩,
                          ⟨some 1, .as (.t 23), none⟩] [18, 19, 20, 21, 22, 23])
                        (.seq
                          (.reg false [⟨some 24, .mv (.t 1), none⟩,
                            ⟨some 25, .bin .lss 0 (.t 24) (.c (.lit (.int .i64 0))), none⟩] [24])
                          (.cond (.t 25)
                            (.seq
                              (.reg false [⟨some 4, .as (.c (.lit (.int .i64 (-1)))), none⟩] [])
                              (.ret))
                            (.skip)))))
                    (.reg false [⟨some 16, .mv (.t 5), none⟩,
                      ⟨some 17, .bin .add 0 (.t 16) (.c (.lit (.int .i64 1))), none⟩,
                      ⟨some 5, .as (.t 17), none⟩] [16, 17]))))))
          (.seq
            (.reg false [⟨some 26, .mv (.t 1), none⟩,
              ⟨some 4, .as (.t 26), none⟩] [26])
            (.ret)))))
def szStr : VC :=
  .seq
    (.reg false [⟨some 4, .as (.c (.lit (.int .i64 0))), none⟩] [4])
    (.seq
      (.reg false [⟨some 6, .mv (.t 1), none⟩,
        ⟨some 7, .mv (.t 0), none⟩,
        ⟨some 8, .len false (.t 7), none⟩,
        ⟨some 9, .bin .sub 0 (.t 6) (.t 8), none⟩,
        ⟨some 1, .as (.t 9), none⟩] [6, 7, 8, 9])
      (.seq
        (.seq
          (.reg false [⟨some 10, .mv (.t 1), none⟩,
            ⟨some 11, .bin .lss 0 (.t 10) (.c (.lit (.int .i64 0))), none⟩] [10])
          (.cond (.t 11)
            (.seq
              (.reg false [⟨some 4, .as (.c (.lit (.int .i64 (-1)))), none⟩] [])
              (.ret))
            (.skip)))
        (.seq
          (.seq
            (.reg false [⟨some 5, .as (.c (.lit (.int .i64 0))), none⟩] [])
            (.block 0
              (.loop
                (.seq
                  (.seq
                    (.reg false [⟨some 12, .mv (.t 5), none⟩,
                      ⟨some 13, .mv (.t 0), none⟩,
                      ⟨some 14, .len false (.t 13), none⟩,
                      ⟨some 15, .bin .lss 0 (.t 12) (.t 14), none⟩] [12, 13, 14])
                    (.cond (.t 15)
                      (.skip)
                      (.exit 0)))
                  (.seq
                    (.block 1
                      (.seq
                        (.reg false [⟨some 18, .mv (.t 1), none⟩,
                          ⟨some 19, .mv (.t 0), none⟩,
                          ⟨some 20, .mv (.t 5), none⟩,
                          ⟨some 21, .ia 1 (.t 19) (.t 20), none⟩,
                          ⟨some 22, .ld false 1 (.t 21), none⟩,
                          ⟨some 23, .len true (.t 22), none⟩,
                          ⟨some 24, .bin .sub 0 (.t 18) (.t 23), none⟩,
                          ⟨some 1, .as (.t 24), none⟩] [18, 19, 20, 21, 22, 23, 24])
                        (.seq
                          (.reg false [⟨some 25, .mv (.t 1), none⟩,
                            ⟨some 26, .bin .lss 0 (.t 25) (.c (.lit (.int .i64 0))), none⟩] [25])
                          (.cond (.t 26)
                            (.seq
                              (.reg false [⟨some 4, .as (.c (.lit (.int .i64 (-1)))), none⟩] [])
                              (.ret))
                            (.skip)))))
                    (.reg false [⟨some 16, .mv (.t 5), none⟩,
                      ⟨some 17, .bin .add 0 (.t 16) (.c (.lit (.int .i64 1))), none⟩,
                      ⟨some 5, .as (.t 17), none⟩] [16, 17]))))))
          (.seq
            (.reg false [⟨some 27, .mv (.t 1), none⟩,
              ⟨some 4, .as (.t 27), none⟩] [27])
            (.ret)))))
/-- what is left of 'l' behind the elements -/
def szGo {α : Type} (f : α → Int → Int) : List α → Int → Int
  | [], l => l
  | x :: xs, l => if f x l < 0 then -1 else szGo f xs (f x l)
def szL {α : Type} (f : α → Int → Int) (xs : List α) (l : Int) : Int := if l - xs.length < 0 then -1 else szGo f xs (l - xs.length)
theorem szGo_le {α : Type} {f : α → Int → Int} : ∀ {xs : List α} {l : Int}, (∀ x ∈ xs, ∀ l, 0 ≤ l → f x l ≤ l) → 0 ≤ l → szGo f xs l ≤ l
  | [], l, _, _ => Int.le_refl l
  | x :: xs, l, h, h0 => by
    simp only [szGo]
    have h1 := h x List.mem_cons_self l h0
    split
    · omega
    · rename_i h2
      have := szGo_le (xs := xs) (l := f x l) (fun y hy => h y (List.mem_cons_of_mem _ hy)) (by omega)
      omega
theorem szL_le {α : Type} {f : α → Int → Int} {xs : List α} {l : Int} (h : ∀ x ∈ xs, ∀ l, 0 ≤ l → f x l ≤ l) (h0 : 0 ≤ l) : szL f xs l ≤ l := by
  unfold szL
  split
  · omega
  · have := szGo_le (xs := xs) (l := l - xs.length) h (by omega)
    omega
def szIf (l : Int) (k : Int → Int) : Int := if l < 0 then -1 else k l
theorem szIf_neg {l : Int} {k : Int → Int} (h : l < 0) : szIf l k = -1 := by unfold szIf; rw [if_pos h]
theorem szIf_pos {l : Int} {k : Int → Int} (h : ¬ l < 0) : szIf l k = k l := by unfold szIf; rw [if_neg h]
theorem szIf_le {l m : Int} {k : Int → Int} (h : l ≤ m) (h0 : 0 ≤ m) (hk : 0 ≤ l → k l ≤ m) : szIf l k ≤ m := by
  unfold szIf
  split
  · omega
  · exact hk (by omega)
variable {E : Env}
theorem szS_fx {n nt sz f : Nat} (h : Is E.P n nt (szS sz f) [.t 4]) (hnt : 2 ≤ nt) {α : Type} {a : α → List AV} {g : α → Int → Int} {G : α → Prop} (ha : ∀ x, PlL (a x)) (hla : ∀ x, (a x).length = sz)
    (hf : ∀ x l, G x → 0 ≤ l → l ≤ 1048576 → Fx E f [] [.agg (a x), .lit (.int .i64 l)] [] (.lit (.int .i64 (g x l)))) (hg : ∀ x l, 0 ≤ l → g x l ≤ l) (xs : List α) (hG : ∀ x ∈ xs, G x) (l : Int) (hl : 0 ≤ l) (hl2 : l ≤ 1048576) (hxs : xs.length ≤ 9223372036854775807) : Fx E n [] [.sl ro sz (xs.map fun x => .agg (a x)), .lit (.int .i64 l)] [] (.lit (.int .i64 (szL g xs l))) := by
  refine h.fx [] (by simpa using hnt) rfl rfl ?_
  simp [szS]
  rw [wrap_i64 (by omega) (by omega)]
  by_cases h0 : l - xs.length < 0
  · simp [h0]
    exact Fin_ret rfl (by simp [szL, h0, reC])
  · simp [h0]
    refine X_loop (τ := Nat × Int) (fun p => ⟨[(0, .sl ro sz (xs.map fun x => .agg (a x))), (1, .lit (.int .i64 p.2)), (5, .lit (.int .i64 p.1))], []⟩) (fun p => p.1 ≤ xs.length ∧ 0 ≤ p.2 ∧ p.2 ≤ 1048576 ∧ szL g xs l = szGo g (xs.drop p.1) p.2) (fun p => xs.length - p.1) (0, l - xs.length) (by simp [szL, h0]; omega) (Wk.both (by simp [wkL, wkV.same]) trivial) ?_
    rintro ⟨i, k⟩ ⟨hi, hk, hk2, he⟩
    simp only at hi hk hk2 he
    simp
    by_cases hlt : i < xs.length
    · have hd : xs.drop i = xs[i] :: xs.drop (i + 1) := List.drop_eq_getElem_cons hlt
      rw [hd, szGo] at he
      simp [hlt, hla]
      refine vcall_go (hf xs[i] k (hG _ (List.getElem_mem hlt)) hk hk2) (by simp [hla, List.take_of_length_le, ha]) (by simp) (by simp) (by simp) ?_
      simp
      by_cases hn : g xs[i] k < 0
      · simp [hn]
        rw [if_pos hn] at he
        exact Fin_ret rfl (by rw [he]; rfl)
      · simp [hn]
        rw [if_neg hn] at he
        have := hg xs[i] k hk
        refine ⟨i + 1, g xs[i] k, ⟨by omega, by omega, by omega, he⟩, by omega, Wk.both (by simp [wkL, wkV.same]; rw [wrap_i64 (by omega) (by omega)]; exact wkV.same _) trivial⟩
    · have : i = xs.length := by omega
      subst this
      simp
      simp [szGo] at he
      exact Fin_ret rfl (by rw [he]; rfl)
theorem szStr_fx {n nt : Nat} (h : Is E.P n nt szStr [.t 4]) (hnt : 2 ≤ nt) (xs : List ByteArray) (hG : ∀ x ∈ xs, x.size ≤ 9223372036854775807) (l : Int) (hl : 0 ≤ l) (hl2 : l ≤ 1048576) (hxs : xs.length ≤ 9223372036854775807) : Fx E n [] [.sl ro 1 (xs.map fun x => .lit (.string x)), .lit (.int .i64 l)] [] (.lit (.int .i64 (szL (fun x l => l - x.size) xs l))) := by
  refine h.fx [] (by simpa using hnt) rfl rfl ?_
  simp [szStr]
  rw [wrap_i64 (by omega) (by omega)]
  by_cases h0 : l - xs.length < 0
  · simp [h0]
    exact Fin_ret rfl (by simp [szL, h0, reC])
  · simp [h0]
    refine X_loop (τ := Nat × Int) (fun p => ⟨[(0, .sl ro 1 (xs.map fun x => .lit (.string x))), (1, .lit (.int .i64 p.2)), (5, .lit (.int .i64 p.1))], []⟩) (fun p => p.1 ≤ xs.length ∧ 0 ≤ p.2 ∧ p.2 ≤ 1048576 ∧ szL (fun x l => l - x.size) xs l = szGo (fun x l => l - x.size) (xs.drop p.1) p.2) (fun p => xs.length - p.1) (0, l - xs.length) (by simp [szL, h0]; omega) (Wk.both (by simp [wkL, wkV.same]) trivial) ?_
    rintro ⟨i, k⟩ ⟨hi, hk, hk2, he⟩
    simp only at hi hk hk2 he
    simp
    by_cases hlt : i < xs.length
    · have hd : xs.drop i = xs[i] :: xs.drop (i + 1) := List.drop_eq_getElem_cons hlt
      have hsz := hG _ (List.getElem_mem hlt)
      rw [hd, szGo] at he
      simp [hlt, mkF]
      rw [wrap_i64 (by omega) (by omega)]
      by_cases hn : k - xs[i].size < 0
      · simp [hn]
        rw [if_pos hn] at he
        exact Fin_ret rfl (by rw [he]; rfl)
      · simp [hn]
        rw [if_neg hn] at he
        refine ⟨i + 1, k - xs[i].size, ⟨by omega, by omega, by omega, he⟩, by omega, Wk.both (by simp [wkL, wkV.same]; rw [wrap_i64 (by omega) (by omega)]; exact wkV.same _) trivial⟩
    · have : i = xs.length := by omega
      subst this
      simp
      simp [szGo] at he
      exact Fin_ret rfl (by rw [he]; rfl)
end Go.Proofs.YtgegcfhifojjiaaDoor.Vm
/- The laws' helpers over slices: to. -/
namespace Go.Proofs.YtgegcfhifojjiaaDoor.Vm
open Go Go.RowKit
set_option linter.unusedVariables false
set_option linter.unusedSimpArgs false
def toS (sz byt : Nat) (z : AV) (f : Nat) : VC :=
  .seq
    (.reg false [⟨some 2, .as (.c (.sl ⟨.nl, true⟩ 1 [])), none⟩] [2])
    (.seq
      (.reg false [⟨some 5, .mv (.t 0), none⟩,
        ⟨some 6, .len false (.t 5), none⟩,
        ⟨some 7, .mks sz byt z (.t 6), none⟩,
        ⟨some 3, .as (.t 7), none⟩] [5, 6, 7])
      (.seq
        (.seq
          (.reg false [⟨some 4, .as (.c (.lit (.int .i64 0))), none⟩] [])
          (.block 0
            (.loop
              (.seq
                (.seq
                  (.reg false [⟨some 8, .mv (.t 4), none⟩,
                    ⟨some 9, .mv (.t 0), none⟩,
                    ⟨some 10, .len false (.t 9), none⟩,
                    ⟨some 11, .bin .lss 0 (.t 8) (.t 10), none⟩] [8, 9, 10])
                  (.cond (.t 11)
                    (.skip)
                    (.exit 0)))
                (.seq
                  (.block 1
                    (.reg false [⟨some 14, .mv (.t 3), none⟩,
                      ⟨some 15, .mv (.t 4), none⟩,
                      ⟨some 16, .mv (.t 0), none⟩,
                      ⟨some 17, .mv (.t 4), none⟩,
                      ⟨some 18, .ia sz (.t 16) (.t 17), none⟩,
                      ⟨some 19, .ld true sz (.t 18), none⟩,
                      ⟨some 20, .call false f [(.t 19)], none⟩,
                      ⟨some 21, .ia sz (.t 14) (.t 15), none⟩,
                      ⟨none, .st sz (.t 21) (.t 20), none⟩] [14, 15, 16, 17, 18, 19, 20, 21]))
                  (.reg false [⟨some 12, .mv (.t 4), none⟩,
                    ⟨some 13, .bin .add 0 (.t 12) (.c (.lit (.int .i64 1))), none⟩,
                    ⟨some 4, .as (.t 13), none⟩] [12, 13]))))))
        (.seq
          (.reg false [⟨some 22, .mv (.t 3), none⟩,
            ⟨some 2, .as (.t 22), none⟩] [22])
          (.ret))))
def toStr : VC :=
  .seq
    (.reg false [⟨some 2, .as (.c (.sl ⟨.nl, true⟩ 1 [])), none⟩] [2])
    (.seq
      (.reg false [⟨some 5, .mv (.t 0), none⟩,
        ⟨some 6, .len false (.t 5), none⟩,
        ⟨some 7, .mks 1 16 (.lit (.string (by8 ""))) (.t 6), none⟩,
        ⟨some 3, .as (.t 7), none⟩] [5, 6, 7])
      (.seq
        (.seq
          (.reg false [⟨some 4, .as (.c (.lit (.int .i64 0))), none⟩] [])
          (.block 0
            (.loop
              (.seq
                (.seq
                  (.reg false [⟨some 8, .mv (.t 4), none⟩,
                    ⟨some 9, .mv (.t 0), none⟩,
                    ⟨some 10, .len false (.t 9), none⟩,
                    ⟨some 11, .bin .lss 0 (.t 8) (.t 10), none⟩] [8, 9, 10])
                  (.cond (.t 11)
                    (.skip)
                    (.exit 0)))
                (.seq
                  (.block 1
                    (.reg false [⟨some 14, .mv (.t 3), none⟩,
                      ⟨some 15, .mv (.t 4), none⟩,
                      ⟨some 16, .mv (.t 0), none⟩,
                      ⟨some 17, .mv (.t 4), none⟩,
                      ⟨some 18, .ia 1 (.t 16) (.t 17), none⟩,
                      ⟨some 19, .ld false 1 (.t 18), none⟩,
                      ⟨some 20, .ia 1 (.t 14) (.t 15), none⟩,
                      ⟨none, .st 1 (.t 20) (.t 19), none⟩] [14, 15, 16, 17, 18, 19, 20]))
                  (.reg false [⟨some 12, .mv (.t 4), none⟩,
                    ⟨some 13, .bin .add 0 (.t 12) (.c (.lit (.int .i64 1))), none⟩,
                    ⟨some 4, .as (.t 13), none⟩] [12, 13]))))))
        (.seq
          (.reg false [⟨some 21, .mv (.t 3), none⟩,
            ⟨some 2, .as (.t 21), none⟩] [21])
          (.ret))))
theorem setRep {α : Type} (A : List α) (m : Nat) (z v : α) : (A ++ List.replicate (m + 1) z).set A.length v = A ++ v :: List.replicate m z := by
  rw [List.set_append_right _ _ (Nat.le_refl _), Nat.sub_self, List.replicate_succ, List.set_cons_zero]
theorem getRep {α : Type} (A : List α) (m : Nat) (z : α) : (A ++ List.replicate (m + 1) z)[A.length]? = some z := by
  rw [List.getElem?_append_right (Nat.le_refl _), Nat.sub_self, List.replicate_succ]; rfl
theorem relab_mkT (t : Nat) (b : Bool) : ∀ (a : AV), relab t b (mkF true a) = mkF true a := by
  intro a
  refine AV.rec (motive_1 := fun a => relab t b (mkF true a) = mkF true a) (motive_2 := fun l => relab.relabL t b (mkF.mkL true l) = mkF.mkL true l) ?_ ?_ ?_ ?_ ?_ ?_ ?_ ?_ ?_ ?_ ?_ ?_ ?_ a
  all_goals (intros; try rfl)
  · rename_i cs ih; simp only [mkF, relab, ih]
  · rename_i a l h1 h2; simp only [mkF.mkL, relab.relabL, h1, h2]
theorem relabL_mkT (t : Nat) (b : Bool) (l : List AV) : relab.relabL t b (mkF.mkL true l) = mkF.mkL true l := by
  induction l with
  | nil => rfl
  | cons a l ih => simp only [mkF.mkL, relab.relabL, relab_mkT, ih]
theorem frA_mkT : ∀ (a : AV), frA (mkF true a) = true := by
  intro a
  refine AV.rec (motive_1 := fun a => frA (mkF true a) = true) (motive_2 := fun l => frA.frL (mkF.mkL true l) = true) ?_ ?_ ?_ ?_ ?_ ?_ ?_ ?_ ?_ ?_ ?_ ?_ ?_ a
  all_goals (intros; try rfl)
  · rename_i cs ih; simp only [mkF, frA, ih]
  · rename_i a l h1 h2; simp only [mkF.mkL, frA.frL, h1, h2, Bool.and_self]
theorem frL_mkT (l : List AV) : frA.frL (mkF.mkL true l) = true := by
  induction l with
  | nil => rfl
  | cons a l ih => simp only [mkF.mkL, frA.frL, frA_mkT, ih, Bool.and_self]
theorem okC_mkF (b : Bool) (a : AV) (h : okC a = true) (hd : dat a = true) : okC (mkF b a) = true := by
  cases a with
  | un => cases h
  | lit => rfl
  | sl => rfl
  | agg => cases h
  | _ => cases hd
theorem allOk_mkL (b : Bool) {l : List AV} (h : l.all okC = true) (hp : PlL l) : (mkF.mkL b l).all okC = true := by
  rw [List.all_eq_true] at h ⊢
  intro c hc
  rw [mkL_map] at hc
  obtain ⟨a, ha, rfl⟩ := List.mem_map.1 hc
  exact okC_mkF b a (h a ha) (PlL_iff.1 hp a ha).dat
theorem upd_all {α : Type} {l m : List α} (h : m.length = l.length) : upd l 0 m = m := by
  unfold upd
  simp [List.drop_eq_nil_of_le (show l.length ≤ m.length by omega)]
attribute [simp] relab_mkT relabL_mkT frA_mkT frL_mkT mkL_len
/-- a row that is filled from the front -/
def row {α : Type} (F : α → AV) (z : AV) (xs : List α) (i : Nat) : List AV := (xs.take i).map F ++ List.replicate (xs.length - i) z
theorem row_len {α : Type} (F : α → AV) (z : AV) (xs : List α) (i : Nat) (h : i ≤ xs.length) : (row F z xs i).length = xs.length := by
  unfold row; simp; omega
theorem row_get {α : Type} (F : α → AV) (z : AV) (xs : List α) (i : Nat) (h : i < xs.length) : (row F z xs i)[i]? = some z := by
  unfold row
  rw [List.getElem?_append_right (by simp; omega)]
  simp [List.getElem?_replicate]; omega
theorem row_set {α : Type} (F : α → AV) (z : AV) (xs : List α) (i : Nat) (h : i < xs.length) : (row F z xs i).set i (F xs[i]) = row F z xs (i + 1) := by
  unfold row
  rw [List.set_append_right _ _ (by simp; omega)]
  rw [show xs.length - i = (xs.length - (i + 1)) + 1 by omega, List.replicate_succ]
  have hl : i - ((xs.take i).map F).length = 0 := by simp; omega
  rw [hl, List.set_cons_zero, List.take_succ_eq_append_getElem h, List.map_append, List.append_assoc]
  rfl
theorem row_all {α : Type} (F : α → AV) (z : AV) (xs : List α) : row F z xs xs.length = xs.map F := by
  unfold row; simp
theorem row_zero {α : Type} (F : α → AV) (z : AV) (xs : List α) : row F z xs 0 = List.replicate xs.length z := by
  unfold row; simp
theorem row_mem {α : Type} {F : α → AV} {z : AV} {xs : List α} {i : Nat} {c : AV} (h : c ∈ row F z xs i) : (∃ x ∈ xs, c = F x) ∨ c = z := by
  unfold row at h
  rcases List.mem_append.1 h with h | h
  · obtain ⟨x, hx, rfl⟩ := List.mem_map.1 h
    exact .inl ⟨x, List.mem_of_mem_take hx, rfl⟩
  · exact .inr (List.eq_of_mem_replicate h)
theorem row_noC {α : Type} {F : α → AV} {z : AV} {xs : List α} {i : Nat} {d : Nat} (hF : ∀ x, noC d (F x) = true) (hz : noC d z = true) : noC.noL d (row F z xs i) = true := noCL_iff.2 fun c hc => by
  rcases row_mem hc with ⟨x, _, rfl⟩ | rfl
  · exact hF x
  · exact hz
theorem le_mul_cast {a b c : Nat} (h : a * b ≤ c) : (a : Int) * (b : Int) ≤ (c : Int) := by
  rw [← Int.natCast_mul]; exact Int.ofNat_le.2 h
/-- The end, a row told as a list. -/
theorem Fin_row {rs : List VR} {r : AV} {ks : List Nat} {env : List (Nat × AV)} {bxs : List (Nat × List AV)} (t n sz len : Nat) (l : List AV) (hn : 1000 ≤ n) (h1 : look env t = some (.bs n sz len)) (h2 : look bxs n = some l) (h3 : len = l.length) (h4 : l.all (fun e => frA e && dat e) = true) {r' : AV} (h5 : resVs ⟨setL t (.sl ⟨.no, true⟩ sz (strip.stripL l)) env, bxs.filter fun p => p.1 != n⟩ rs = some [r']) (h6 : r = reC ks r') : Fin rs r ks .ret ⟨env, bxs⟩ :=
  ⟨.inr rfl, _, .frz ⟨env, bxs⟩ t n sz len l hn h1 h2 h3 h4, _, h5, h6⟩
variable {E : Env}
theorem toS_fx {n nt sz byt f : Nat} {zc : List AV} (h : Is E.P n nt (toS sz byt (.agg zc) f) [.t 2]) (hnt : 2 ≤ nt) {α : Type} {a : α → List AV} (hzl : zc.length = sz) (hzo : zc.all okC = true) (hzB : noB.noL 1007 zc = true) (hzC : noC.noL 20 zc = true) (ha : ∀ x, PlL (a x)) (hao : ∀ x, (a x).all okC = true) (hla : ∀ x, (a x).length = sz) (h0 : 0 < sz)
    (xs : List α) (hf : ∀ x ∈ xs, Fx E f [] [.agg (a x)] [] (.agg (mkF.mkL true (a x)))) (hb : xs.length * byt ≤ 70368744177664) (hxs : xs.length ≤ 1048576) : Fx E n [] [.sl ro sz (xs.map fun x => .agg (a x))] [] (.sl ⟨.no, true⟩ sz (xs.map fun x => .agg (a x))) := by
  refine h.fx [] (by simp; omega) rfl rfl ?_
  simp [toS, hzo, hzB, hzl]
  refine ⟨le_mul_cast hb, by omega, ?_⟩
  refine X_loop (τ := Nat) (fun i => ⟨[(0, .sl ro sz (xs.map fun x => .agg (a x))), (3, .bs 1007 sz xs.length), (4, .lit (.int .i64 i))], [(1007, row (fun x => .agg (mkF.mkL true (a x))) (.agg zc) xs i)]⟩) (fun i => i ≤ xs.length) (fun i => xs.length - i) 0 (by simp) (Wk.both (by simp [wkL, wkV.same]) (by simp [wkB, row_zero])) ?_
  intro i hi
  simp
  by_cases hlt : i < xs.length
  · simp [hlt, hla]
    refine vcall_go (hf xs[i] (List.getElem_mem hlt)) (by simp [hla, List.take_of_length_le, ha]) (by simp) (by simp) (by
      simp; exact row_noC (fun x => by simp) (by simpa using hzC)) ?_
    simp [hlt, hla, h0, row_get, hzl, allOk_mkL true (hao _) (ha _)]
    have hp : putElem (.agg zc) 0 (.agg (mkF.mkL true (a xs[i]))) = .agg (mkF.mkL true (a xs[i])) := by
      simp only [putElem, AV.cells]
      rw [upd_all (by simp [hla, hzl])]
    rw [hp, row_set (fun x => .agg (mkF.mkL true (a x))) (.agg zc) xs i hlt]
    refine ⟨i + 1, by omega, by omega, Wk.both (by simp [wkL, wkV.same]; rw [wrap_i64 (by omega) (by omega)]; exact wkV.same _) (by simp [wkB])⟩
  · have : i = xs.length := by omega
    subst this
    simp
    rw [row_all]
    refine Fin_row 2 1007 sz xs.length (xs.map fun x => .agg (mkF.mkL true (a x))) (by omega) rfl rfl (by simp) (by simp [frA, frL_mkT]) rfl ?_
    refine congrArg (AV.sl ⟨.no, true⟩ sz) (?_ : xs.map (fun x => .agg (a x)) = strip.stripL (xs.map fun x => .agg (mkF.mkL true (a x))))
    rw [stripL_map, List.map_map]
    exact List.map_congr_left fun x _ => by simp [ha]
theorem toStr_fx {n nt : Nat} (h : Is E.P n nt toStr [.t 2]) (hnt : 2 ≤ nt) (xs : List ByteArray) (hxs : xs.length ≤ 1048576) : Fx E n [] [.sl ro 1 (xs.map fun x => .lit (.string x))] [] (.sl ⟨.no, true⟩ 1 (xs.map fun x => .lit (.string x))) := by
  refine h.fx [] (by simp; omega) rfl rfl ?_
  simp [toStr, okC]
  refine ⟨by omega, by omega, ?_⟩
  refine X_loop (τ := Nat) (fun i => ⟨[(0, .sl ro 1 (xs.map fun x => .lit (.string x))), (3, .bs 1007 1 xs.length), (4, .lit (.int .i64 i))], [(1007, row (fun x => .lit (.string x)) (.lit (.string (by8 ""))) xs i)]⟩) (fun i => i ≤ xs.length) (fun i => xs.length - i) 0 (by simp) (Wk.both (by simp [wkL, wkV.same]) (by simp [wkB, row_zero])) ?_
  intro i hi
  simp
  by_cases hlt : i < xs.length
  · simp [hlt, mkF, row_get, okC]
    have hp : putElem (.lit (.string (by8 ""))) 0 (.lit (.string xs[i])) = .lit (.string xs[i]) := rfl
    rw [hp, row_set (fun x => .lit (.string x)) (.lit (.string (by8 ""))) xs i hlt]
    refine ⟨i + 1, by omega, by omega, Wk.both (by simp [wkL, wkV.same]; rw [wrap_i64 (by omega) (by omega)]; exact wkV.same _) (by simp [wkB])⟩
  · have : i = xs.length := by omega
    subst this
    simp
    rw [row_all]
    refine Fin_row 2 1007 1 xs.length (xs.map fun x => .lit (.string x)) (by omega) rfl rfl (by simp) (by simp [frA]) rfl ?_
    refine congrArg (AV.sl ⟨.no, true⟩ 1) (?_ : xs.map (fun x => .lit (.string x)) = strip.stripL (xs.map fun x => .lit (.string x)))
    rw [stripL_map, List.map_map]
    exact List.map_congr_left fun x _ => rfl
end Go.Proofs.YtgegcfhifojjiaaDoor.Vm
/- An abstract machine over values: functions with a box. -/
namespace Go.Proofs.YtgegcfhifojjiaaDoor.Vm
open Go Go.RowKit
set_option linter.unusedVariables false
set_option linter.unusedSimpArgs false
def FinB (rs : List VR) (r : AV) (bx' : List (List AV)) (ks : List Nat) (e : Ex) (s : AS) : Prop := (e = .normal ∨ e = .ret) ∧ ∃ s1, Wk s1 s ∧ ∃ l, resVs s1 rs = some l ∧ r = reC ks (oneOr l) ∧ ∃ bs, bxsOf s1 (List.range bx'.length) = some bs ∧ bx' = bs.map (reC.reL ks)
theorem FinB_ret {rs : List VR} {r r' : AV} {bx' bs : List (List AV)} {ks : List Nat} {s : AS} (h : resVs s rs = some [r']) (h2 : r = reC ks r') (h3 : bxsOf s (List.range bx'.length) = some bs) (h4 : bx' = bs.map (reC.reL ks)) : FinB rs r bx' ks .ret s := ⟨.inr rfl, s, .refl s, _, h, h2, bs, h3, h4⟩
theorem Is.fxb {E : Env} {f nt : Nat} {vc : VC} {rs : List VR} (h : Is E.P f nt vc rs) {args : List AV} {r : AV} {bx bx' : List (List AV)} (ks : List Nat) (hlen : args.length ≤ nt) (hks : dd ks = ks) (hres : resOk r = true ∧ bx'.all resOk.resL = true) (hbl : bx'.length = bx.length) (hb : bx.length ≤ 1000) (hv : Xe E vc ⟨enum 0 args, enum 0 bx⟩ (FinB rs r bx' ks) .mk) : Fx E f bx args bx' r := by
  obtain ⟨fn, dr, h1, h2, h3, h4, h5⟩ := h.ex
  refine Fx.of h1 h2 h3 h4 ks (by rw [h5]; exact hlen) hb hks ⟨hres.1, hres.2, hbl⟩ (vx_mono _ _ _ _ hv ?_)
  rintro e s ⟨he, s1, hw, l, g1, g2, bs, g3, g4⟩
  exact ⟨he, s1, hw, l, g1, g2, bs, by rw [← hbl]; exact g3, g4⟩
/-- A call with one box, whose cells stay as they are told. -/
theorem vcall_box {E : Env} {q : Bool} {s : AS} {t f n : Nat} {vs ws : List AV} {Q : AS → Prop} {r : AV} {lb lb' : List AV} (hF : Fx E f [lb] ws [lb'] r) (hq : q = false) (hw : ren.renL [n] (strip.stripL vs) = ws) (h1 : argOk.argL vs = true) (h2 : dd (ptrs.ptrsL vs) = [n]) (h3 : (s.putO (some t) .un).noC t = true) {l0 : List AV} (hb : look s.bxs n = some l0) (hb1 : strip.stripL l0 = lb) (hb2 : dat.datL l0 = true) (hb3 : resOk.resL lb' = true ∧ dat.datL lb' = true) {l : Lk Q} (h4 : Q ((s.setB n (relab.relabL t false lb')).put t (relab t (frA.frL vs) r))) : Xc E q s (some t) f vs Q l := by
  refine .inl ⟨h1, fun e => (by rw [hq] at e; cases e), t, rfl, h3, [l0], by rw [h2]; simp [bxsOf, hb], by simp [hb2], [lb'], r, ?_, by simp [hb3], by rw [h2]; exact h4⟩
  rw [h2]
  simp only [List.map_cons, List.map_nil, hb1, hw]
  exact hF
end Go.Proofs.YtgegcfhifojjiaaDoor.Vm
/- An abstract machine over values: what an argument that can be read as data holds. -/
namespace Go.Proofs.YtgegcfhifojjiaaDoor.Vm
open Go Go.RowKit Go.ChangeShapes Go.WideShapes
set_option linter.unusedVariables false
set_option linter.unusedSimpArgs false
/-- All that the memory holds. -/
def hG (w : World) : Gh := fun b o => match w.heap[b]? with
  | some (.cells c _ _) => c[o]?
  | _ => none
theorem agree_hG (w : World) : Agree (hG w) w := by
  intro b o v h
  unfold hG at h
  split at h
  · rename_i c ty fz hb; exact ⟨c, ty, fz, hb, h⟩
  · cases h
theorem hG_cell {w : World} {a : Addr} {v : Value} (h : w.cell? a = some v) : a.spot = none ∧ hG w a.block a.off = some v := by
  unfold World.cell? at h
  unfold hG
  split at h
  · rename_i c ty fz hb
    rw [hb]
    split at h
    · cases h
    · rename_i hs
      refine ⟨?_, h⟩
      cases hh : a.spot with
      | none => rfl
      | some k => rw [hh] at hs; exact absurd rfl hs
  · cases h
/-- Cells that are as the abstract ones tell. -/
def Cells (w : World) (cs : List Value) (l : List AV) : Prop := cs.length = l.length ∧ ∀ (j : Nat) (c : AV), l[j]? = some c → ∃ v, cs[j]? = some v ∧ v.oneCell' = true ∧ RepD (hG w) v c
/-- Data of type t, read out of cells, are as 'av' tells of a good value. -/
structure OpA {α : Type} (B : Nat) (P : Program) (t : TypeId) (n : Nat) (av : α → AV) (G : α → Prop) : Prop where
  size : P.cellsOf t = n
  len : ∀ a, (av a).cells.length = n
  out : ∀ {H : Type} {enc : TypeId × Value → H} {w : World} {base : Nat} {spare : Nat → Bool} {held : Bool} {fuel : Nat} {cs : List Value} {x : DataW H × List MemPlace}, fuel ≤ B →
    DataW.trod enc P w base spare held fuel t cs = some x → ∃ a : α, Cells w cs (av a).cells ∧ G a
/-- The same of a struct's fields from the o-th cell on. -/
structure OpSeg {α : Type} (B : Nat) (P : Program) (fs : List Field) (o n : Nat) (g : α → List AV) (G : α → Prop) : Prop where
  len : ∀ a, (g a).length = n
  out : ∀ {H : Type} {enc : TypeId × Value → H} {w : World} {base : Nat} {spare : Nat → Bool} {held : Bool} {fuel : Nat} {cs : List Value}, fuel ≤ B →
    (∀ (i : Nat) (f : Field), fs[i]? = some f → ∃ y, DataW.trod enc P w base spare held fuel f.type ((cs.drop f.offset).take (P.cellsOf f.type)) = some y) → cs.length = o + n → ∃ a : α, Cells w (cs.drop o) (g a) ∧ G a
section
variable {B : Nat} {P : Program} {t e : TypeId} {α β : Type} {n : Nat} {av : α → AV} {G : α → Prop}
theorem addr_block (a : Addr) (k : Nat) : (a.add k).block = a.block := by unfold Addr.add; split <;> rfl
theorem addr_off (a : Addr) (k : Nat) : (a.add k).off = a.off + k := by unfold Addr.add; split <;> simp [*]
theorem cells_one {w : World} {v : Value} (h : v.oneCell' = true) : Cells w [v] [.lit v] := by
  refine ⟨rfl, fun j c hc => ?_⟩
  cases j with
  | zero =>
    obtain rfl : AV.lit v = c := by simpa using hc
    exact ⟨v, rfl, h, .lit v h⟩
  | succ j => simp at hc
theorem OpA.string (ht : P.underlying t = some .string) (hc : P.cellsOf t = 1) : OpA B P t 1 (fun s : ByteArray => .lit (.string s)) (fun s => s.size ≤ 9223372036854775807) where
  size := hc
  len := fun _ => rfl
  out := fun _ h => by
    obtain ⟨s, h1, _, h2⟩ := DataW.trod_string ht h
    exact ⟨s, by rw [h1]; exact cells_one rfl, by simpa [maxLen] using h2⟩
theorem OpA.bool (ht : P.underlying t = some .bool) (hc : P.cellsOf t = 1) : OpA B P t 1 (fun b : Bool => .lit (.bool b)) (fun _ => True) where
  size := hc
  len := fun _ => rfl
  out := fun _ h => by
    obtain ⟨b, h1, _⟩ := DataW.trod_bool ht h
    exact ⟨b, by rw [h1]; exact cells_one rfl, trivial⟩
theorem OpA.int {k : IntKind} (ht : P.underlying t = some (.int k)) (hc : P.cellsOf t = 1) : OpA B P t 1 (fun i : Int => .lit (.int k i)) (fun i => (Lit.int k i).wf = true) where
  size := hc
  len := fun _ => rfl
  out := fun _ h => by
    obtain ⟨i, h1, _, hw⟩ := DataW.trod_int ht h
    exact ⟨i, by rw [h1]; exact cells_one rfl, hw⟩
def GoodL {α : Type} (G : α → Prop) (xs : List α) : Prop := xs.length ≤ 9223372036854775807 ∧ ∀ x ∈ xs, G x
theorem cells_get {α : Type} {q : α → List Value → Prop} {len : Nat} (each : ∀ i, i < len → ∃ a cs, q a cs) : True := trivial
theorem OpA.slice (ht : P.underlying t = some (.slice e)) (hc : P.cellsOf t = 1) (he : OpA B P e n av G) (hn : 0 < n) : OpA B P t 1 (fun xs : List α => .sl ro n (xs.map av)) (GoodL G) where
  size := hc
  len := fun _ => rfl
  out := fun {H enc w base spare held fuel cs x} hB h => by
    rcases DataW.trod_slice ht h with ⟨h1, _⟩ | ⟨a, len, cap, elems, rest, m, hm0, rfl, _, hb, hl, hm, hlen, hel, _, _⟩
    · refine ⟨[], ?_, by simp [GoodL]⟩
      rw [h1]
      refine ⟨rfl, fun j c hc => ?_⟩
      cases j with
      | zero =>
        obtain rfl : AV.sl ro n [] = c := by simpa [AV.cells] using hc
        exact ⟨_, rfl, rfl, .sl none 0 0 _ n [] 0 0 (fun _ _ => default) rfl (Nat.le_refl _) (fun h => absurd rfl h) (by simp) (by simp) (by simp)⟩
      | succ j => simp [AV.cells] at hc
    · have each : ∀ i, i < len → ∃ q : α, G q ∧ ∃ cs', w.cells? base (a.add (i * P.cellsOf e)) (P.cellsOf e) = some cs' ∧ Cells w cs' (av q).cells := by
        intro i hi
        have h1 := hel i hi
        rw [List.getElem?_eq_getElem (by omega : i < elems.length)] at h1
        obtain ⟨cs', h2, h3⟩ := Option.bind_eq_some_iff.1 h1
        obtain ⟨q, hq, hg⟩ := he.out (by omega) h3
        exact ⟨q, hg, cs', h2, hq⟩
      have ⟨V, hV⟩ : ∃ xs : List α, xs.length = len ∧ ∀ i q, xs[i]? = some q → G q ∧ ∃ cs', w.cells? base (a.add (i * P.cellsOf e)) (P.cellsOf e) = some cs' ∧ Cells w cs' (av q).cells := by
        clear hlen hel
        have hall : ∀ k, k ≤ len → ∃ xs : List α, xs.length = k ∧ ∀ i q, xs[i]? = some q → G q ∧ ∃ cs', w.cells? base (a.add (i * P.cellsOf e)) (P.cellsOf e) = some cs' ∧ Cells w cs' (av q).cells := by
          intro k
          induction k with
          | zero => intro _; exact ⟨[], rfl, fun i q h => by simp at h⟩
          | succ k ih =>
            intro hk
            obtain ⟨xs, h1, h2⟩ := ih (by omega)
            obtain ⟨q, hq⟩ := each k (by omega)
            refine ⟨xs ++ [q], by simp [h1], fun i p hp => ?_⟩
            rcases Nat.lt_trichotomy i k with hi | hi | hi
            · rw [List.getElem?_append_left (by omega)] at hp; exact h2 i p hp
            · subst hi
              rw [List.getElem?_append_right (by omega), h1] at hp
              simp at hp; subst hp; exact hq
            · rw [List.getElem?_eq_none (by simp; omega)] at hp; cases hp
        exact hall len (Nat.le_refl _)
      obtain ⟨rfl, hV2⟩ := hV
      have h63 : V.length ≤ 9223372036854775807 := by
        have : cap ≤ 9223372036854775807 := by simpa [maxLen] using hm
        omega
      have hcell : ∀ (i : Nat) (q : α) (j : Nat) (c : AV), V[i]? = some q → (av q).cells[j]? = some c → ∃ v, (i * n + j = 0 → a.spot = none) ∧ hG w a.block (a.off + i * n + j) = some v ∧ v.oneCell' = true ∧ RepD (hG w) v c := by
        intro i q j c hi hj
        obtain ⟨_, cs', h1, h2⟩ := hV2 i q hi
        obtain ⟨_, hlen', hcl⟩ := World.cells?_some h1
        obtain ⟨v, v1, v2, v3⟩ := h2.2 j c hj
        have hjn : j < n := by have := (List.getElem?_eq_some_iff.1 hj).1; rw [he.len] at this; exact this
        have hcc := hcl j (by rw [he.size]; exact hjn)
        rw [v1, he.size, Addr.add_add] at hcc
        obtain ⟨s1, s2⟩ := hG_cell hcc
        rw [addr_block, addr_off] at s2
        refine ⟨v, fun h0 => ?_, by rw [Nat.add_assoc]; exact s2, v2, v3⟩
        rw [h0] at s1
        exact s1
      refine ⟨V, ⟨rfl, fun j c hc => ?_⟩, h63, fun q hq => ?_⟩
      · cases j with
        | succ j => simp [AV.cells] at hc
        | zero =>
          obtain rfl : AV.sl ro n (V.map av) = c := by simpa [AV.cells] using hc
          refine ⟨_, rfl, rfl, .sl (some a) V.length cap ro n (V.map av) a.block a.off (fun i j => (hG w a.block (a.off + i * n + j)).getD default) (by simp) hl (fun hne => ?_) (fun i y hy => ?_) (fun i y j c hy hc' => ?_) (fun i y j c hy hc' => ?_)⟩
          · have : 0 < V.length := by
              rcases V with _ | ⟨q, V⟩
              · exact absurd rfl hne
              · simp
            have hq : V[0]? = some V[0] := List.getElem?_eq_getElem this
            obtain ⟨c, hc'⟩ : ∃ c, (av V[0]).cells[0]? = some c := ⟨_, List.getElem?_eq_getElem (by rw [he.len V[0]]; exact hn)⟩
            obtain ⟨v, s1, _⟩ := hcell 0 V[0] 0 c hq hc'
            have s1 := s1 (by omega)
            obtain ⟨b, o, s⟩ := a
            simp only at s1
            subst s1
            rfl
          · rw [List.getElem?_map] at hy
            obtain ⟨q, _, rfl⟩ := Option.map_eq_some_iff.1 hy
            exact he.len q
          · rw [List.getElem?_map] at hy
            obtain ⟨q, hq, rfl⟩ := Option.map_eq_some_iff.1 hy
            obtain ⟨v, _, s2, s3, _⟩ := hcell i q j c hq hc'
            rw [s2]
            exact ⟨rfl, s3⟩
          · rw [List.getElem?_map] at hy
            obtain ⟨q, hq, rfl⟩ := Option.map_eq_some_iff.1 hy
            obtain ⟨v, _, s2, s3, s4⟩ := hcell i q j c hq hc'
            rw [s2]
            exact s4
      · obtain ⟨i, hi, rfl⟩ := List.mem_iff_getElem.1 hq
        exact (hV2 i _ (List.getElem?_eq_getElem hi)).1
theorem OpSeg.one {f : Field} {o : Nat} (ho : f.offset = o) (h : OpA B P f.type n av G) : OpSeg B P [f] o n (fun a => (av a).cells) G := by
  refine ⟨h.len, ?_⟩
  intro H enc w base spare held fuel cs hB hx hl
  obtain ⟨y, hy⟩ := hx 0 f rfl
  rw [ho, h.size, List.take_of_length_le (by simp; omega)] at hy
  exact h.out hB hy
theorem Cells.app {w : World} {cs ds : List Value} {l m : List AV} (h : Cells w cs l) (h2 : Cells w ds m) : Cells w (cs ++ ds) (l ++ m) := by
  refine ⟨by simp [h.1, h2.1], fun j c hc => ?_⟩
  rcases Nat.lt_or_ge j l.length with hj | hj
  · rw [List.getElem?_append_left hj] at hc
    rw [List.getElem?_append_left (by rw [h.1]; exact hj)]
    exact h.2 j c hc
  · rw [List.getElem?_append_right hj] at hc
    rw [List.getElem?_append_right (by rw [h.1]; exact hj), h.1]
    exact h2.2 _ c hc
theorem OpSeg.cons {f : Field} {fs : List Field} {o m : Nat} {g : β → List AV} {G' : β → Prop} (ho : f.offset = o) (h : OpA B P f.type n av G) (hs : OpSeg B P fs (o + n) m g G') : OpSeg B P (f :: fs) o (n + m) (fun p : α × β => (av p.1).cells ++ g p.2) (fun p => G p.1 ∧ G' p.2) := by
  refine ⟨fun p => by rw [List.length_append, h.len, hs.len], ?_⟩
  intro H enc w base spare held fuel cs hB hx hl
  obtain ⟨y, hy⟩ := hx 0 f rfl
  rw [ho, h.size] at hy
  obtain ⟨a, ha, ga⟩ := h.out hB hy
  obtain ⟨b, hb, gb⟩ := hs.out hB (fun i g hg => hx (i + 1) g (by simpa using hg)) (by omega)
  refine ⟨(a, b), ?_, ga, gb⟩
  have := ha.app hb
  rw [← List.drop_drop, List.take_append_drop] at this
  exact this
/-- A struct, told by a type of its own: 'to' goes from the pairs of its fields. -/
theorem OpA.struct {fs : Array Field} {g : β → List AV} {G' : β → Prop} {G : α → Prop} {av : α → List AV} (ht : P.underlying t = some (.struct fs)) (hc : P.cellsOf t = n) (to : β → α) (hto : ∀ b, av (to b) = g b) (hG : ∀ b, G' b → G (to b)) (hl : ∀ a, (av a).length = n) (h : OpSeg B P fs.toList 0 n g G') : OpA (B + 1) P t n (fun a => .agg (av a)) G where
  size := hc
  len := hl
  out := fun hB hx => by
    obtain ⟨xs, m, hm, _, hl, hlen, hf⟩ := DataW.trod_struct ht hx
    obtain ⟨b, hb, gb⟩ := h.out (fuel := m) (by omega) (fun i f hi => by
      rw [hf i f (by simpa using hi)]
      have : i < fs.size := by
        have := (List.getElem?_eq_some_iff.1 hi).1
        simpa using this
      exact ⟨_, List.getElem?_eq_getElem (by omega)⟩) (by rw [hl, hc]; omega)
    exact ⟨to b, by show Cells _ _ (av (to b)); rw [hto]; simpa using hb, hG b gb⟩
theorem OpA.less {B' : Nat} (h : OpA B P t n av G) (hB : B' ≤ B) : OpA B' P t n av G := ⟨h.size, h.len, fun hb hx => h.out (by omega) hx⟩
end
/-- A cell out of the memory, as the machine has it. -/
theorem rel_rep {x : X} {base : Nat} {v : Value} {c : AV} (h : RepD x.G v c) (hc : Pl c) : Rel x base v c := by
  cases h with
  | un v => exact .un v
  | lit v h => exact .lit v h
  | sl A n cap m sz xs b o f h1 h2 h3 h4 h5 h6 =>
    have hm : m = ro := by
      simp only [Pl, mkF, AV.sl.injEq, and_true] at hc
      exact hc.symm
    subst hm
    exact .sl _ _ _ _ (.sl A n cap ro sz xs b o f h1 h2 h3 h4 h5 h6) (fun hf => (by cases hf)) trivial
theorem rel_struct {x : X} {base : Nat} {w : World} {cs : Array Value} {l : List AV} (hx : x.G = hG w) (h : Cells w cs.toList l) (hl : PlL l) : Rel x base (.agg cs) (.agg l) := by
  refine .agg _ _ (by simpa using h.1) fun j v c hv hc => ?_
  obtain ⟨u, hu, _, hr⟩ := h.2 j c hc
  rw [Array.getElem?_toList, hv] at hu
  obtain rfl := Option.some.inj hu
  exact rel_rep (by rw [hx]; exact hr) (PlL_iff.1 hl c (List.mem_of_getElem? hc))
theorem rel_one' {x : X} {base : Nat} {w : World} {v : Value} {c : AV} (hx : x.G = hG w) (h : Cells w [v] [c]) (hl : Pl c) : Rel x base v c := by
  obtain ⟨u, hu, _, hr⟩ := h.2 0 c rfl
  obtain rfl : v = u := by simpa using hu
  exact rel_rep (by rw [hx]; exact hr) hl
/-- From a law's contract to its calls. -/
theorem row_calls {E : Env} {f : Nat} {avs : List AV} (hF : Fx E f [] avs [] (.lit (.bool true))) {w : World} (hK : E.K w) {vs : Array Value} (hlen : vs.size = avs.length) (hrel : ∀ (x : X), x.G = hG w → ∀ (i : Nat) (v : Value) (c : AV), vs[i]? = some v → avs[i]? = some c → Rel x w.heap.size v c) : Calls E.P f vs w fun e w' => e = .returned (.bool true) ∧ Below w.heap.size w w' := by
  let x : X := ⟨hG w, fun _ => 0, fun _ => (1, 0), fun _ => none, fun _ _ => False, fun _ _ => False, fun _ => none⟩
  refine (hF.2.2 x w vs hK (fun _ => rfl) (fun n hn => by simp at hn) ⟨fun b o h => h.elim, fun b o h => h.elim, fun _ _ h => h⟩ hlen (hrel x rfl) (agree_hG w) (fun n l hl => by simp at hl) (fun n m hn => by simp at hn)).mono ?_
  rintro e w' ⟨v, x', rfl, h1, _, _, _, h5, _⟩
  have := h1.lit_inv
  subst this
  exact ⟨rfl, ⟨h5.1, h5.2.1, h5.2.2.1, h5.2.2.2.1, fun k hk => h5.2.2.2.2 k hk (by rintro (⟨n, hn, _⟩ | ⟨_, h⟩); simp at hn; exact h)⟩⟩
end Go.Proofs.YtgegcfhifojjiaaDoor.Vm
/- An abstract machine over values: memory that a law writes itself: labels. -/
namespace Go.Proofs.YtgegcfhifojjiaaDoor.Vm
open Go Go.RowKit
set_option linter.unusedVariables false
set_option linter.unusedSimpArgs false
/-- a result, all of whose memory gets a label -/
def ownA (t : Nat) (b : Bool) : AV → AV
  | .sl _ sz xs => .sl ⟨.ow t, b⟩ sz xs
  | .agg cs => .agg (ownL t b cs)
  | .tup cs => .tup (ownL t b cs)
  | x => x
where ownL (t : Nat) (b : Bool) : List AV → List AV
  | [] => []
  | c :: cs => ownA t b c :: ownL t b cs
/-- how many slices -/
def sls : AV → Nat
  | .sl _ _ _ => 1
  | .agg cs => slsL cs
  | .tup cs => slsL cs
  | _ => 0
where slsL : List AV → Nat
  | [] => 0
  | c :: cs => sls c + slsL cs
theorem noWL_all {n : Nat} : ∀ {cs : List AV} {j : Nat} {c : AV}, noW.noL n cs = true → cs[j]? = some c → noW n c = true
  | [], _, _, _, h => by simp at h
  | y :: cs, 0, c, h, hc => by
    obtain rfl : y = c := by simpa using hc
    simp [noW.noL] at h; exact h.1
  | y :: cs, j + 1, c, h, hc => by
    simp [noW.noL] at h
    exact noWL_all (cs := cs) (j := j) h.2 (by simpa using hc)
theorem ownL_get (t : Nat) (b : Bool) : ∀ (cs : List AV) (j : Nat), (ownA.ownL t b cs)[j]? = (cs[j]?).map (ownA t b)
  | [], j => by simp [ownA.ownL]
  | c :: cs, 0 => by simp [ownA.ownL]
  | c :: cs, j + 1 => by simpa [ownA.ownL] using ownL_get t b cs j
theorem ownL_len (t : Nat) (b : Bool) : ∀ (cs : List AV), (ownA.ownL t b cs).length = cs.length
  | [] => rfl
  | c :: cs => by simp [ownA.ownL, ownL_len t b cs]
/-- A label's blocks and slice may be told anew where nothing bears it. -/
theorem Rel.relab1 {x : X} {base t : Nat} {rg' : Nat → Nat → Prop} {rv' : Nat → Option Value} (hrg : ∀ k, k ≠ t → rg' k = x.rg k) (hrv : ∀ k, k ≠ t → rv' k = x.rv k) {v : Value} {a : AV} (r : Rel x base v a) : noW t a = true → Rel { x with rg := rg', rv := rv' } base v a := by
  induction r with
  | un v => exact fun _ => .un v
  | lit v h => exact fun _ => .lit v h
  | sl v m sz xs h1 h2 h3 =>
    intro hn
    refine .sl v m sz xs h1 h2 ?_
    obtain ⟨ap, fr⟩ := m
    cases ap with
    | no => trivial
    | nl => exact h3
    | cl c => exact h3
    | ow k =>
      have hk : k ≠ t := by simpa [noW] using hn
      refine ⟨?_, fun hu => ?_⟩
      · show RepD (x.G.rng (rg' k)) v _
        rw [hrg k hk]; exact h3.1
      · show rv' k = some v
        rw [hrv k hk]; exact h3.2 hu
  | agg vs cs hs _ ih => exact fun hn => .agg vs cs hs fun j v c hv hc => ih j v c hv hc (noWL_all (by simpa only [noW] using hn) hc)
  | tup vs cs hs _ ih => exact fun hn => .tup vs cs hs fun j v c hv hc => ih j v c hv hc (noWL_all (by simpa only [noW] using hn) hc)
  | ptr n i off => exact fun _ => Rel.ptr (x := { x with rg := rg', rv := rv' }) n i off
  | ep b o fr cs f h1 h2 h3 => exact fun _ => .ep b o fr cs f h1 h2 h3
  | fn f vs cs hs _ ih => exact fun hn => .fn f vs cs hs fun j v c hv hc => ih j v c hv hc (noWL_all (by simpa only [noW] using hn) hc)
  | bs n sz len cap h hl => exact fun _ => Rel.bs (x := { x with rg := rg', rv := rv' }) n sz len cap h hl
  | hs v sz xs h => exact fun _ => .hs v sz xs h
  | hp b o cs f h1 h2 => exact fun _ => .hp b o cs f h1 h2
theorem BoxAt.relab1 {x : X} {base t : Nat} {w : World} {n : Nat} {l : List AV} {rg' : Nat → Nat → Prop} {rv' : Nat → Option Value} (hrg : ∀ k, k ≠ t → rg' k = x.rg k) (hrv : ∀ k, k ≠ t → rv' k = x.rv k) (h : BoxAt x base w n l) (hn : noW.noL t l = true) : BoxAt { x with rg := rg', rv := rv' } base w n l := by
  obtain ⟨vals, ty, h1, h2, h3, h4⟩ := h
  refine ⟨vals, ty, h1, h2, h3, fun i e he => ?_⟩
  obtain ⟨h5, h6⟩ := h4 i e he
  refine ⟨h5, fun j c hc => ?_⟩
  obtain ⟨h7, v, h8, h9, h10⟩ := h6 j c hc
  have hne := noWL_all hn he
  refine ⟨h7, v, h8, h9, h10.relab1 hrg hrv ?_⟩
  cases e with
  | agg cs => exact noWL_all (cs := cs) (by simpa only [noW] using hne) hc
  | _ =>
    cases j with
    | zero => have := Option.some.inj hc; rw [← this]; exact hne
    | succ j => simp [AV.cells] at hc
/-- A result as data with a label. -/
theorem rel_ownA {x' : X} {base base' t T H : Nat} {rg' : Nat → Nat → Prop} (hb : base ≤ base') (hrg : ∀ b, rg' T b ↔ base' ≤ b ∧ b < H) (hH : ∀ b o u, x'.G b o = some u → b < H) : ∀ (r : AV), resOk r = true → frA r = true → ∀ v, Rel x' base' v (relab t false r) →
    ∃ L : List Value, L.length ≤ sls r ∧ ∀ rv' : Nat → Option Value, (100000 ≤ T → ∀ u ∈ L, rv' T = some u) → Rel { x' with rg := rg', rv := rv' } base v (ownA T true r) := by
  intro r
  refine AV.rec (motive_1 := fun r => resOk r = true → frA r = true → ∀ v, Rel x' base' v (relab t false r) → ∃ L : List Value, L.length ≤ sls r ∧ ∀ rv' : Nat → Option Value, (100000 ≤ T → ∀ u ∈ L, rv' T = some u) → Rel { x' with rg := rg', rv := rv' } base v (ownA T true r))
    (motive_2 := fun cs => resOk.resL cs = true → frA.frL cs = true → ∀ vs : List Value, vs.length = cs.length → (∀ (j : Nat) (v : Value) (c : AV), vs[j]? = some v → cs[j]? = some c → Rel x' base' v (relab t false c)) → ∃ L : List Value, L.length ≤ sls.slsL cs ∧ ∀ rv' : Nat → Option Value, (100000 ≤ T → ∀ u ∈ L, rv' T = some u) → ∀ (j : Nat) (v : Value) (c : AV), vs[j]? = some v → cs[j]? = some c → Rel { x' with rg := rg', rv := rv' } base v (ownA T true c)) ?_ ?_ ?_ ?_ ?_ ?_ ?_ ?_ ?_ ?_ ?_ ?_ ?_ r
  · intro _ _ v _; exact ⟨[], Nat.le_refl _, fun _ _ => .un v⟩
  · intro u _ _ v h
    refine ⟨[], Nat.le_refl _, fun _ _ => ?_⟩
    cases h with
    | lit _ hv => exact .lit _ hv
  · intro m sz xs _ hr hf v h
    refine ⟨[v], Nat.le_refl _, fun rv' hrv => ?_⟩
    have hm : m.fr = true := hf
    cases h with
    | sl _ _ _ _ h1 h2 h3 =>
      have d : RepD (x'.G.from base') v (.sl m sz xs) := (h2 (by simp [hm])).mark
      have le : (x'.G.from base').le (x'.G.rng (rg' T)) := by
        intro b o u hu
        unfold Gh.from at hu
        split at hu
        · unfold Gh.rng
          rw [if_pos ((hrg b).2 ⟨by assumption, hH b o u hu⟩)]
          exact hu
        · cases hu
      refine .sl _ _ _ _ h1.mark (fun _ => ?_) ⟨(d.mono le).mark, fun hu => hrv hu v (by simp)⟩
      refine (d.mono ?_).mark
      intro b o u hu
      unfold Gh.from at hu ⊢
      split at hu
      · rw [if_pos (by omega)]; exact hu
      · cases hu
  · intro cs ih hr hf v h
    cases h with
    | agg vs _ hs hh =>
      obtain ⟨L, hL, hR⟩ := ih hr hf vs.toList (by rw [relabL_len] at hs; simpa using hs) (fun j v c hv hc => hh j v _ (by simpa using hv) (by rw [relabL_get, hc]; rfl))
      refine ⟨L, hL, fun rv' hrv => .agg _ _ (by rw [ownL_len]; rw [relabL_len] at hs; exact hs) fun j v c hv hc => ?_⟩
      rw [ownL_get] at hc
      obtain ⟨e, he, rfl⟩ := Option.map_eq_some_iff.1 hc
      exact hR rv' hrv j v e (by simpa using hv) he
  · intro cs ih hr hf v h
    cases h with
    | tup vs _ hs hh =>
      obtain ⟨L, hL, hR⟩ := ih hr hf vs.toList (by rw [relabL_len] at hs; simpa using hs) (fun j v c hv hc => hh j v _ (by simpa using hv) (by rw [relabL_get, hc]; rfl))
      refine ⟨L, hL, fun rv' hrv => .tup _ _ (by rw [ownL_len]; rw [relabL_len] at hs; exact hs) fun j v c hv hc => ?_⟩
      rw [ownL_get] at hc
      obtain ⟨e, he, rfl⟩ := Option.map_eq_some_iff.1 hc
      exact hR rv' hrv j v e (by simpa using hv) he
  · intro _ _ _ hr; cases hr
  · intro _ _ _ hr; cases hr
  · intro _ _ _ hr; cases hr
  · intro _ _ _ hr; cases hr
  · intro _ _ _ hr; cases hr
  · intro _ _ hr; cases hr
  · intro _ _ vs hl _
    exact ⟨[], Nat.le_refl _, fun _ _ j v c hv hc => by simp at hc⟩
  · intro c cs ih1 ih2 hr hf vs hl h
    simp only [resOk.resL, Bool.and_eq_true] at hr
    simp only [frA.frL, Bool.and_eq_true] at hf
    cases vs with
    | nil => simp at hl
    | cons v vs =>
      obtain ⟨L1, l1, r1⟩ := ih1 hr.1 hf.1 v (h 0 v c rfl rfl)
      obtain ⟨L2, l2, r2⟩ := ih2 hr.2 hf.2 vs (by simpa using hl) (fun j u d hu hd => h (j + 1) u d (by simpa using hu) (by simpa using hd))
      refine ⟨L1 ++ L2, by simp [sls.slsL]; omega, fun rv' hrv j u d hu hd => ?_⟩
      cases j with
      | zero =>
        obtain rfl : v = u := by simpa using hu
        obtain rfl : c = d := by simpa using hd
        exact r1 rv' fun hT u hu => hrv hT u (List.mem_append_left _ hu)
      | succ j => exact r2 rv' (fun hT u hu => hrv hT u (List.mem_append_right _ hu)) j u d (by simpa using hu) (by simpa using hd)
section
variable {E : Env} {x0 x : X} {w0 w : World} {pb nt : Nat} {a : Act} {s : AS}
theorem noW_of {n m : Nat} (h : (s.putO (some n) .un).noW m = true) (u : Nat) (hu : u ≠ n) : noW m (s.get u) = true := by
  have h1 : allV (noW m) (setL n .un s.env) = true := by
    unfold AS.noW at h
    simp only [Bool.and_eq_true] at h
    exact h.1
  unfold AS.get
  cases hl : look s.env u with
  | none => rfl
  | some v =>
    have : look (setL n .un s.env) u = some v := by rw [look_setL, if_neg hu]; exact hl
    exact allV_get h1 this
theorem noW_box {n m : Nat} (h : (s.putO (some n) .un).noW m = true) {k : Nat} {l : List AV} (hl : look s.bxs k = some l) : noW.noL m l = true := by
  unfold AS.noW at h
  simp only [Bool.and_eq_true] at h
  exact allV_get h.2 hl
/-- A call, all of whose result's memory gets a label. -/
theorem vcall_own {t T f : Nat} {vs ws : List AV} {Q : AS → Prop} {r : AV} (hF : Fx E f [] ws [] r) (hw : strip.stripL vs = ws) (h1 : argOk.argL vs = true) (h2 : ptrs.ptrsL vs = []) (h3 : (s.putO (some t) .un).noC t = true) (hW : (s.putO (some t) .un).noW T = true) (hT0 : T ≠ 0) (hT : 100000 ≤ T → sls r ≤ 1) (hfr : frA r = true) {l : Lk Q} (h4 : Q (s.put t (ownA T true r))) : Xc E false s (some t) f vs Q l := by
  refine .inr ⟨rfl, fun x0 w0 pb nt x a w hs hK hd args hl hr => ?_⟩
  have hF' : Fx E f (([] : List (List AV)).map strip.stripL) (ren.renL (dd (ptrs.ptrsL vs)) (strip.stripL vs)) [] r := by
    rw [h2]
    show Fx E f [] (ren.renL [] (strip.stripL vs)) [] r
    rw [renL_nil (by rw [strip_ptrsL, h2]), hw]
    exact hF
  refine (hs.call hK (q := false) (t := t) (hd t rfl) hl hr h1 h3 (bs := []) (bs' := []) (by rw [h2]; rfl) rfl hF' rfl).mono ?_
  rintro e w' ⟨v, x', rfl, hst, hrel, hsz, hrge⟩
  rw [h2] at hst
  simp only [dd, setBs, List.map_nil] at hst
  let rg' : Nat → Nat → Prop := fun k b => if k = T then w.heap.size ≤ b ∧ b < w'.heap.size else x'.rg k b
  obtain ⟨L, hL, hR⟩ := rel_ownA (x' := x') (base := w0.heap.size) (base' := w.heap.size) (t := t) (T := T) (H := w'.heap.size) (rg' := rg') hs.fr.2.2.2.1 (fun b => by simp [rg']) (fun b o u hu => agree_lt hst.ag hu) r hF.2.1 hfr v hrel
  let rv' : Nat → Option Value := fun k => if k = T then L.head? else x'.rv k
  have hrel' := hR rv' (fun hT' u hu => by
    have h1 : L.length ≤ 1 := Nat.le_trans hL (hT hT')
    have h2 : L.head? = some u := by
      clear hR hL
      match L, h1, hu with
      | [y], _, hu => simp only [List.mem_singleton] at hu; subst hu; rfl
    simp only [rv', if_true, h2])
  have e1 : ∀ k, k ≠ T → rg' k = x'.rg k := fun k hk => by funext b; simp [rg', hk]
  have e2 : ∀ k, k ≠ T → rv' k = x'.rv k := fun k hk => by simp [rv', hk]
  refine ⟨v, { x' with rg := rg', rv := rv' }, _, rfl, h4, keep_put _ _ _, { hst with env := fun u => ?_, bxs := fun n l hl => ?_, rgb := fun k b hb => ?_, rgd := fun k k' b hb hb' => ?_ }⟩
  · rw [getD_put]
    simp only [get_put]
    by_cases hu : u = t
    · rw [if_pos ⟨hu, by have := hs.nt; have := hd t rfl; omega⟩, if_pos hu]
      exact hrel'
    · have := hst.env u
      rw [getD_put] at this
      simp only [get_put] at this
      rw [if_neg (fun e => hu e.1), if_neg hu] at this ⊢
      exact this.relab1 e1 e2 (noW_of hW u hu)
  · rw [bxs_put] at hl
    obtain ⟨g1, g2, g3⟩ := hst.bxs n l (by rw [bxs_put]; exact hl)
    exact ⟨g1.relab1 e1 e2 (noW_box hW hl), g2, g3⟩
  · replace hb : rg' k b := hb
    by_cases hk : k = T
    · subst hk
      simp only [rg', if_true] at hb
      exact ⟨hb.2, fun _ => Nat.le_trans hs.fr.2.2.2.1 hb.1⟩
    · rw [e1 k hk] at hb; exact hst.rgb k b hb
  · have old : ∀ j b, j ≠ T → rg' j b → b < w.heap.size := fun j b hj hb => by
      rw [e1 j hj, hrge] at hb
      exact (hs.rgb j b hb).1
    replace hb : rg' k b := hb
    replace hb' : rg' k' b := hb'
    by_cases hk : k = T
    · by_cases hk' : k' = T
      · rw [hk, hk']
      · have := old k' b hk' hb'
        subst hk
        simp only [rg', if_true] at hb
        omega
    · by_cases hk' : k' = T
      · have := old k b hk hb
        subst hk'
        simp only [rg', if_true] at hb'
        omega
      · rw [e1 k hk] at hb
        rw [e1 k' hk'] at hb'
        exact hst.rgd k k' b hb hb'
end
/-- what is left when the memory of a label is written: the label's slices as told, the others' as they are -/
def kp (T : Nat) (R : Option (Nat × List AV)) : AV → AV
  | .sl m sz xs => match m.ap with
    | .ow k => if k = T then (match R with | some p => .sl ⟨.ow T, m.fr⟩ p.1 p.2 | none => .un) else .sl ⟨.ow k, m.fr && k != 0⟩ sz xs
    | _ => .un
  | .lit v => .lit v
  | .agg cs => .agg (kpL T R cs)
  | .tup cs => .tup (kpL T R cs)
  | .ptr n i o => .ptr n i o
  | .bs n z l => .bs n z l
  | _ => .un
where kpL (T : Nat) (R : Option (Nat × List AV)) : List AV → List AV
  | [] => []
  | c :: cs => kp T R c :: kpL T R cs
def kpB (T : Nat) (R : Option (Nat × List AV)) : List (Nat × List AV) → List (Nat × List AV)
  | [] => []
  | (n, l) :: b => if (kp.kpL T R l).all (fun e => e.cells.all okC) then (n, kp.kpL T R l) :: kpB T R b else (kpB T R b).filter fun p => p.1 != n
def AS.kp (s : AS) (T : Nat) (R : Option (Nat × List AV)) : AS := ⟨mapV (Vm.kp T R) s.env, kpB T R s.bxs⟩
section
variable {T : Nat} {R : Option (Nat × List AV)}
theorem kpL_get : ∀ (cs : List AV) (j : Nat), (kp.kpL T R cs)[j]? = (cs[j]?).map (kp T R)
  | [], j => by simp [kp.kpL]
  | c :: cs, 0 => by simp [kp.kpL]
  | c :: cs, j + 1 => by simpa [kp.kpL] using kpL_get cs j
theorem kpL_len : ∀ (cs : List AV), (kp.kpL T R cs).length = cs.length
  | [] => rfl
  | c :: cs => by simp [kp.kpL, kpL_len cs]
theorem kp_cells (e : AV) : (kp T R e).cells = kp.kpL T R e.cells := by
  cases e with
  | sl m sz xs =>
    obtain ⟨ap, fr⟩ := m
    cases ap with
    | ow k =>
      by_cases hk : k = T
      · cases R <;> simp [kp, kp.kpL, AV.cells, hk]
      · simp [kp, kp.kpL, AV.cells, hk]
    | _ => simp [kp, kp.kpL, AV.cells]
  | _ => simp [kp, kp.kpL, AV.cells]
theorem get_kp (s : AS) (u : Nat) : (s.kp T R).get u = kp T R (s.get u) := by
  unfold AS.get AS.kp
  simp only [look_mapV]
  cases look s.env u <;> rfl
theorem look_kpB {n : Nat} {l' : List AV} : ∀ {b : List (Nat × List AV)}, look (kpB T R b) n = some l' → ∃ l, l' = kp.kpL T R l ∧ look b n = some l ∧ (kp.kpL T R l).all (fun e => e.cells.all okC) = true
  | [], h => by simp [kpB, look] at h
  | (m, l) :: b, h => by
    simp only [kpB] at h
    simp only [look]
    split at h
    · rename_i hk
      simp only [look] at h
      by_cases hn : n = m
      · rw [if_pos hn] at h ⊢
        exact ⟨l, (Option.some.inj h).symm, rfl, hk⟩
      · rw [if_neg hn] at h ⊢
        exact look_kpB h
    · rw [look_filter] at h
      by_cases hn : n = m
      · rw [if_pos hn] at h; cases h
      · rw [if_neg hn] at h ⊢
        exact look_kpB h
end
end Go.Proofs.YtgegcfhifojjiaaDoor.Vm
/- An abstract machine over values: memory that a law writes itself: calls that write it. -/
namespace Go.Proofs.YtgegcfhifojjiaaDoor.Vm
open Go Go.RowKit
set_option linter.unusedVariables false
set_option linter.unusedSimpArgs false
theorem rng_le (S : Nat → Prop) (G : Gh) : (G.rng S).le G := by
  intro b o v h
  unfold Gh.rng at h
  split at h
  · exact h
  · cases h
theorem rng_some {S : Nat → Prop} {G : Gh} {b o : Nat} {v : Value} : (G.rng S) b o = some v ↔ S b ∧ G b o = some v := by
  unfold Gh.rng
  by_cases h : S b
  · rw [if_pos h]; exact ⟨fun e => ⟨h, e⟩, fun e => e.2⟩
  · rw [if_neg h]; exact ⟨fun e => (by cases e), fun e => absurd e.1 h⟩
theorem rel_kp {x : X} {base T : Nat} {R : Option (Nat × List AV)} {G2 : Gh} (hT : T ≠ 0) (hout : ∀ b, ¬ x.rg T b → ∀ o, G2 b o = x.G b o) (hrgd : ∀ t t' b, x.rg t b → x.rg t' b → t = t') (hrgb : ∀ t b, x.rg t b → t ≠ 0 → base ≤ b)
    (hR : ∀ p, R = some p → 100000 ≤ T ∧ ∀ v, x.rv T = some v → RepD (G2.rng (x.rg T)) v (.sl ro p.1 p.2)) {v : Value} {c : AV} (r : Rel x base v c) : Rel { x with G := G2, tl := fun _ => none } base v (kp T R c) := by
  induction r with
  | un v => exact .un v
  | lit v h => exact .lit v h
  | sl v m sz xs h1 h2 h3 =>
    obtain ⟨ap, fr⟩ := m
    cases ap with
    | no => exact .un _
    | nl => exact .un _
    | cl c => exact .un _
    | ow k =>
      simp only [kp]
      by_cases hk : k = T
      · subst hk
        rw [if_pos rfl]
        cases R with
        | none => exact .un _
        | some p =>
          obtain ⟨q1, q2⟩ := hR p rfl
          have d := q2 v (h3.2 q1)
          refine .sl _ _ _ _ (d.mono (rng_le _ _)).mark (fun _ => (d.mono ?_).mark) ⟨d, h3.2⟩
          intro b o u hu
          obtain ⟨u1, u2⟩ := rng_some.1 hu
          unfold Gh.from
          rw [if_pos (hrgb _ b u1 hT)]; exact u2
      · rw [if_neg hk]
        have d : RepD (G2.rng (x.rg k)) v (.sl ro sz xs) := h3.1.mono (by
          intro b o u hu
          obtain ⟨u1, u2⟩ := rng_some.1 hu
          refine rng_some.2 ⟨u1, ?_⟩
          rw [hout b fun e => hk (hrgd _ _ b u1 e)]; exact u2)
        refine .sl _ _ _ _ (d.mono (rng_le _ _)).mark (fun hf => (d.mono ?_).mark) ⟨d, h3.2⟩
        simp only [Bool.and_eq_true, bne_iff_ne, ne_eq] at hf
        intro b o u hu
        obtain ⟨u1, u2⟩ := rng_some.1 hu
        unfold Gh.from
        rw [if_pos (hrgb _ b u1 hf.2)]; exact u2
  | agg vs cs hs _ ih =>
    refine .agg _ _ (by rw [kpL_len]; exact hs) fun j v d hv hd => ?_
    rw [kpL_get] at hd
    obtain ⟨e, he, rfl⟩ := Option.map_eq_some_iff.1 hd
    exact ih j v e hv he
  | tup vs cs hs _ ih =>
    refine .tup _ _ (by rw [kpL_len]; exact hs) fun j v d hv hd => ?_
    rw [kpL_get] at hd
    obtain ⟨e, he, rfl⟩ := Option.map_eq_some_iff.1 hd
    exact ih j v e hv he
  | ptr n i off => exact Rel.ptr (x := { x with G := G2, tl := fun _ => none }) n i off
  | ep b o fr cs f h1 h2 h3 => exact .un _
  | fn f vs cs hs _ ih => exact .un _
  | bs n sz len cap h hl => exact Rel.bs (x := { x with G := G2, tl := fun _ => none }) n sz len cap h hl
  | hs v sz xs h => exact .un _
  | hp b o cs f h1 h2 => exact .un _
section
variable {E : Env} {x0 x : X} {w0 w : World} {pb nt : Nat} {a : Act} {s : AS}
theorem St.kp (h : St E x0 w0 pb nt x a w s) {T : Nat} {R : Option (Nat × List AV)} {G2 : Gh} {w' : World} (hT : T ≠ 0) (hout : ∀ b, ¬ x.rg T b → ∀ o, G2 b o = x.G b o) (hin : ∀ b, (∀ o, x.G b o = none) → ∀ o, G2 b o = none)
    (hR : ∀ p, R = some p → 100000 ≤ T ∧ ∀ v, x.rv T = some v → RepD (G2.rng (x.rg T)) v (.sl ro p.1 p.2)) (hag : ∀ b o v, x.rg T b → G2 b o = some v → ∃ c ty fz, w'.heap[b]? = some (.cells c ty fz) ∧ c[o]? = some v)
    (hsz : w.heap.size ≤ w'.heap.size) (ho : w'.os = w.os ∧ w'.tape = w.tape ∧ w'.output = w.output) (heq : ∀ b, b < w.heap.size → (¬ x.rg T b ∨ ∀ o, x.G b o = none) → w'.heap[b]? = w.heap[b]?)
    (h00 : ∀ b o v c ty fz, x.rg T b → G2 b o = some v → w'.heap[b]? = some (.cells c ty fz) → fz = (0, 0)) : St E x0 w0 pb nt { x with G := G2, tl := fun _ => none } a w' (s.kp T R) := by
  have hbase := h.fr.2.2.2.1
  have hold : ∀ b, b < w0.heap.size → ¬ x.rg T b := fun b hb e => by have := (h.rgb T b e).2 hT; omega
  refine { df := h.df, nt := h.nt, env := fun t => by rw [get_kp]; exact rel_kp hT hout h.rgd (fun t b hb ht => (h.rgb t b hb).2 ht) hR (h.env t), k := h.k, fr := h.fr.step ho.1 ho.2.1 ho.2.2 hsz (fun k hk _ => heq k (by omega) (.inl (hold k hk))), ag := fun b o v hv => ?_, g1 := fun b o v hv => ?_, g2 := fun b o v hv hb => ?_, pbx := h.pbx, pbl := h.pbl, bxs := fun n l' hl' => ?_, inj := fun n m l1 l2 h1 h2 e => ?_, tl := ⟨fun c b e t ht => (by cases ht), fun c c' b e t e' t' ht => (by cases ht)⟩, tlb := fun c b e t ht => (by cases ht), jp := fun b o hj => ?_, j0 := h.j0, jx := h.jx, uf := fun b o v c ty fz hb hg hh => ?_, rgb := fun t b hb => ⟨Nat.lt_of_lt_of_le (h.rgb t b hb).1 hsz, (h.rgb t b hb).2⟩, rgd := h.rgd, g0 := h.g0 }
  · by_cases hb : x.rg T b
    · exact hag b o v hb hv
    · have hv' : x.G b o = some v := by rw [← hout b hb o]; exact hv
      obtain ⟨c, ty, fz, e1, e2⟩ := h.ag b o v hv'
      exact ⟨c, ty, fz, (heq b (agree_lt h.ag hv') (.inl hb)).trans e1, e2⟩
  · show G2 b o = some v
    rw [hout b (hold b (h.g0 b o v hv)) o]
    exact h.g1 b o v hv
  · have hv' : G2 b o = some v := hv
    rw [hout b (hold b hb) o] at hv'
    exact h.g2 b o v hv' hb
  · obtain ⟨l, rfl, hl, hok⟩ := look_kpB hl'
    obtain ⟨⟨vals, ty, v1, v2, v3, v4⟩, hw, hG⟩ := h.bxs n l hl
    refine ⟨⟨vals, ty, (heq _ (box_lt h hl) (.inr hG)).trans v1, by rw [kpL_len]; exact v2, v3, fun i e he => ?_⟩, hw, hin _ hG⟩
    have hoke := List.all_eq_true.1 hok e (List.mem_of_getElem? he)
    rw [kpL_get] at he
    obtain ⟨e', he', rfl⟩ := Option.map_eq_some_iff.1 he
    obtain ⟨v5, v6⟩ := v4 i e' he'
    refine ⟨by rw [kp_cells, kpL_len]; exact v5, fun j c hc => ?_⟩
    have hokc := List.all_eq_true.1 hoke c (List.mem_of_getElem? hc)
    rw [kp_cells, kpL_get] at hc
    obtain ⟨c', hc', rfl⟩ := Option.map_eq_some_iff.1 hc
    obtain ⟨_, u, v8, v9, v10⟩ := v6 j c' hc'
    exact ⟨hokc, u, v8, v9, rel_kp hT hout h.rgd (fun t b hb ht => (h.rgb t b hb).2 ht) hR v10⟩
  · obtain ⟨l, _, hl, _⟩ := look_kpB h1
    obtain ⟨l', _, hl', _⟩ := look_kpB h2
    exact h.inj n m l l' hl hl' e
  · obtain ⟨vs, ty, q1, q2⟩ := h.jp b o hj
    have := (h.j0 b o hj).1
    exact ⟨vs, ty, (heq b (Array.getElem?_eq_some_iff.1 q1).1 (.inl (hold b this))).trans q1, q2⟩
  · rcases Nat.lt_or_ge b w.heap.size with hlt | hge
    · by_cases hr : x.rg T b
      · exact h00 b o v c ty fz hr hg hh
      · rw [heq b hlt (.inl hr)] at hh
        exact h.uf b o v c ty fz hb ((hout b hr o).symm.trans hg) hh
    · by_cases hr : x.rg T b
      · have := (h.rgb T b hr).1; omega
      · have := agree_lt h.ag ((hout b hr o).symm.trans hg); omega
theorem keep_kp (s : AS) (T : Nat) (R : Option (Nat × List AV)) (t : Nat) (v : AV) : Keep s ((s.kp T R).put t v) (some t) := by
  refine ⟨fun u hu h => ?_, fun u hu h => ?_⟩
  · rw [get_put, if_neg (fun e => hu (by rw [e])), get_kp, h]; rfl
  · rw [bxs_put]
    cases hl : look (s.kp T R).bxs (1000 + u) with
    | none => rfl
    | some l' =>
      obtain ⟨l, _, hl2, _⟩ := look_kpB hl
      rw [h] at hl2; cases hl2
end
/-! junk: nothing is known of what was written -/
def isSl : Value → Bool
  | .slice _ _ _ => true
  | _ => false
/-- data without unknown parts -/
def flat : AV → Bool
  | .lit v => !isSl v
  | .sl _ _ xs => flatL xs
  | .agg cs => flatL cs
  | _ => false
where flatL : List AV → Bool
  | [] => true
  | c :: cs => flat c && flatL cs
def hsE : AV → AV
  | .sl _ sz xs => .hs sz (hsL xs)
  | .agg cs => .agg (hsL cs)
  | _ => .un
where hsL : List AV → List AV
  | [] => []
  | c :: cs => hsE c :: hsL cs
def hsT : AV → AV
  | .sl _ sz xs => .hs sz (hsE.hsL xs)
  | .agg cs => .agg (hsTL cs)
  | x => x
where hsTL : List AV → List AV
  | [] => []
  | c :: cs => hsT c :: hsTL cs
/-- an argument all of whose memory bears the label -/
def okJ (T : Nat) : AV → Bool
  | .lit _ => true
  | .sl m _ xs => (match m.ap with | .ow k => k == T | _ => false) && flat.flatL xs
  | .agg cs => okJL T cs
  | _ => false
where okJL (T : Nat) : List AV → Bool
  | [] => true
  | c :: cs => okJ T c && okJL T cs
theorem hsL_get : ∀ (cs : List AV) (j : Nat), (hsE.hsL cs)[j]? = (cs[j]?).map hsE
  | [], j => by simp [hsE.hsL]
  | c :: cs, 0 => by simp [hsE.hsL]
  | c :: cs, j + 1 => by simpa [hsE.hsL] using hsL_get cs j
theorem hsL_len : ∀ (cs : List AV), (hsE.hsL cs).length = cs.length
  | [] => rfl
  | c :: cs => by simp [hsE.hsL, hsL_len cs]
theorem hsTL_get : ∀ (cs : List AV) (j : Nat), (hsT.hsTL cs)[j]? = (cs[j]?).map hsT
  | [], j => by simp [hsT.hsTL]
  | c :: cs, 0 => by simp [hsT.hsTL]
  | c :: cs, j + 1 => by simpa [hsT.hsTL] using hsTL_get cs j
theorem hsTL_len : ∀ (cs : List AV), (hsT.hsTL cs).length = cs.length
  | [] => rfl
  | c :: cs => by simp [hsT.hsTL, hsTL_len cs]
theorem hsE_cells (e : AV) : (hsE e).cells = hsE.hsL e.cells := by cases e <;> simp [hsE, hsE.hsL, AV.cells]
theorem flatL_get : ∀ {cs : List AV} {j : Nat} {c : AV}, flat.flatL cs = true → cs[j]? = some c → flat c = true
  | [], _, _, _, h => by simp at h
  | y :: cs, 0, c, h, hc => by
    obtain rfl : y = c := by simpa using hc
    simp [flat.flatL] at h; exact h.1
  | y :: cs, j + 1, c, h, hc => by
    simp [flat.flatL] at h
    exact flatL_get (cs := cs) (j := j) h.2 (by simpa using hc)
theorem flat_cell {e : AV} {j : Nat} {c : AV} (h : flat e = true) (hc : e.cells[j]? = some c) : flat c = true := by
  cases e with
  | agg cs => exact flatL_get (cs := cs) (by simpa only [flat] using h) hc
  | _ =>
    cases j with
    | zero => have := Option.some.inj hc; rw [← this]; exact h
    | succ j => simp [AV.cells] at hc
def Gh.hd (G : Gh) : Gh := fun b o => (G b o).filter isSl
def Gh.jk (G : Gh) (b o : Nat) : Prop := ∃ u, G b o = some u ∧ isSl u = false
theorem repH_of {G : Gh} {v : Value} {c : AV} (r : RepD G v c) : ∀ m sz xs, c = .sl m sz xs → flat.flatL xs = true → RepH G.hd G.jk v (.hs sz (hsE.hsL xs)) := by
  induction r with
  | un v => intro m sz xs e; cases e
  | lit v h => intro m sz xs e; cases e
  | sl A n cap m sz xs b o f h1 h2 h3 h4 h5 h6 ih =>
    intro m' sz' xs' e hf
    injection e with _ e2 e3
    subst e2 e3
    have key : ∀ (i : Nat) (y : AV) (j : Nat) (c : AV), (hsE.hsL xs)[i]? = some y → y.cells[j]? = some c → ∃ y' c', xs[i]? = some y' ∧ y'.cells[j]? = some c' ∧ hsE c' = c ∧ flat c' = true := by
      intro i y j c hy hc
      rw [hsL_get] at hy
      obtain ⟨y', hy', rfl⟩ := Option.map_eq_some_iff.1 hy
      rw [hsE_cells, hsL_get] at hc
      obtain ⟨c', hc', rfl⟩ := Option.map_eq_some_iff.1 hc
      exact ⟨y', c', hy', hc', rfl, flat_cell (flatL_get hf hy') hc'⟩
    refine .hs A n cap sz _ b o f (by rw [hsL_len]; exact h1) h2 (fun hne => h3 (fun e => hne (by rw [e]; rfl))) (fun i y hy => ?_) (fun i y j c hy hc e => ?_) (fun i y j c hy hc e => ?_) (fun i y j c hy hc e => ?_)
    · rw [hsL_get] at hy
      obtain ⟨y', hy', rfl⟩ := Option.map_eq_some_iff.1 hy
      rw [hsE_cells, hsL_len]
      exact h4 i y' hy'
    · obtain ⟨y', c', q1, q2, q3, q4⟩ := key i y j c hy hc
      obtain ⟨g1, g2⟩ := h5 i y' j c' q1 q2
      have g3 := h6 i y' j c' q1 q2
      generalize f i j = u0 at g1 g3
      refine ⟨u0, g1, ?_⟩
      cases c' with
      | lit u =>
        cases g3 with
        | lit _ _ => simpa [flat] using q4
      | sl m sz xs => rw [← q3] at e; cases e
      | agg cs => rw [← q3] at e; cases e
      | _ => cases q4
    · obtain ⟨y', c', q1, q2, q3, q4⟩ := key i y j c hy hc
      obtain ⟨g1, g2⟩ := h5 i y' j c' q1 q2
      have g3 := h6 i y' j c' q1 q2
      unfold Gh.hd
      rw [g1]
      generalize f i j = u0 at g1 g3
      cases c' with
      | sl m sz xs => cases g3; rfl
      | lit u => rw [← q3] at e; exact absurd rfl e
      | agg cs => cases g3
      | _ => cases q4
    · obtain ⟨y', c', q1, q2, q3, q4⟩ := key i y j c hy hc
      have g3 := h6 i y' j c' q1 q2
      cases c' with
      | sl m2 sz2 xs2 => rw [← q3]; exact ih i y' j _ q1 q2 m2 sz2 xs2 rfl (by simpa only [flat] using q4)
      | lit u => rw [← q3] at e; exact absurd rfl e
      | agg cs => generalize f i j = u0 at g3; cases g3
      | _ => cases q4
theorem okJL_get {T : Nat} : ∀ {cs : List AV} {j : Nat} {c : AV}, okJ.okJL T cs = true → cs[j]? = some c → okJ T c = true
  | [], _, _, _, h => by simp at h
  | y :: cs, 0, c, h, hc => by
    obtain rfl : y = c := by simpa using hc
    simp [okJ.okJL] at h; exact h.1
  | y :: cs, j + 1, c, h, hc => by
    simp [okJ.okJL] at h
    exact okJL_get (cs := cs) (j := j) h.2 (by simpa using hc)
theorem rel_hsT {x xc : X} {base base' T : Nat} (hG : xc.G = (x.G.rng (x.rg T)).hd) (hJ : xc.J = (x.G.rng (x.rg T)).jk) {v : Value} {a : AV} (r : Rel x base v a) : okJ T a = true → Rel xc base' v (hsT a) := by
  induction r with
  | lit v h => exact fun _ => .lit v h
  | sl v m sz xs h1 h2 h3 =>
    intro hk
    simp only [okJ, Bool.and_eq_true] at hk
    obtain ⟨ap, fr⟩ := m
    cases ap with
    | ow k =>
      obtain rfl : k = T := by simpa using hk.1
      refine .hs _ _ _ ?_
      rw [hG, hJ]
      exact repH_of h3.1 _ _ _ rfl hk.2
    | _ => cases hk.1
  | agg vs cs hs _ ih =>
    intro hk
    refine .agg _ _ (by rw [hsTL_len]; exact hs) fun j v d hv hd => ?_
    rw [hsTL_get] at hd
    obtain ⟨e, he, rfl⟩ := Option.map_eq_some_iff.1 hd
    exact ih j v e hv he (okJL_get (by simpa only [okJ] using hk) he)
  | un v => intro hk; cases hk
  | tup => intro hk; cases hk
  | ptr => intro hk; cases hk
  | ep => intro hk; cases hk
  | fn => intro hk; cases hk
  | bs => intro hk; cases hk
  | hs => intro hk; cases hk
  | hp => intro hk; cases hk
section
variable {E : Env} {s : AS}
/-- A call that writes into all memory of a label, in no known way. -/
theorem vcall_junk {t T f : Nat} {kv rv : Value} {av : AV} {Q : AS → Prop} (hF : Fx E f [] [hsT av, .lit kv] [] (.lit rv)) (hT : T ≠ 0) (ha : okJ T av = true) {l : Lk Q} (h4 : Q ((s.kp T none).put t (.lit rv))) : Xc E false s (some t) f [av, .lit kv] Q l := by
  refine .inr ⟨rfl, fun x0 w0 pb nt x a w hs hK hd args hl hr => ?_⟩
  have hbase := hs.fr.2.2.2.1
  let xc : X := { G := (x.G.rng (x.rg T)).hd, bx := x.bx, bz := x.bz, tl := fun _ => none, rg := fun _ _ => False, J := (x.G.rng (x.rg T)).jk, rv := fun _ => none }
  have hle : xc.G.le x.G := by
    intro b o u hu
    have hu : ((x.G.rng (x.rg T)) b o).filter isSl = some u := hu
    rw [Option.filter_eq_some_iff] at hu
    exact (rng_some.1 hu.1).2
  have hjk : ∀ b o, xc.J b o → x.rg T b ∧ ∃ u, x.G b o = some u ∧ isSl u = false := by
    rintro b o ⟨u, hu, hs⟩
    exact ⟨(rng_some.1 hu).1, u, (rng_some.1 hu).2, hs⟩
  have hjok : JOk xc.J w := by
    intro b o hj
    obtain ⟨h1, u, h2, h3⟩ := hjk b o hj
    obtain ⟨c, ty, fz, e1, e2⟩ := hs.ag b o u h2
    obtain rfl := hs.uf b o u c ty fz ((hs.rgb T b h1).2 hT) h2 e1
    exact ⟨c, ty, e1, (Array.getElem?_eq_some_iff.1 e2).1⟩
  refine (hF.2.2 xc w args (hs.K hK) (fun _ => rfl) (fun n hn => by simp at hn) ⟨hjok, fun b o hj => ?_, fun _ _ h => h⟩ (by simpa using hl) (fun i v c hv hc => ?_) (fun b o v hv => hs.ag b o v (hle _ _ _ hv)) (fun n l hl => by simp at hl) (fun n m hn => by simp at hn)).mono ?_
  · obtain ⟨h1, u, h2, h3⟩ := hjk b o hj
    refine ⟨by have := E.hg _ hs.k; have := (hs.rgb T b h1).2 hT; omega, ?_, fun n hn => by simp at hn⟩
    show ((x.G.rng (x.rg T)) b o).filter isSl = none
    rw [(rng_some (G := x.G) (S := x.rg T)).2 ⟨h1, h2⟩]
    simp [h3]
  · match i with
    | 0 =>
      obtain rfl : hsT av = c := by simpa using hc
      exact rel_hsT (T := T) rfl rfl (hr 0 v av hv rfl) ha
    | 1 =>
      obtain rfl : AV.lit kv = c := by simpa using hc
      have := hr 1 v (.lit kv) hv rfl
      cases this with
      | lit _ h => exact .lit _ h
    | i + 2 => simp at hc
  · rintro e w' ⟨v, x2, rfl, g1, g2, g3, g4, ⟨w1, w2, w3, w4, w5⟩, g6, g7, g8, g9, g10⟩
    have hv : v = rv := g1.lit_inv
    subst hv
    have hlit : v.oneCell' = true := by cases g1 with | lit _ h => exact h
    have hsb : ∀ b, SBx 0 xc b → x.rg T b ∧ ∃ o u, x.G b o = some u := by
      rintro b (⟨n, hn, _⟩ | ⟨o, ho⟩)
      · omega
      · obtain ⟨h1, u, h2, _⟩ := hjk b o ho
        exact ⟨h1, o, u, h2⟩
    have hheq : ∀ b, b < w.heap.size → (¬ x.rg T b ∨ ∀ o, x.G b o = none) → w'.heap[b]? = w.heap[b]? := by
      intro b hb hh
      refine w5 b hb fun hsx => ?_
      obtain ⟨q1, o, u, q2⟩ := hsb b hsx
      rcases hh with hh | hh
      · exact hh q1
      · rw [hh o] at q2; cases q2
    have hst := hs.kp (T := T) (R := none) (G2 := x.G.rng fun b => ¬ x.rg T b) (w' := w') hT (fun b hb o => by unfold Gh.rng; rw [if_pos hb]) (fun b hb o => by unfold Gh.rng; split; exact hb o; rfl) (fun p e => by cases e) (fun b o v hb hv => absurd hb (rng_some.1 hv).1) w4 ⟨w1, w2, w3⟩ hheq (fun b o v c ty fz hb hg hh => absurd hb (rng_some.1 hg).1)
    · exact ⟨v, _, _, rfl, h4, keep_kp _ _ _ _ _, hst.put hd (.lit v hlit)⟩
end
end Go.Proofs.YtgegcfhifojjiaaDoor.Vm
/- An abstract machine over values: memory that a law writes itself: a row, cell for cell; a law's arguments. -/
namespace Go.Proofs.YtgegcfhifojjiaaDoor.Vm
open Go Go.RowKit
set_option linter.unusedVariables false
set_option linter.unusedSimpArgs false
/-- the one slice in it bears the label and holds just this -/
def okT (T sz : Nat) (xs : List AV) : AV → Prop
  | .lit _ => True
  | .sl m z ys => m.ap = .ow T ∧ z = sz ∧ ys = xs
  | .agg cs => okTL T sz xs cs
  | _ => False
where okTL (T sz : Nat) (xs : List AV) : List AV → Prop
  | [] => True
  | c :: cs => okT T sz xs c ∧ okTL T sz xs cs
def bsT : AV → AV
  | .sl _ sz xs => .bs 0 sz xs.length
  | .agg cs => .agg (bsTL cs)
  | x => x
where bsTL : List AV → List AV
  | [] => []
  | c :: cs => bsT c :: bsTL cs
theorem bsTL_get : ∀ (cs : List AV) (j : Nat), (bsT.bsTL cs)[j]? = (cs[j]?).map bsT
  | [], j => by simp [bsT.bsTL]
  | c :: cs, 0 => by simp [bsT.bsTL]
  | c :: cs, j + 1 => by simpa [bsT.bsTL] using bsTL_get cs j
theorem bsTL_len : ∀ (cs : List AV), (bsT.bsTL cs).length = cs.length
  | [] => rfl
  | c :: cs => by simp [bsT.bsTL, bsTL_len cs]
theorem okTL_get {T sz : Nat} {xs : List AV} : ∀ {cs : List AV} {j : Nat} {c : AV}, okT.okTL T sz xs cs → cs[j]? = some c → okT T sz xs c
  | [], _, _, _, h => by simp at h
  | y :: cs, 0, c, h, hc => by
    obtain rfl : y = c := by simpa using hc
    exact h.1
  | y :: cs, j + 1, c, h, hc => okTL_get (cs := cs) (j := j) h.2 (by simpa using hc)
/-- somewhere in it there is a slice -/
def hasT : AV → Bool
  | .sl _ _ _ => true
  | .agg cs => hasTL cs
  | _ => false
where hasTL : List AV → Bool
  | [] => false
  | c :: cs => hasT c || hasTL cs
theorem hasTL_get : ∀ {cs : List AV}, hasT.hasTL cs = true → ∃ (j : Nat) (c : AV), cs[j]? = some c ∧ hasT c = true
  | [], h => by cases h
  | c :: cs, h => by
    simp only [hasT.hasTL, Bool.or_eq_true] at h
    rcases h with h | h
    · exact ⟨0, c, rfl, h⟩
    · obtain ⟨j, d, h1, h2⟩ := hasTL_get h
      exact ⟨j + 1, d, by simpa using h1, h2⟩
theorem okT_rv {x : X} {base T sz : Nat} {xs : List AV} (hT : 100000 ≤ T) {v : Value} {a : AV} (r : Rel x base v a) : okT T sz xs a → hasT a = true → ∃ v0, x.rv T = some v0 ∧ RepD (x.G.rng (x.rg T)) v0 (.sl ro sz xs) := by
  induction r with
  | sl v m z ys h1 h2 h3 =>
    rintro ⟨e1, rfl, rfl⟩ _
    rw [e1] at h3
    exact ⟨v, h3.2 hT, h3.1⟩
  | agg vs cs hs _ ih =>
    intro hk hh
    obtain ⟨j, c, hc, hh⟩ := hasTL_get (by simpa only [hasT] using hh)
    have hlt : j < vs.size := by rw [hs]; exact (List.getElem?_eq_some_iff.1 hc).1
    exact ih j vs[j] c (Array.getElem?_eq_getElem hlt) hc (okTL_get (by simpa only [okT] using hk) hc) hh
  | lit v h => intro _ hh; cases hh
  | un v => intro hk; exact hk.elim
  | tup => intro hk; exact hk.elim
  | ptr => intro hk; exact hk.elim
  | ep => intro hk; exact hk.elim
  | fn => intro hk; exact hk.elim
  | bs => intro hk; exact hk.elim
  | hs => intro hk; exact hk.elim
  | hp => intro hk; exact hk.elim
theorem rel_bsT {x xc : X} {base base' T sz n cap : Nat} {xs : List AV} {A : Addr} (hT : 100000 ≤ T) (hn : n = xs.length) (hrv : x.rv T = some (.slice (some A) n cap)) (hA : A = ⟨xc.bx 0, (xc.bz 0).2, none⟩) (hz : (xc.bz 0).1 = sz) (hc : n ≤ cap) {v : Value} {a : AV} (r : Rel x base v a) : okT T sz xs a → Rel xc base' v (bsT a) := by
  induction r with
  | sl v m z ys h1 h2 h3 =>
    rintro ⟨e1, rfl, rfl⟩
    rw [e1] at h3
    have := h3.2 hT
    rw [hrv] at this
    rw [← Option.some.inj this, hA, hn]
    exact Rel.bs (x := xc) 0 z ys.length cap hz (by omega)
  | agg vs cs hs _ ih =>
    intro hk
    refine .agg _ _ (by rw [bsTL_len]; exact hs) fun j v d hv hd => ?_
    rw [bsTL_get] at hd
    obtain ⟨e, he, rfl⟩ := Option.map_eq_some_iff.1 hd
    exact ih j v e hv he (okTL_get (by simpa only [okT] using hk) he)
  | lit v h => exact fun _ => .lit v h
  | un v => intro hk; exact hk.elim
  | tup => intro hk; exact hk.elim
  | ptr => intro hk; exact hk.elim
  | ep => intro hk; exact hk.elim
  | fn => intro hk; exact hk.elim
  | bs => intro hk; exact hk.elim
  | hs => intro hk; exact hk.elim
  | hp => intro hk; exact hk.elim
/-- a row of plain cells -/
def rowOk (sz : Nat) (xs : List AV) : Bool := xs.all fun e => decide (e.cells.length = sz) && e.cells.all isLit
theorem rowOk_get {sz : Nat} {xs : List AV} (h : rowOk sz xs = true) {i : Nat} {e : AV} (he : xs[i]? = some e) : e.cells.length = sz ∧ ∀ (j : Nat) (c : AV), e.cells[j]? = some c → ∃ u, c = .lit u := by
  have := List.all_eq_true.1 h e (List.mem_of_getElem? he)
  simp only [Bool.and_eq_true, decide_eq_true_eq] at this
  refine ⟨this.1, fun j c hc => ?_⟩
  have h2 := List.all_eq_true.1 this.2 c (List.mem_of_getElem? hc)
  cases c <;> first | exact ⟨_, rfl⟩ | cases h2
section
variable {E : Env} {s : AS}
/-- A call that writes into the row of a label, cell for cell. -/
theorem vcall_row {t T f sz : Nat} {kv rv : Value} {av : AV} {xs ys : List AV} {Q : AS → Prop} (hF : Fx E f [xs] [bsT av, .lit kv] [ys] (.lit rv)) (hT : 100000 ≤ T) (ha : okT T sz xs av) (hh : hasT av = true) (h0 : 0 < sz) (hne : xs ≠ []) (hxs : rowOk sz xs = true) (hys : rowOk sz ys = true) (hlen : ys.length = xs.length) {l : Lk Q} (h4 : Q ((s.kp T (some (sz, ys))).put t (.lit rv))) : Xc E false s (some t) f [av, .lit kv] Q l := by
  refine .inr ⟨rfl, fun x0 w0 pb nt x a w hs hK hd args hl hr => ?_⟩
  have hT0 : T ≠ 0 := by omega
  have hlt0 : 0 < args.size := by rw [hl]; simp
  have hra := hr 0 args[0] av (Array.getElem?_eq_getElem hlt0) rfl
  obtain ⟨v0, hv0, hrep⟩ := okT_rv hT hra ha hh
  obtain ⟨A, n, cap, b, o, f0, rfl, hn, hcap, rfl, hlenx, hcell, hrepc⟩ : ∃ (A : Option Addr) (n cap b o : Nat) (f0 : Nat → Nat → Value), v0 = .slice A n cap ∧ n = xs.length ∧ n ≤ cap ∧ A = some ⟨b, o, none⟩ ∧ (∀ (i : Nat) (x : AV), xs[i]? = some x → x.cells.length = sz) ∧ (∀ (i : Nat) (y : AV) (j : Nat) (c : AV), xs[i]? = some y → y.cells[j]? = some c → (x.G.rng (x.rg T)) b (o + i * sz + j) = some (f0 i j) ∧ (f0 i j).oneCell' = true) ∧
      ∀ (i : Nat) (y : AV) (j : Nat) (c : AV), xs[i]? = some y → y.cells[j]? = some c → RepD (x.G.rng (x.rg T)) (f0 i j) c := by
    cases hrep with
    | sl A n cap _ _ _ b o f h1 h2 h3 h4 h5 h6 => exact ⟨A, n, cap, b, o, f, rfl, h1, h2, h3 hne, h4, h5, h6⟩
  have hpos : 0 < xs.length := List.length_pos_iff.2 hne
  -- the block
  have hfact : ∀ i j, i < xs.length → j < sz → (x.G.rng (x.rg T)) b (o + i * sz + j) = some (f0 i j) ∧ (f0 i j).oneCell' = true := by
    intro i j hi hj
    have he := List.getElem?_eq_getElem hi
    obtain ⟨e1, e2⟩ := rowOk_get hxs he
    exact hcell i _ j (xs[i].cells[j]'(by omega)) he (List.getElem?_eq_getElem _)
  have hb : x.rg T b := (rng_some.1 (hfact 0 0 hpos h0).1).1
  have hbb := hs.rgb T b hb
  have hb0 := hbb.2 hT0
  obtain ⟨vals, ty, fz, hv1, hv2⟩ := hs.ag b _ _ (rng_some.1 (hfact 0 0 hpos h0).1).2
  obtain rfl := hs.uf b _ _ vals ty fz hb0 (rng_some.1 (hfact 0 0 hpos h0).1).2 hv1
  have hval : ∀ i j, i < xs.length → j < sz → vals[o + i * sz + j]? = some (f0 i j) := by
    intro i j hi hj
    obtain ⟨c, ty', fz', e1, e2⟩ := hs.ag b _ _ (rng_some.1 (hfact i j hi hj).1).2
    rw [hv1] at e1
    injection e1 with e1; injection e1 with e1
    rw [e1]; exact e2
  have hend : o + xs.length * sz ≤ vals.size := by
    have := (Array.getElem?_eq_some_iff.1 (hval (xs.length - 1) (sz - 1) (by omega) (by omega))).1
    have e : xs.length * sz = (xs.length - 1) * sz + sz := by
      conv => lhs; rw [show xs.length = (xs.length - 1) + 1 by omega]
      rw [Nat.add_mul]; omega
    omega
  let xc : X := { G := fun _ _ => none, bx := fun _ => b, bz := fun _ => (sz, o), tl := fun _ => none, rg := fun _ _ => False, J := fun _ _ => False, rv := fun _ => none }
  refine (hF.2.2 xc w args (hs.K hK) (fun _ => rfl) (fun n hn => by show E.ng ≤ b; have := E.hg _ hs.k; omega) ⟨fun b o h => h.elim, fun b o h => h.elim, fun _ _ h => h⟩ (by simpa using hl) (fun i v c hv hc => ?_) (fun b o v hv => by cases hv) (fun k l hk => ?_) (fun n m hn hm _ => by simp at hn hm; omega)).mono ?_
  · match i with
    | 0 =>
      obtain rfl : bsT av = c := by simpa using hc
      exact rel_bsT (xc := xc) hT hn hv0 rfl rfl hcap (hr 0 v av hv rfl) ha
    | 1 =>
      obtain rfl : AV.lit kv = c := by simpa using hc
      have := hr 1 v (.lit kv) hv rfl
      cases this with
      | lit _ h => exact .lit _ h
    | i + 2 => simp at hc
  · cases k with
    | succ k => simp at hk
    | zero =>
      obtain rfl : xs = l := by simpa using hk
      refine ⟨⟨vals, ty, hv1, hend, h0, fun i e he => ?_⟩, fun o => rfl⟩
      obtain ⟨e1, e2⟩ := rowOk_get hxs he
      refine ⟨e1, fun j c hc => ?_⟩
      obtain ⟨u, rfl⟩ := e2 j c hc
      have hi := (List.getElem?_eq_some_iff.1 he).1
      have hj : j < sz := by have := (List.getElem?_eq_some_iff.1 hc).1; omega
      have hr := hrepc i e j _ he hc
      have hv := hval i j hi hj
      generalize f0 i j = q at hr hv
      cases hr with
      | lit _ hu => exact ⟨rfl, _, hv, hu, .lit _ hu⟩
  · rintro e w' ⟨v, x2, rfl, g1, g2, g3, g4, ⟨w1, w2, w3, w4, w5⟩, g6, g7, g8, g9, g10⟩
    have hv : v = rv := g1.lit_inv
    subst hv
    have hlit : v.oneCell' = true := by cases g1 with | lit _ h => exact h
    obtain ⟨q1, q2⟩ := g6 0 (by simp)
    obtain ⟨⟨vals', ty', z1, z2, z3, z4⟩, _⟩ := g7 0 ys rfl
    rw [q1] at z1
    rw [q2] at z2 z3 z4
    replace z1 : w'.heap[b]? = some (.cells vals' ty' (0, 0)) := z1
    replace z2 : o + ys.length * sz ≤ vals'.size := z2
    let G2 : Gh := fun b' o' => @ite _ (x.rg T b') (Classical.propDecidable _) (if b' = b ∧ o ≤ o' ∧ o' < o + ys.length * sz then vals'[o']? else none) (x.G b' o')
    have hG2in : ∀ b' o', x.rg T b' → G2 b' o' = if b' = b ∧ o ≤ o' ∧ o' < o + ys.length * sz then vals'[o']? else none := fun b' o' h => if_pos h
    have hG2out : ∀ b' o', ¬ x.rg T b' → G2 b' o' = x.G b' o' := fun b' o' h => if_neg h
    have hsb : ∀ k, k < w.heap.size → k ≠ b → w'.heap[k]? = w.heap[k]? := by
      intro k hk hkb
      refine w5 k hk ?_
      rintro (⟨n, hn, e⟩ | ⟨o, ho⟩)
      · exact hkb e
      · exact ho
    have hheq : ∀ b', b' < w.heap.size → (¬ x.rg T b' ∨ ∀ o, x.G b' o = none) → w'.heap[b']? = w.heap[b']? := by
      intro b' hb' hh'
      refine hsb b' hb' ?_
      rintro rfl
      rcases hh' with hh' | hh'
      · exact hh' hb
      · have := (rng_some.1 (hfact 0 0 hpos h0).1).2
        rw [hh'] at this; cases this
    have hnewrep : RepD (G2.rng (x.rg T)) (.slice (some ⟨b, o, none⟩) n cap) (.sl ro sz ys) := by
      have hlt : ∀ i j, i < ys.length → j < sz → o + i * sz + j < o + ys.length * sz := by
        intro i j hi hj
        have : (i + 1) * sz ≤ ys.length * sz := Nat.mul_le_mul_right _ hi
        rw [Nat.add_mul] at this
        omega
      refine .sl _ n cap _ _ _ b o (fun i j => (vals'[o + i * sz + j]?).getD undef) (by omega) hcap (fun _ => rfl) (fun i y hy => (rowOk_get hys hy).1) (fun i y j c hy hc => ?_) (fun i y j c hy hc => ?_)
      · obtain ⟨e1, e2⟩ := z4 i y hy
        obtain ⟨_, u, u1, u2, _⟩ := e2 j c hc
        have hi := (List.getElem?_eq_some_iff.1 hy).1
        have hj : j < sz := by have := (List.getElem?_eq_some_iff.1 hc).1; have := (rowOk_get hys hy).1; omega
        replace u1 : vals'[o + i * sz + j]? = some u := u1
        rw [u1]
        refine ⟨rng_some.2 ⟨hb, ?_⟩, u2⟩
        rw [hG2in _ _ hb, if_pos ⟨rfl, by omega, hlt i j hi hj⟩]
        exact u1
      · obtain ⟨e1, e2⟩ := z4 i y hy
        obtain ⟨_, u, u1, u2, u3⟩ := e2 j c hc
        replace u1 : vals'[o + i * sz + j]? = some u := u1
        rw [u1]
        obtain ⟨q, rfl⟩ := (rowOk_get hys hy).2 j c hc
        cases u3 with
        | lit _ hq => exact .lit _ hq
    have hst := hs.kp (T := T) (R := some (sz, ys)) (G2 := G2) (w' := w') hT0 (fun b' hb' o' => hG2out b' o' hb') (fun b' hb' o' => ?_) (fun p hp => ?_) (fun b' o' u hb' hu => ?_) w4 ⟨w1, w2, w3⟩ hheq (fun b' o' u c ty2 fz2 hb' hg' hh' => ?_)
    · exact ⟨v, _, _, rfl, h4, keep_kp _ _ _ _ _, hst.put hd (.lit v hlit)⟩
    · by_cases hr' : x.rg T b'
      · rw [hG2in _ _ hr', if_neg]
        rintro ⟨rfl, _⟩
        have := (rng_some.1 (hfact 0 0 hpos h0).1).2
        rw [hb'] at this; cases this
      · rw [hG2out _ _ hr']; exact hb' o'
    · obtain rfl := Option.some.inj hp
      refine ⟨hT, fun u hu => ?_⟩
      rw [hv0] at hu
      rw [← Option.some.inj hu]
      exact hnewrep
    · rw [hG2in _ _ hb'] at hu
      split at hu
      · rename_i hc
        obtain ⟨rfl, _, _⟩ := hc
        exact ⟨vals', ty', _, z1, hu⟩
      · cases hu
    · rw [hG2in _ _ hb'] at hg'
      split at hg'
      · rename_i hc
        obtain ⟨rfl, _, _⟩ := hc
        rw [z1] at hh'
        injection hh' with hh'; injection hh' with _ _ e3; exact e3.symm
      · cases hg'
end
/-- The memory of a law's arguments gets the label 0. -/
theorem rel_own0 {x : X} {base : Nat} {w : World} (hag : Agree x.G w) {v : Value} {a : AV} (r : Rel x base v a) : dat a = true → frA (.sl ro 1 []) = false → Rel { x with rg := fun k b => k = 0 ∧ b < w.heap.size } base v (ownA 0 false a) := by
  induction r with
  | un v => exact fun _ _ => .un v
  | lit v h => exact fun _ _ => .lit v h
  | sl v m sz xs h1 h2 h3 =>
    intro _ _
    refine .sl _ _ _ _ h1.mark (fun hf => by cases hf) ⟨(h1.mono ?_).mark, fun h => by omega⟩
    intro b o u hu
    exact rng_some.2 ⟨⟨rfl, agree_lt hag hu⟩, hu⟩
  | agg vs cs hs _ ih =>
    intro hd hz
    refine .agg _ _ (by rw [ownL_len]; exact hs) fun j v d hv hdd => ?_
    rw [ownL_get] at hdd
    obtain ⟨e, he, rfl⟩ := Option.map_eq_some_iff.1 hdd
    exact ih j v e hv he (datL_get (by simpa only [dat] using hd) he) hz
  | tup => intro hd; cases hd
  | ptr => intro hd; cases hd
  | ep => intro hd; cases hd
  | fn => intro hd; cases hd
  | bs => intro hd; cases hd
  | hs => intro hd; cases hd
  | hp => intro hd; cases hd
theorem Is.fxo {E : Env} {f nt : Nat} {vc : VC} {rs : List VR} (h : Is E.P f nt vc rs) {args : List AV} {r : AV} (hda : dat.datL args = true) (hlen : args.length ≤ nt) (hres : resOk r = true) (hv : Xe E vc ⟨enum 0 (ownA.ownL 0 false args), []⟩ (Fin rs r []) .mk) : Fx E f [] args [] r := by
  obtain ⟨fn, dr, h1, h2, h3, h4, h5⟩ := h.ex
  refine Fx_of h1 h2 h3 h4 (fun _ _ _ hK id ops os Q x a w s => draw_sound hK id ops os Q x a w s) [] (s0 := ⟨enum 0 (ownA.ownL 0 false args), []⟩) (fun x a w hrg _ hst => ?_) (by rw [h5]; exact hlen) (by simp) rfl ⟨hres, rfl, rfl⟩ (vx_mono _ _ _ _ hv ?_)
  · refine ⟨{ x with rg := fun k b => k = 0 ∧ b < w.heap.size }, { hst with env := fun t => ?_, bxs := fun n l hl => (by cases hl), rgb := fun k b hb => ⟨hb.2, fun hk => absurd hb.1 hk⟩, rgd := fun k k' b hb hb' => hb.1.trans hb'.1.symm }⟩
    have he := hst.env t
    unfold AS.get at he ⊢
    simp only [look_enum, Nat.zero_le, if_true, Nat.sub_zero] at he ⊢
    rw [ownL_get]
    cases hc : args[t]? with
    | none => exact .un _
    | some c =>
      rw [hc] at he
      exact rel_own0 hst.ag he (datL_get hda hc) rfl
  · rintro e s ⟨he, s1, hw, l, g1, g2⟩
    exact ⟨he, s1, hw, l, g1, g2, [], rfl, rfl⟩
end Go.Proofs.YtgegcfhifojjiaaDoor.Vm
