/- The walks and laws of this claim: Vc. -/
import Derived.Deep.Slices
import Derived.ChangeSame
import Derived.SizedLaws
import Derived.ChangeSlices
import Derived.OpenShut
import Derived.Carry
import Derived.Test.YticockdhfglolaaGreatDoorPa2
/- An abstract machine over values: steps, for simp. -/
namespace Go.Proofs.YticockdhfglolaaGreatDoor.Vm
open Go Go.RowKit
set_option linter.unusedVariables false
set_option linter.unusedSimpArgs false
def by8 (s : String) : ByteArray := s.toUTF8
def dl (l : List (Nat × List Nat)) (i : Nat) : List Nat := (look l i).getD []
/-- keeps simp out of what it speaks of -/
inductive Lk {α : Type} (a : α) : Type
  | mk
/-- a fork, by a value; nothing behind it is looked at before the value is known -/
def fk (v : AV) (w : Bool) (A B : Prop) (_ : Lk (A, B)) : Prop := ∃ b, v = .lit (.bool b) ∧ if b = w then A else B
theorem fk_same {b : Bool} {A B : Prop} (l : Lk (A, B)) : fk (.lit (.bool b)) b A B l = A := by unfold fk; simp
theorem fk_tf {A B : Prop} (l : Lk (A, B)) : fk (.lit (.bool true)) false A B l = B := by unfold fk; simp
theorem fk_ft {A B : Prop} (l : Lk (A, B)) : fk (.lit (.bool false)) true A B l = B := by unfold fk; simp
/-- a guard -/
def gk (v : AV) (w : Bool) (A B : Prop) (_ : Lk (A, B)) : Prop := ∃ b, gOf v = some b ∧ if b = some w then A else B
theorem gk_same {b : Bool} {A B : Prop} (l : Lk (A, B)) : gk (.lit (.bool b)) b A B l = A := by unfold gk; simp [gOf]
theorem gk_tf {A B : Prop} (l : Lk (A, B)) : gk (.lit (.bool true)) false A B l = B := by unfold gk; simp [gOf]
theorem gk_ft {A B : Prop} (l : Lk (A, B)) : gk (.lit (.bool false)) true A B l = B := by unfold gk; simp [gOf]
theorem gk_no {w : Bool} {A B : Prop} (l : Lk (A, B)) : gk (.tup []) w A B l = B := by unfold gk; simp [gOf]
/-- a value that there must be -/
def wh {α : Type} (o : Option α) (K : α → Prop) (_ : Lk K) : Prop := ∃ v, o = some v ∧ K v
theorem wh_some {α : Type} (v : α) (K : α → Prop) (l : Lk K) : wh (some v) K l = K v := by unfold wh; simp
theorem wh_map {α β : Type} (o : Option α) (f : α → β) (K : β → Prop) (l : Lk K) : wh (o.map f) K l = wh o (fun v => K (f v)) .mk := by unfold wh; cases o <;> simp
theorem wh_ite {α : Type} (c : Prop) [Decidable c] (v : α) (K : α → Prop) (l : Lk K) : wh (if c then some v else none) K l = (c ∧ K v) := by unfold wh; split <;> simp [*]
theorem wh_of {α : Type} {o : Option α} {v : α} {K : α → Prop} {l : Lk K} (h : o = some v) (hk : K v) : wh o K l := ⟨v, h, hk⟩
def strOf : AV → Option ByteArray
  | .lit (.string b) => some b
  | _ => none
def intOf : AV → Option Int
  | .lit (.int _ i) => some i
  | _ => none
def intKOf : AV → Option (IntKind × Int)
  | .lit (.int k i) => some (k, i)
  | _ => none
theorem intKOf_some {v : AV} {p : IntKind × Int} : intKOf v = some p ↔ v = .lit (.int p.1 p.2) := by
  unfold intKOf; split
  · rename_i k j; obtain ⟨k', i⟩ := p; simp
  · rename_i h; simp only [reduceCtorEq, false_iff]; rintro rfl; exact h _ _ rfl
theorem strOf_some {v : AV} {b : ByteArray} : strOf v = some b ↔ v = .lit (.string b) := by
  unfold strOf; split <;> simp_all
theorem intOf_some {v : AV} {i : Int} : intOf v = some i ↔ ∃ k, v = .lit (.int k i) := by
  unfold intOf; split
  · rename_i k j; simp
  · rename_i h; simp only [reduceCtorEq, false_iff]; rintro ⟨k, rfl⟩; exact h k i rfl
def iaK (sz : Nat) (v : AV) (j : Int) (K : AV → Prop) (_ : Lk K) : Prop := match v with
  | .sl m z xs => z = sz ∧ wh xs[j.toNat]? (fun e => K (.ep m.fr e.cells)) .mk
  | .bs n z l => z = sz ∧ j < l ∧ K (.ptr n j.toNat 0)
  | .hs z xs => z = sz ∧ wh xs[j.toNat]? (fun e => K (.hp e.cells)) .mk
  | _ => False
theorem iaK_sl (sz : Nat) (m : Mk) (xs : List AV) (j : Int) (K : AV → Prop) (l : Lk K) : iaK sz (.sl m sz xs) j K l = wh xs[j.toNat]? (fun e => K (.ep m.fr e.cells)) .mk := by simp [iaK]
theorem iaK_hs (sz : Nat) (xs : List AV) (j : Int) (K : AV → Prop) (l : Lk K) : iaK sz (.hs sz xs) j K l = wh xs[j.toNat]? (fun e => K (.hp e.cells)) .mk := by simp [iaK]
theorem iaK_bs (sz n l : Nat) (j : Int) (K : AV → Prop) (q : Lk K) : iaK sz (.bs n sz l) j K q = (j < l ∧ K (.ptr n j.toNat 0)) := by simp [iaK]
def faK (off : Nat) (v : AV) (K : AV → Prop) (_ : Lk K) : Prop := match v with
  | .ep fr cs => off ≤ cs.length ∧ K (.ep fr (cs.drop off))
  | .ptr n i o => K (.ptr n i (o + off))
  | .hp cs => off ≤ cs.length ∧ K (.hp (cs.drop off))
  | _ => False
theorem faK_ep (off : Nat) (fr : Bool) (cs : List AV) (K : AV → Prop) (l : Lk K) : faK off (.ep fr cs) K l = (off ≤ cs.length ∧ K (.ep fr (cs.drop off))) := propext Iff.rfl
theorem faK_hp (off : Nat) (cs : List AV) (K : AV → Prop) (l : Lk K) : faK off (.hp cs) K l = (off ≤ cs.length ∧ K (.hp (cs.drop off))) := propext Iff.rfl
theorem faK_ptr (off n i o : Nat) (K : AV → Prop) (l : Lk K) : faK off (.ptr n i o) K l = K (.ptr n i (o + off)) := propext Iff.rfl
def hsOf : List AV → Option (Nat × List AV)
  | .hs z ys :: _ => some (z, ys)
  | _ => none
theorem hsOf_some {cs : List AV} {z : Nat} {ys : List AV} : hsOf cs = some (z, ys) ↔ cs[0]? = some (.hs z ys) := by
  unfold hsOf
  split
  · simp
  · rename_i h
    simp only [reduceCtorEq, false_iff]
    intro hc
    cases cs with
    | nil => simp at hc
    | cons c cs =>
      obtain rfl : c = .hs z ys := by simpa using hc
      exact h z ys cs rfl
def ldK (ag : Bool) (sz : Nat) (bxs : List (Nat × List AV)) (v : AV) (K : AV → Prop) (_ : Lk K) : Prop := match v with
  | .ep fr cs => if ag then sz ≤ cs.length ∧ K (.agg (mkF.mkL fr (cs.take sz))) else wh cs[0]? (fun c => K (mkF fr c)) .mk
  | .ptr n i o => wh (look bxs n) (fun l => wh l[i]? (fun e => if ag then o + sz ≤ e.cells.length ∧ K (.agg ((e.cells.drop o).take sz)) else wh e.cells[o]? K .mk) .mk) .mk
  | .hp cs => ag = false ∧ wh (hsOf cs) (fun p => K (.hs p.1 p.2)) .mk
  | _ => False
theorem ldK_hp (sz : Nat) (bxs : List (Nat × List AV)) (cs : List AV) (K : AV → Prop) (l : Lk K) : ldK false sz bxs (.hp cs) K l = wh (hsOf cs) (fun p => K (.hs p.1 p.2)) .mk := by simp [ldK]
theorem ldK_epA (sz : Nat) (bxs : List (Nat × List AV)) (fr : Bool) (cs : List AV) (K : AV → Prop) (l : Lk K) : ldK true sz bxs (.ep fr cs) K l = (sz ≤ cs.length ∧ K (.agg (mkF.mkL fr (cs.take sz)))) := propext Iff.rfl
theorem ldK_ep (sz : Nat) (bxs : List (Nat × List AV)) (fr : Bool) (cs : List AV) (K : AV → Prop) (l : Lk K) : ldK false sz bxs (.ep fr cs) K l = wh cs[0]? (fun c => K (mkF fr c)) .mk := propext Iff.rfl
theorem ldK_ptrA (sz : Nat) (bxs : List (Nat × List AV)) (n i o : Nat) (K : AV → Prop) (l : Lk K) : ldK true sz bxs (.ptr n i o) K l = wh (look bxs n) (fun l => wh l[i]? (fun e => o + sz ≤ e.cells.length ∧ K (.agg ((e.cells.drop o).take sz))) .mk) .mk := propext Iff.rfl
theorem ldK_ptr (sz : Nat) (bxs : List (Nat × List AV)) (n i o : Nat) (K : AV → Prop) (l : Lk K) : ldK false sz bxs (.ptr n i o) K l = wh (look bxs n) (fun l => wh l[i]? (fun e => wh e.cells[o]? K .mk) .mk) .mk := propext Iff.rfl
def stK (v : AV) (K : Nat × Nat × Nat → Prop) (H : Unit → Prop) (_ : Lk K) (_ : Lk H) : Prop := match v with
  | .ptr n i o => K (n, i, o)
  | .hp (c :: _) => isUn c = true ∧ H ()
  | _ => False
theorem stK_ptr (n i o : Nat) (K : Nat × Nat × Nat → Prop) (H : Unit → Prop) (l : Lk K) (m : Lk H) : stK (.ptr n i o) K H l m = K (n, i, o) := propext Iff.rfl
theorem stK_hp (c : AV) (cs : List AV) (K : Nat × Nat × Nat → Prop) (H : Unit → Prop) (l : Lk K) (m : Lk H) : stK (.hp (c :: cs)) K H l m = (isUn c = true ∧ H ()) := propext Iff.rfl
def ptrOf : AV → Option (Nat × Nat × Nat)
  | .ptr n i o => some (n, i, o)
  | _ => none
def slOf : AV → Option (Mk × Nat × List AV)
  | .sl m z xs => some (m, z, xs)
  | _ => none
theorem slOf_some {v : AV} {m : Mk} {z : Nat} {xs : List AV} : slOf v = some (m, z, xs) ↔ v = .sl m z xs := by
  unfold slOf; split <;> simp_all
def tupOf : AV → Option (List AV)
  | .tup cs => some cs
  | _ => none
theorem tupOf_some {v : AV} {cs : List AV} : tupOf v = some cs ↔ v = .tup cs := by
  unfold tupOf; split <;> simp_all
def fnOf : AV → Option (Nat × List AV)
  | .fn f cs => some (f, cs)
  | _ => none
theorem fnOf_some {v : AV} {f : Nat} {cs : List AV} : fnOf v = some (f, cs) ↔ v = .fn f cs := by
  unfold fnOf; split <;> simp_all
/-- append, by the room there is -/
def apK (s : AS) (d : Option Nat) (sz z : Nat) (ap : Ap) (fr : Bool) (l : List AV) (Q : AS → Prop) (_ : Lk Q) : Prop := match ap with
  | .no => False
  | .ow _ => False
  | .id _ => False
  | .nl => ∃ t, d = some t ∧ (s.putO d .un).noC t = true ∧ Q (s.put t (.sl ⟨.cl (64 * t), fr⟩ sz l))
  | .cl c => z = sz ∧ Q ((s.dem c).putO d (.sl ⟨.cl c, fr⟩ sz l))
theorem apK_nl (s : AS) (t sz z : Nat) (fr : Bool) (l : List AV) (Q : AS → Prop) (q : Lk Q) : apK s (some t) sz z .nl fr l Q q = ((s.putO (some t) .un).noC t = true ∧ Q (s.put t (.sl ⟨.cl (64 * t), fr⟩ sz l))) := by simp [apK]
theorem apK_cl (s : AS) (d : Option Nat) (sz c : Nat) (fr : Bool) (l : List AV) (Q : AS → Prop) (q : Lk Q) : apK s d sz sz (.cl c) fr l Q q = Q ((s.dem c).putO d (.sl ⟨.cl c, fr⟩ sz l)) := by simp [apK]
/-! the same, with what comes behind kept shut -/
def Xe (E : EnvK) (c : VC) (s : AS) (Q : Ex → AS → Prop) (_ : Lk Q) : Prop := vx E c s Q
def Xs (E : EnvK) (os : List VO) (s : AS) (Q : AS → Prop) (_ : Lk Q) : Prop := vops E os s Q
def Xo (E : EnvK) (o : VO) (s : AS) (Q : AS → Prop) (_ : Lk Q) : Prop := vop E o s Q
def Xa (E : EnvK) (s : AS) (d : Option Nat) (k : VK) (Q : AS → Prop) (_ : Lk Q) : Prop := vact E s d Q k
def Xc (E : EnvK) (q : Bool) (s : AS) (d : Option Nat) (f : Nat) (vs : List AV) (Q : AS → Prop) (_ : Lk Q) : Prop := vcall2 E q s d f vs Q
section
variable {E : EnvK} {s : AS} {Q : Ex → AS → Prop}
variable (l : Lk Q)
theorem X_skip : Xe E .skip s Q l = Q .normal s := propext Iff.rfl
theorem X_ret : Xe E .ret s Q l = Q .ret s := propext Iff.rfl
theorem X_exit (n : Nat) : Xe E (.exit n) s Q l = Q (.exit n) s := propext Iff.rfl
theorem X_seq (a b : VC) : Xe E (.seq a b) s Q l = Xe E a s (fun e s' => match e with | .normal => Xe E b s' Q .mk | e => Q e s') .mk := propext Iff.rfl
theorem X_cond (c : Od) (a b : VC) : Xe E (.cond c a b) s Q l = fk (s.val c) true (Xe E a s Q .mk) (Xe E b s Q .mk) .mk := propext Iff.rfl
theorem X_block (n : Nat) (c : VC) : Xe E (.block n c) s Q l = Xe E c s (fun e s' => if e = .exit n then Q .normal s' else Q e s') .mk := propext Iff.rfl
theorem X_reg0 (os : List VO) (dr : List Nat) : Xe E (.reg false os dr) s Q l = Xs E os s (fun s' => Q .normal ⟨drops dr s'.env, s'.bxs⟩) .mk := by simp [Xe, Xs, vx]
theorem X_reg1 (os : List VO) (dr : List Nat) : Xe E (.reg true os dr) s Q l = (os.all (tmpOk s) = true ∧ Xs E os s (fun s' => Q .normal ⟨drops dr s'.env, s'.bxs⟩) .mk) := by simp [Xe, Xs, vx]
end
/-- a rest inside a region: less may be told -/
def Xw (E : EnvK) (s : AS) (Q : AS → Prop) (_ : Lk Q) : Prop := ∃ s1, Wk E.nk s1 s ∧ Q s1
theorem X_regw {E : EnvK} {s : AS} {Q : Ex → AS → Prop} (l : Lk Q) (o1 o2 : List VO) (dr : List Nat) : Xe E (.regw o1 o2 dr) s Q l = Xs E o1 s (fun s' => Xw E s' (fun s1 => Xs E o2 s1 (fun s' => Q .normal ⟨drops dr s'.env, s'.bxs⟩) .mk) .mk) .mk := propext Iff.rfl
section
variable {E : EnvK} {s : AS} {Q : AS → Prop} (l : Lk Q) (d : Option Nat)
theorem Xs_nil : Xs E [] s Q l = Q s := propext Iff.rfl
theorem Xs_cons (o : VO) (os : List VO) : Xs E (o :: os) s Q l = Xo E o s (fun s' => Xs E os s' Q .mk) .mk := propext Iff.rfl
theorem Xo_n (k : VK) : Xo E ⟨d, k, none⟩ s Q l = Xa E s d k Q .mk := propext Iff.rfl
theorem Xo_g (k : VK) (t : Nat) (w : Bool) : Xo E ⟨d, k, some (t, w)⟩ s Q l = gk (s.get t) w (Xa E s d k Q .mk) (Q (s.putO d (.tup []))) .mk := propext Iff.rfl
theorem Xa_mv (x : Od) : Xa E s d (.mv x) Q l = Q (s.putO d (s.val x)) := propext Iff.rfl
theorem Xa_as (x : Od) : Xa E s d (.as x) Q l = Q (s.putO d (s.val x)) := propext Iff.rfl
theorem Xa_pick (c a b : Od) : Xa E s d (.pick c a b) Q l = fk (s.val c) true (Q (s.putO d (s.val a))) (Q (s.putO d (s.val b))) .mk := by
  unfold fk
  simp only [Xa, vact]
  congr 1
  funext t
  cases t <;> simp
theorem Xa_bin (op : BinOp) (ty : Nat) (x y : Od) : Xa E s d (.bin op ty x y) Q l = wh (binV op ty (s.val x) (s.val y)) (fun v => Q (s.putO d (.lit v))) .mk := propext Iff.rfl
theorem Xa_un (op : UnOp) (x : Od) : Xa E s d (.un op x) Q l = wh (unV op (s.val x)) (fun v => Q (s.putO d (.lit v))) .mk := propext Iff.rfl
theorem Xa_len (b : Bool) (x : Od) : Xa E s d (.len b x) Q l = wh (lenV b (s.val x)) (fun n => Q (s.putO d (.lit (.int .i64 n)))) .mk := propext Iff.rfl
theorem Xa_idx (x i : Od) : Xa E s d (.idx x i) Q l = wh (strOf (s.val x)) (fun b => wh (intOf (s.val i)) (fun j => 0 ≤ j ∧ j < b.size ∧ Q (s.putO d (.lit (.int .u8 (bt b j.toNat).toNat)))) .mk) .mk := by
  simp only [Xa, vact, wh, strOf_some, intOf_some, eq_iff_iff]
  constructor
  · rintro ⟨b, k, j, h1, h2, h3⟩; exact ⟨b, h1, j, ⟨k, h2⟩, h3⟩
  · rintro ⟨b, h1, j, ⟨k, h2⟩, h3⟩; exact ⟨b, k, j, h1, h2, h3⟩
theorem Xa_ia (sz : Nat) (x i : Od) : Xa E s d (.ia sz x i) Q l = wh (intOf (s.val i)) (fun j => 0 ≤ j ∧ iaK sz (s.val x) j (fun v => Q (s.putO d v)) .mk) .mk := by
  simp only [Xa, vact, wh, intOf_some, iaK, eq_iff_iff]
  constructor
  · rintro ⟨k, j, h1, h2, h3⟩; exact ⟨j, ⟨k, h1⟩, h2, h3⟩
  · rintro ⟨j, ⟨k, h1⟩, h2, h3⟩; exact ⟨k, j, h1, h2, h3⟩
theorem Xa_fa (off : Nat) (x : Od) : Xa E s d (.fa off x) Q l = faK off (s.val x) (fun v => Q (s.putO d v)) .mk := propext Iff.rfl
theorem Xa_ld (ag : Bool) (sz : Nat) (x : Od) : Xa E s d (.ld ag sz x) Q l = ldK ag sz s.bxs (s.val x) (fun v => Q (s.putO d v)) .mk := by
  simp only [Xa, vact, ldK]
  cases s.val x <;> simp only [wh]
  · simp only [eq_iff_iff]
    constructor
    · rintro ⟨l, e, h1, h2, h3⟩; exact ⟨l, h1, e, h2, h3⟩
    · rintro ⟨l, h1, e, h2, h3⟩; exact ⟨l, e, h1, h2, h3⟩
  · simp only [eq_iff_iff]
    constructor
    · rintro ⟨h1, z, ys, h2, h3⟩; exact ⟨h1, (z, ys), hsOf_some.2 h2, h3⟩
    · rintro ⟨h1, ⟨z, ys⟩, h2, h3⟩; exact ⟨h1, z, ys, hsOf_some.1 h2, h3⟩
theorem Xa_st (sz : Nat) (a x : Od) : Xa E s d (.st sz a x) Q l = stK (s.val a) (fun p => wh (look s.bxs p.1) (fun l => wh l[p.2.1]? (fun e => 0 < sz ∧ (s.val x).cells.length = sz ∧ p.2.2 + sz ≤ e.cells.length ∧ (s.val x).cells.all okC = true ∧ Q ((s.setB p.1 (l.set p.2.1 (putElem e p.2.2 (s.val x)))).putO d .un)) .mk) .mk) (fun _ => sz = 1 ∧ (s.val x).cells.length = 1 ∧ (s.val x).cells.all okC = true ∧ Q (s.putO d .un)) .mk .mk := by
  simp only [Xa, vact, wh, eq_iff_iff]
  constructor
  · rintro (⟨n, i, o, h1, l, e, h2, h3, h4⟩ | ⟨c, cs, h1, h2, h3⟩)
    · rw [h1]; exact ⟨l, h2, e, h3, h4⟩
    · rw [h1]; exact ⟨h2, h3⟩
  · intro h
    unfold stK at h
    split at h
    · rename_i n i o h1
      obtain ⟨l, h2, e, h3, h4⟩ := h
      exact .inl ⟨n, i, o, h1, l, e, h2, h3, h4⟩
    · rename_i c cs h1
      exact .inr ⟨c, cs, h1, h.1, h.2⟩
    · exact h.elim
theorem Xa_box (t sz : Nat) (x : Od) : Xa E s (some t) (.box sz x) Q l = ((s.val x).cells.length = sz ∧ 0 < sz ∧ (s.val x).cells.all okC = true ∧ (s.putO (some t) .un).noB (1000000000000 + t) = true ∧ noB (1000000000000 + t) (s.val x) = true ∧ Q ((s.setB (1000000000000 + t) [s.val x]).put t (.ptr (1000000000000 + t) 0 0))) := by simp [Xa, vact]
theorem Xa_alloc (t : Nat) (z : AV) : Xa E s (some t) (.alloc z) Q l = (0 < z.cells.length ∧ z.cells.all okC = true ∧ (s.putO (some t) .un).noB (1000000000000 + t) = true ∧ noB (1000000000000 + t) z = true ∧ Q ((s.setB (1000000000000 + t) [z]).put t (.ptr (1000000000000 + t) 0 0))) := by simp [Xa, vact]
theorem Xa_bld (z : List AV) (ps : List (Nat × Nat × Od)) : Xa E s d (.bld z ps) Q l = ((pvals s ps).all (fun p => p.2.2.cells.all okC) = true ∧ wh (fill z (pvals s ps)) (fun cs => Q (s.putO d (.agg cs))) .mk) := propext Iff.rfl
theorem Xa_bsl (t sz : Nat) (xs : List Od) : Xa E s (some t) (.bsl sz xs) Q l = ((s.putO (some t) .un).noC t = true ∧ (s.vals xs).all (fun x => decide (x.cells.length = sz) && dat x && x.cells.all okC) = true ∧ Q (s.put t (.sl ⟨.cl (64 * t), frA.frL (s.vals xs)⟩ sz (strip.stripL (s.vals xs))))) := by simp [Xa, vact]
theorem Xa_slS (x : Od) (lo hi : Option Od) : Xa E s d (.slS x lo hi) Q l = wh (strOf (s.val x)) (fun b => wh (cutB s b.size lo hi) (fun p => Q (s.putO d (.lit (.string (b.extract p.1 p.2))))) .mk) .mk := by
  simp only [Xa, vact, wh, strOf_some, eq_iff_iff]
  constructor
  · rintro ⟨b, h1, l, h, h2, h3⟩; exact ⟨b, h1, (l, h), h2, h3⟩
  · rintro ⟨b, h1, ⟨l, h⟩, h2, h3⟩; exact ⟨b, h1, l, h, h2, h3⟩
theorem Xa_slL (sz : Nat) (x : Od) (lo hi : Option Od) : Xa E s d (.slL sz x lo hi) Q l = wh (slOf (s.val x)) (fun q => (q.2.1 = sz ∨ q.2.2 = []) ∧ wh (cutB s q.2.2.length lo hi) (fun p => Q (s.putO d (.sl ⟨if isNone hi then noOw q.1.ap else .no, q.1.fr⟩ q.2.1 ((q.2.2.take p.2).drop p.1)))) .mk) .mk := by
  simp only [Xa, vact, wh, eq_iff_iff]
  constructor
  · rintro ⟨m, z, xs, h1, h2, l, h, h3, h4⟩; exact ⟨(m, z, xs), slOf_some.2 h1, h2, (l, h), h3, h4⟩
  · rintro ⟨⟨m, z, xs⟩, h1, h2, ⟨l, h⟩, h3, h4⟩; exact ⟨m, z, xs, slOf_some.1 h1, h2, l, h, h3, h4⟩
theorem Xa_apS (x y : Od) : Xa E s d (.apS x y) Q l = wh (slOf (s.val x)) (fun p => wh (strOf (s.val y)) (fun b => (p.2.1 = 1 ∨ p.2.2 = []) ∧ p.2.2.length + b.size ≤ 70368744177664 ∧ apK s d 1 p.2.1 p.1.ap p.1.fr (p.2.2 ++ bytesV b) Q .mk) .mk) .mk := by
  simp only [Xa, vact, wh, eq_iff_iff]
  constructor
  · rintro ⟨m, z, xs, h1, b, h2, h3⟩; exact ⟨(m, z, xs), slOf_some.2 h1, b, strOf_some.2 h2, h3⟩
  · rintro ⟨⟨m, z, xs⟩, h1, b, h2, h3⟩; exact ⟨m, z, xs, slOf_some.1 h1, b, strOf_some.1 h2, h3⟩
theorem Xa_app (sz byt : Nat) (x y : Od) : Xa E s d (.app sz byt x y) Q l = wh (slOf (s.val x)) (fun p => wh (slOf (s.val y)) (fun q => (p.2.1 = sz ∨ p.2.2 = []) ∧ (q.2.1 = sz ∨ q.2.2 = []) ∧ (p.2.2.length + q.2.2.length) * byt ≤ 70368744177664 ∧ apK s d sz p.2.1 p.1.ap (p.1.fr && q.1.fr) (p.2.2 ++ q.2.2) Q .mk) .mk) .mk := by
  simp only [Xa, vact, wh, eq_iff_iff]
  constructor
  · rintro ⟨m, z, xs, h1, m2, z2, ys, h2, h3⟩; exact ⟨(m, z, xs), slOf_some.2 h1, (m2, z2, ys), slOf_some.2 h2, h3⟩
  · rintro ⟨⟨m, z, xs⟩, h1, ⟨m2, z2, ys⟩, h2, h3⟩; exact ⟨m, z, xs, slOf_some.1 h1, m2, z2, ys, slOf_some.1 h2, h3⟩
theorem Xa_mks (t sz byt : Nat) (z : AV) (n : Od) : Xa E s (some t) (.mks sz byt z n) Q l = wh (intOf (s.val n)) (fun j => 0 ≤ j ∧ j * byt ≤ 70368744177664 ∧ j ≤ 9223372036854775807 ∧ z.cells.length = sz ∧ z.cells.all okC = true ∧ (s.putO (some t) .un).noB (1000000000000 + t) = true ∧ noB (1000000000000 + t) z = true ∧ Q ((s.setB (1000000000000 + t) (List.replicate j.toNat z)).put t (.bs (1000000000000 + t) sz j.toNat))) .mk := by
  simp only [Xa, vact, wh, intOf_some, eq_iff_iff]
  constructor
  · rintro ⟨t', k, j, h0, h1, h2⟩
    obtain rfl := Option.some.inj h0
    exact ⟨j, ⟨k, h1⟩, h2⟩
  · rintro ⟨j, ⟨k, h1⟩, h2⟩; exact ⟨t, k, j, rfl, h1, h2⟩
theorem Xa_ext (x : Od) (i : Nat) : Xa E s d (.ext x i) Q l = wh (tupOf (s.val x)) (fun cs => wh cs[i]? (fun c => Q (s.putO d c)) .mk) .mk := by
  simp only [Xa, vact, wh, tupOf_some, eq_iff_iff]
  constructor
  · rintro ⟨cs, c, h1, h2, h3⟩; exact ⟨cs, h1, c, h2, h3⟩
  · rintro ⟨cs, h1, c, h2, h3⟩; exact ⟨cs, c, h1, h2, h3⟩
theorem Xa_call (q : Bool) (f : Nat) (as : List Od) : Xa E s d (.call q f as) Q l = Xc E q s d f (s.vals as) Q .mk := propext Iff.rfl
theorem Xa_callv (q : Bool) (x : Od) (as : List Od) : Xa E s d (.callv q x as) Q l = wh (fnOf (s.val x)) (fun p => fnOk E.P p.1 = true ∧ Xc E q s d p.1 (s.vals as ++ p.2) Q .mk) .mk := by
  simp only [Xa, Xc, vact, wh, eq_iff_iff]
  constructor
  · rintro ⟨f, cs, h1, h2⟩; exact ⟨(f, cs), fnOf_some.2 h1, h2⟩
  · rintro ⟨⟨f, cs⟩, h1, h2⟩; exact ⟨f, cs, fnOf_some.1 h1, h2⟩
theorem Xa_mkf (f : Nat) (as : List Od) : Xa E s d (.mkf f as) Q l = Q (s.putO d (.fn f (s.vals as))) := propext Iff.rfl
theorem Xa_cvI (k : IntKind) (x : Od) : Xa E s d (.cvI k x) Q l = wh (intOf (s.val x)) (fun j => Q (s.putO d (.lit (.int k (k.wrap j))))) .mk := by
  simp only [Xa, vact, wh, intOf_some, eq_iff_iff]
  constructor
  · rintro ⟨k, j, h1, h2⟩; exact ⟨j, ⟨k, h1⟩, h2⟩
  · rintro ⟨j, ⟨k, h1⟩, h2⟩; exact ⟨k, j, h1, h2⟩
theorem Xa_isn (neg : Bool) (x : Od) : Xa E s d (.isn neg x) Q l = wh (slOf (s.val x)) (fun p => ∀ b, (p.2.2 ≠ [] → b = neg) → Q (s.putO d (.lit (.bool b)))) .mk := by
  simp only [Xa, vact, wh, eq_iff_iff]
  constructor
  · rintro ⟨m, z, xs, h1, h2⟩; exact ⟨(m, z, xs), slOf_some.2 h1, h2⟩
  · rintro ⟨⟨m, z, xs⟩, h1, h2⟩; exact ⟨m, z, xs, slOf_some.1 h1, h2⟩
theorem Xa_mn (x y : Od) : Xa E s d (.mn x y) Q l = wh (intKOf (s.val x)) (fun p => wh (intKOf (s.val y)) (fun q => p.1 = q.1 ∧ Q (s.putO d (.lit (.int p.1 (min p.2 q.2))))) .mk) .mk := by
  simp only [Xa, vact, wh, intKOf_some, eq_iff_iff]
  constructor
  · rintro ⟨k, u, v, h1, h2, h3⟩; exact ⟨(k, u), h1, (k, v), h2, rfl, h3⟩
  · rintro ⟨⟨k, u⟩, h1, ⟨k', v⟩, h2, rfl, h3⟩; exact ⟨_, u, v, h1, h2, h3⟩
theorem Xa_bsb (t : Nat) (xs : List Od) : Xa E s (some t) (.bsb xs) Q l = (bsbOk xs = true ∧ (s.putO (some t) .un).noB (1000000000000 + t) = true ∧ Q ((s.setB (1000000000000 + t) (s.vals xs)).put t (.bs (1000000000000 + t) 1 xs.length))) := by simp [Xa, vact]
theorem Xa_cvS (x : Od) : Xa E s d (.cvS x) Q l = wh (strOf (s.val x)) (fun b => Q (s.putO d (.lit (.string b)))) .mk := by
  simp only [Xa, vact, wh, strOf_some]
end
theorem val_t (s : AS) (n : Nat) : s.val (.t n) = (look s.env n).getD .un := rfl
theorem val_c (s : AS) (x : AV) : s.val (.c x) = x := rfl
theorem get_mk (l : List (Nat × AV)) (b : List (Nat × List AV)) (n : Nat) : AS.get ⟨l, b⟩ n = (look l n).getD .un := rfl
theorem put_mk (l : List (Nat × AV)) (b : List (Nat × List AV)) (n : Nat) (v : AV) : AS.put ⟨l, b⟩ n v = ⟨setL n v l, b⟩ := rfl
theorem putO_some (s : AS) (n : Nat) (v : AV) : s.putO (some n) v = s.put n v := rfl
theorem putO_none (s : AS) (v : AV) : s.putO none v = s := rfl
theorem setB_mk (l : List (Nat × AV)) (b : List (Nat × List AV)) (n : Nat) (v : List AV) : AS.setB ⟨l, b⟩ n v = ⟨l, setL n v b⟩ := rfl
/-- The end: nothing more is forgotten. -/
def FinK (K : Nat → Prop) (rs : List VR) (r : AV) (ks : List Nat) (e : Ex) (s : AS) : Prop := (e = .normal ∨ e = .ret) ∧ ∃ s1, Wk K s1 s ∧ ∃ l, resVs s1 rs = some l ∧ r = reC ks (oneOr l)
abbrev Fin (rs : List VR) (r : AV) (ks : List Nat) (e : Ex) (s : AS) : Prop := FinK (fun _ => False) rs r ks e s
theorem Fin.ret {K : Nat → Prop} {rs : List VR} {r : AV} {ks : List Nat} {s : AS} {l : List AV} (h1 : resVs s rs = some l) (h2 : r = reC ks (oneOr l)) : FinK K rs r ks .ret s := ⟨.inr rfl, s, .refl s, l, h1, h2⟩
theorem Fin.normal {K : Nat → Prop} {rs : List VR} {r : AV} {ks : List Nat} {s : AS} {l : List AV} (h1 : resVs s rs = some l) (h2 : r = reC ks (oneOr l)) : FinK K rs r ks .normal s := ⟨.inl rfl, s, .refl s, l, h1, h2⟩
theorem Fin_ret {K : Nat → Prop} {rs : List VR} {r r' : AV} {ks : List Nat} {s : AS} (h : resVs s rs = some [r']) (h2 : r = reC ks r') : FinK K rs r ks .ret s := Fin.ret h h2
/-- What is read off a function's code, in one. -/
structure Is (P : Program) (f : Nat) (nt : Nat) (vc : VC) (rs : List VR) : Prop where
  ex : ∃ fn dr, P.funcs[f]? = some fn ∧ fn.body = some (fn.body.getD .skip) ∧ cCode P fn.ntmps chkR dr (fn.body.getD .skip) = some vc ∧ cRes P fn.results.toList = some rs ∧ (if fn.ntmps ≤ 1000000000000 then some fn.ntmps else none) = some nt
theorem Is.fx {E : Env} {f nt : Nat} {vc : VC} {rs : List VR} (h : Is E.P f nt vc rs) {args : List AV} {r : AV} (ks : List Nat) (hlen : args.length ≤ nt) (hks : dd ks = ks) (hres : resOk r = true) (hv : Xe E.pl vc ⟨enum 0 args, []⟩ (Fin rs r ks) .mk) : Fx E f [] args [] r := by
  obtain ⟨fn, dr, h1, h2, h3, h4, h5'⟩ := h.ex
  obtain ⟨h5, h6⟩ := ntm h5'
  exact Fx.of0 h1 h2 h3 h4 (by rw [h5]; exact hlen) h6 ks hks hres hv
attribute [simp] gk_same gk_tf gk_ft gk_no fk_same fk_tf fk_ft X_skip X_ret X_exit X_seq X_cond X_block X_reg0 X_reg1 X_regw Xs_nil Xs_cons Xo_n Xo_g val_t val_c get_mk put_mk putO_some putO_none setB_mk look setL drops drop1 enum binV binI binS unV lenV tmpOk isUn isNone AS.vals pvals
attribute [simp] Xa_apS Xa_mv Xa_as Xa_pick Xa_bin Xa_un Xa_len Xa_idx Xa_ia Xa_fa Xa_ld Xa_st Xa_box Xa_alloc Xa_bld Xa_bsl Xa_slS Xa_slL Xa_app Xa_mks Xa_ext Xa_call Xa_callv Xa_mkf Xa_cvI Xa_cvS Xa_isn Xa_mn Xa_bsb bsbOk intKOf
attribute [simp] noOw wh_some wh_map wh_ite strOf intOf ptrOf slOf tupOf fnOf iaK_sl iaK_bs faK_ep faK_ptr ldK_epA ldK_ep ldK_ptrA ldK_ptr iaK_hs faK_hp ldK_hp hsOf stK_ptr stK_hp isUn apK_nl apK_cl AV.cells
end Go.Proofs.YticockdhfglolaaGreatDoor.Vm
/- An abstract machine over values: plain data, calls. -/
namespace Go.Proofs.YticockdhfglolaaGreatDoor.Vm
open Go Go.RowKit
set_option linter.unusedVariables false
set_option linter.unusedSimpArgs false
/-- data without marks -/
def raw : AV → AV
  | .sl _ sz xs => .sl ro sz xs
  | .agg cs => .agg (rawL cs)
  | .lit v => .lit v
  | _ => .un
where rawL : List AV → List AV
  | [] => []
  | c :: cs => raw c :: rawL cs
def Pl (a : AV) : Prop := raw a = a
def PlL (l : List AV) : Prop := raw.rawL l = l
theorem PlL_nil : PlL [] := rfl
theorem PlL_cons {a : AV} {l : List AV} : PlL (a :: l) ↔ Pl a ∧ PlL l := by simp [PlL, Pl, raw.rawL]
theorem Pl_agg {l : List AV} : Pl (.agg l) ↔ PlL l := by simp [PlL, Pl, raw]
theorem Pl_lit (v : Value) : Pl (.lit v) := rfl
theorem Pl_sl (sz : Nat) (xs : List AV) : Pl (.sl ro sz xs) := rfl
theorem PlL_iff {l : List AV} : PlL l ↔ ∀ a ∈ l, Pl a := by
  induction l with
  | nil => simp [PlL_nil]
  | cons a l ih => simp [PlL_cons, ih]
theorem Pl.cells {a : AV} (h : Pl a) : PlL a.cells := by
  cases a with
  | agg cs => exact Pl_agg.1 h
  | _ => exact PlL_cons.2 ⟨h, PlL_nil⟩
/-- induction over plain data -/
theorem Pl.ind {p : AV → Prop} (hun : p .un) (hlit : ∀ v, p (.lit v)) (hsl : ∀ sz xs, p (.sl ro sz xs)) (hagg : ∀ l, (∀ a ∈ l, p a) → p (.agg l)) : ∀ a, Pl a → p a := by
  intro a
  refine AV.rec (motive_1 := fun a => Pl a → p a) (motive_2 := fun l => PlL l → ∀ a ∈ l, p a) ?_ ?_ ?_ ?_ ?_ ?_ ?_ ?_ ?_ ?_ ?_ ?_ ?_ a
  · exact fun _ => hun
  · exact fun v _ => hlit v
  · intro m sz xs _ h
    have : m = ro := by
      simp only [Pl, raw, AV.sl.injEq, and_true] at h
      exact h.symm
    rw [this]; exact hsl sz xs
  · exact fun cs ih h => hagg cs (ih (Pl_agg.1 h))
  · intro cs _ h; simp [Pl, raw] at h
  · intro n i o h; simp [Pl, raw] at h
  · intro fr cs _ h; simp [Pl, raw] at h
  · intro f cs _ h; simp [Pl, raw] at h
  · intro n sz l h; simp [Pl, raw] at h
  · intro sz cs _ h; simp [Pl, raw] at h
  · intro cs _ h; simp [Pl, raw] at h
  · intro _ a h; simp at h
  · intro b l h1 h2 h a ha
    obtain ⟨p1, p2⟩ := PlL_cons.1 h
    rcases List.mem_cons.1 ha with rfl | ha
    · exact h1 p1
    · exact h2 p2 a ha
theorem stripL_map : ∀ (l : List AV), strip.stripL l = l.map strip
  | [] => rfl
  | a :: l => by simp [strip.stripL, stripL_map l]
theorem datL_iff {l : List AV} : dat.datL l = true ↔ ∀ a ∈ l, dat a = true := by
  induction l with
  | nil => simp [dat.datL]
  | cons a l ih => simp [dat.datL, ih]
theorem noCL_iff {d : Nat} {l : List AV} : noC.noL d l = true ↔ ∀ a ∈ l, noC d a = true := by
  induction l with
  | nil => simp [noC.noL]
  | cons a l ih => simp [noC.noL, ih]
theorem noBL_iff {d : Nat} {l : List AV} : noB.noL d l = true ↔ ∀ a ∈ l, noB d a = true := by
  induction l with
  | nil => simp [noB.noL]
  | cons a l ih => simp [noB.noL, ih]
theorem ptrsL_nil {l : List AV} : ptrs.ptrsL l = [] ↔ ∀ a ∈ l, ptrs a = [] := by
  induction l with
  | nil => simp [ptrs.ptrsL]
  | cons a l ih => simp [ptrs.ptrsL, ih]
theorem Pl.strip {a : AV} (h : Pl a) : Vm.strip a = a := Pl.ind (p := fun a => Vm.strip a = a) rfl (fun _ => rfl) (fun _ _ => rfl) (fun l ih => by
  simp only [Vm.strip, stripL_map, AV.agg.injEq]
  exact (List.map_congr_left ih).trans (List.map_id l)) a h
theorem Pl.dat {a : AV} (h : Pl a) : Vm.dat a = true := Pl.ind (p := fun a => Vm.dat a = true) rfl (fun _ => rfl) (fun _ _ => rfl) (fun l ih => by simp only [Vm.dat]; exact datL_iff.2 ih) a h
theorem Pl.argOk {a : AV} (h : Pl a) : Vm.argOk a = true := dat_argOk a h.dat
theorem Pl.noC {a : AV} (h : Pl a) (d : Nat) : Vm.noC d a = true := Pl.ind (p := fun a => Vm.noC d a = true) rfl (fun _ => rfl) (fun _ _ => rfl) (fun l ih => by simp only [Vm.noC]; exact noCL_iff.2 ih) a h
theorem Pl.noB {a : AV} (h : Pl a) (d : Nat) : Vm.noB d a = true := Pl.ind (p := fun a => Vm.noB d a = true) rfl (fun _ => rfl) (fun _ _ => rfl) (fun l ih => by simp only [Vm.noB]; exact noBL_iff.2 ih) a h
theorem Pl.ptrs {a : AV} (h : Pl a) : Vm.ptrs a = [] := Pl.ind (p := fun a => Vm.ptrs a = []) rfl (fun _ => rfl) (fun _ _ => rfl) (fun l ih => by simp only [Vm.ptrs]; exact ptrsL_nil.2 ih) a h
theorem PlL.strip {l : List AV} (h : PlL l) : strip.stripL l = l := by
  rw [stripL_map]
  exact (List.map_congr_left fun a ha => (PlL_iff.1 h a ha).strip).trans (List.map_id l)
/-- what a load out of a row gives, unmarked again -/
theorem strip_mkF (b : Bool) : ∀ (a : AV), Vm.strip (mkF b a) = mkF false a := by
  intro a
  refine AV.rec (motive_1 := fun a => Vm.strip (mkF b a) = mkF false a) (motive_2 := fun l => strip.stripL (mkF.mkL b l) = mkF.mkL false l) ?_ ?_ ?_ ?_ ?_ ?_ ?_ ?_ ?_ ?_ ?_ ?_ ?_ a
  all_goals (intros; try rfl)
  · rename_i m sz xs _; obtain ⟨ap, fr⟩ := m; cases ap <;> rfl
  · rename_i cs ih; simp only [mkF, Vm.strip, ih]
  · rename_i a l h1 h2; simp only [mkF.mkL, strip.stripL, h1, h2]
theorem noC_mkF (d : Nat) (b : Bool) (a : AV) : Vm.noC d (mkF b a) = true := by rw [ok1_noC]; exact ok1_mkF b a
theorem noB_mkF (d : Nat) (b : Bool) (a : AV) : Vm.noB d (mkF b a) = true := by rw [ok1_noB]; exact ok1_mkF b a
theorem ren_nil : ∀ (a : AV), Vm.ptrs a = [] → ren [] a = a := by
  intro a
  refine AV.rec (motive_1 := fun a => Vm.ptrs a = [] → ren [] a = a) (motive_2 := fun l => ptrs.ptrsL l = [] → ren.renL [] l = l) ?_ ?_ ?_ ?_ ?_ ?_ ?_ ?_ ?_ ?_ ?_ ?_ ?_ a
  all_goals (intros; try rfl)
  · rename_i cs ih h; simp only [ren, ih (by simpa only [Vm.ptrs] using h)]
  · rename_i n i o h; simp [Vm.ptrs] at h
  · rename_i f cs ih h; simp only [ren, ih (by simpa only [Vm.ptrs] using h)]
  · rename_i n sz l h; simp [Vm.ptrs] at h
  · rename_i a l h1 h2 h
    simp only [ptrs.ptrsL, List.append_eq_nil_iff] at h
    simp only [ren.renL, h1 h.1, h2 h.2]
theorem renL_nil {l : List AV} (h : ptrs.ptrsL l = []) : ren.renL [] l = l := by
  induction l with
  | nil => rfl
  | cons a l ih =>
    simp only [ptrs.ptrsL, List.append_eq_nil_iff] at h
    simp only [ren.renL, ren_nil a h.1, ih h.2]
theorem strip_ptrs : ∀ (a : AV), Vm.ptrs (Vm.strip a) = Vm.ptrs a := by
  intro a
  refine AV.rec (motive_1 := fun a => Vm.ptrs (Vm.strip a) = Vm.ptrs a) (motive_2 := fun l => ptrs.ptrsL (strip.stripL l) = ptrs.ptrsL l) ?_ ?_ ?_ ?_ ?_ ?_ ?_ ?_ ?_ ?_ ?_ ?_ ?_ a
  all_goals (intros; try rfl)
  · rename_i cs ih; simp only [Vm.strip, Vm.ptrs, ih]
  · rename_i f cs ih; simp only [Vm.strip, Vm.ptrs, ih]
  · rename_i a l h1 h2; simp only [strip.stripL, ptrs.ptrsL, h1, h2]
theorem strip_ptrsL (l : List AV) : ptrs.ptrsL (strip.stripL l) = ptrs.ptrsL l := by
  induction l with
  | nil => rfl
  | cons a l ih => simp only [strip.stripL, ptrs.ptrsL, strip_ptrs, ih]
/-- a loop, kept shut -/
theorem X_loop {E : EnvK} {c : VC} {Q : Ex → AS → Prop} {l : Lk Q} {τ : Type} (st : τ → AS) (I : τ → Prop) (m : τ → Nat) {s : AS} (i : τ) (hi : I i) (hw : Wk E.nk (st i) s) (step : ∀ i, I i → Xe E c (st i) (fun e s' => match e with | .normal => ∃ j, I j ∧ m j < m i ∧ Wk E.nk (st j) s' | e => Q e s') .mk) : Xe E (.loop c) s Q l := vx_loop st I m step i hi hw
/-- A call with data alone. -/
theorem vcall_go {E : EnvK} {q : Bool} {s : AS} {t f : Nat} {vs ws : List AV} {Q : AS → Prop} {r : AV} (hF : Fx E f [] ws [] r) (hw : strip.stripL vs = ws) (h1 : argOk.argL vs = true) (h2 : ptrs.ptrsL vs = []) (h3 : (s.putO (some t) .un).noC t = true) {l : Lk Q} (h4 : Q (s.put t (relab t (frA.frL vs) r))) (hpl : q = true → ∀ k, ¬ E.nk k := by first | exact fun _ _ hk => hk | exact fun e => absurd e Bool.false_ne_true) : Xc E q s (some t) f vs Q l := by
  refine .inl ⟨?_, hpl⟩
  refine ⟨h1, fun _ => by rw [h2]; rfl, t, rfl, h3, [], by rw [h2]; rfl, rfl, [], r, ?_, rfl, by rw [h2]; exact h4⟩
  rw [h2]
  show Fx E f [] (ren.renL [] (strip.stripL vs)) [] r
  rw [renL_nil (by rw [strip_ptrsL, h2]), hw]
  exact hF
theorem dat_mkF (b : Bool) : ∀ (a : AV), Vm.dat (mkF b a) = true := by
  intro a
  refine AV.rec (motive_1 := fun a => Vm.dat (mkF b a) = true) (motive_2 := fun l => dat.datL (mkF.mkL b l) = true) ?_ ?_ ?_ ?_ ?_ ?_ ?_ ?_ ?_ ?_ ?_ ?_ ?_ a
  all_goals (intros; try rfl)
  · rename_i cs ih; simp only [mkF, Vm.dat, ih]
  · rename_i a l h1 h2; simp only [mkF.mkL, dat.datL, h1, h2, Bool.and_self]
theorem mkL_map (b : Bool) : ∀ (l : List AV), mkF.mkL b l = l.map (mkF b)
  | [] => rfl
  | a :: l => by simp [mkF.mkL, mkL_map b l]
theorem datL_mkL (b : Bool) (l : List AV) : dat.datL (mkF.mkL b l) = true := by rw [mkL_map, datL_iff]; intro a ha; obtain ⟨c, _, rfl⟩ := List.mem_map.1 ha; exact dat_mkF b c
theorem noL_mkL (d : Nat) (b : Bool) (l : List AV) : noC.noL d (mkF.mkL b l) = true := by rw [mkL_map, noCL_iff]; intro a ha; obtain ⟨c, _, rfl⟩ := List.mem_map.1 ha; exact noC_mkF d b c
theorem noLB_mkL (d : Nat) (b : Bool) (l : List AV) : noB.noL d (mkF.mkL b l) = true := by rw [mkL_map, noBL_iff]; intro a ha; obtain ⟨c, _, rfl⟩ := List.mem_map.1 ha; exact noB_mkF d b c
theorem ptrs_dat : ∀ (a : AV), Vm.dat a = true → Vm.ptrs a = [] := by
  intro a
  refine AV.rec (motive_1 := fun a => Vm.dat a = true → Vm.ptrs a = []) (motive_2 := fun l => dat.datL l = true → ptrs.ptrsL l = []) ?_ ?_ ?_ ?_ ?_ ?_ ?_ ?_ ?_ ?_ ?_ ?_ ?_ a
  all_goals (intros; try rfl)
  · rename_i cs ih h; simp only [Vm.ptrs]; exact ih (by simpa only [Vm.dat] using h)
  · rename_i h; cases h
  · rename_i h; cases h
  · rename_i h; cases h
  · rename_i a l h1 h2 h
    simp only [dat.datL, Bool.and_eq_true] at h
    simp only [ptrs.ptrsL, h1 h.1, h2 h.2, List.append_nil]
theorem ptrs_mkF (b : Bool) (a : AV) : Vm.ptrs (mkF b a) = [] := ptrs_dat _ (dat_mkF b a)
theorem ptrsL_mkL (b : Bool) (l : List AV) : ptrs.ptrsL (mkF.mkL b l) = [] := by rw [ptrsL_nil]; intro a ha; rw [mkL_map] at ha; obtain ⟨c, _, rfl⟩ := List.mem_map.1 ha; exact ptrs_mkF b c
theorem stripL_mkL (b : Bool) (l : List AV) : strip.stripL (mkF.mkL b l) = mkF.mkL false l := by rw [stripL_map, mkL_map, mkL_map, List.map_map]; exact List.map_congr_left fun a _ => strip_mkF b a
theorem Pl.mkF {a : AV} (h : Pl a) : Vm.mkF false a = a := Pl.ind (p := fun a => Vm.mkF false a = a) rfl (fun _ => rfl) (fun _ _ => rfl) (fun l ih => by
  simp only [Vm.mkF, mkL_map, AV.agg.injEq]
  exact (List.map_congr_left ih).trans (List.map_id l)) a h
theorem PlL.mkL {l : List AV} (h : PlL l) : mkF.mkL false l = l := by
  rw [mkL_map]
  exact (List.map_congr_left fun a ha => (PlL_iff.1 h a ha).mkF).trans (List.map_id l)
theorem argOk_mkF (b : Bool) (a : AV) : Vm.argOk (mkF b a) = true := dat_argOk _ (dat_mkF b a)
theorem noC_slno (d : Nat) (fr : Bool) (sz : Nat) (xs : List AV) : noC d (.sl ⟨.no, fr⟩ sz xs) = true := rfl
theorem noC_slnl (d : Nat) (fr : Bool) (sz : Nat) (xs : List AV) : noC d (.sl ⟨.nl, fr⟩ sz xs) = true := rfl
theorem noC_slcl (d c : Nat) (fr : Bool) (sz : Nat) (xs : List AV) : noC d (.sl ⟨.cl c, fr⟩ sz xs) = (c / 64 != d) := rfl
theorem noC_slro (d : Nat) (sz : Nat) (xs : List AV) : noC d (.sl ro sz xs) = true := rfl
theorem noC_un (d : Nat) : noC d .un = true := rfl
theorem noC_lit (d : Nat) (v : Value) : noC d (.lit v) = true := rfl
theorem noC_ptr (d n i o : Nat) : noC d (.ptr n i o) = true := rfl
theorem noC_bs (d n i o : Nat) : noC d (.bs n i o) = true := rfl
theorem noC_ep (d : Nat) (fr : Bool) (cs : List AV) : noC d (.ep fr cs) = true := rfl
theorem noC_agg (d : Nat) (cs : List AV) : noC d (.agg cs) = noC.noL d cs := by rw [noC]
theorem noC_tup (d : Nat) (cs : List AV) : noC d (.tup cs) = noC.noL d cs := by rw [noC]
theorem noC_fn (d f : Nat) (cs : List AV) : noC d (.fn f cs) = noC.noL d cs := by rw [noC]
theorem noB_sl (d : Nat) (m : Mk) (sz : Nat) (xs : List AV) : noB d (.sl m sz xs) = true := rfl
theorem noB_un (d : Nat) : noB d .un = true := rfl
theorem noB_lit (d : Nat) (v : Value) : noB d (.lit v) = true := rfl
theorem noB_ptr (d n i o : Nat) : noB d (.ptr n i o) = (n != d) := rfl
theorem noB_bs (d n i o : Nat) : noB d (.bs n i o) = (n != d) := rfl
theorem noB_ep (d : Nat) (fr : Bool) (cs : List AV) : noB d (.ep fr cs) = true := rfl
theorem noB_agg (d : Nat) (cs : List AV) : noB d (.agg cs) = noB.noL d cs := by rw [noB]
theorem noB_tup (d : Nat) (cs : List AV) : noB d (.tup cs) = noB.noL d cs := by rw [noB]
theorem noB_fn (d f : Nat) (cs : List AV) : noB d (.fn f cs) = noB.noL d cs := by rw [noB]
theorem strip_sl (m : Mk) (sz : Nat) (xs : List AV) : Vm.strip (.sl m sz xs) = .sl (skI m) sz xs := rfl
theorem noC_slid (d k : Nat) (fr : Bool) (sz : Nat) (xs : List AV) : noC d (.sl ⟨.id k, fr⟩ sz xs) = true := rfl
theorem relab_slid (d k : Nat) (b fr : Bool) (sz : Nat) (xs : List AV) : relab d b (.sl ⟨.id k, fr⟩ sz xs) = .sl ⟨.id k, fr || b⟩ sz xs := rfl
theorem strip_agg (cs : List AV) : Vm.strip (.agg cs) = .agg (strip.stripL cs) := by rw [Vm.strip]
theorem strip_lit (v : Value) : Vm.strip (.lit v) = .lit v := rfl
theorem argOk_sl (m : Mk) (sz : Nat) (xs : List AV) : Vm.argOk (.sl m sz xs) = true := rfl
theorem argOk_lit (v : Value) : Vm.argOk (.lit v) = true := rfl
theorem argOk_agg (cs : List AV) : Vm.argOk (.agg cs) = (dat.datL cs || argOk.argL cs) := by simp [Vm.argOk]
theorem ptrs_agg (cs : List AV) : Vm.ptrs (.agg cs) = ptrs.ptrsL cs := by rw [Vm.ptrs]
theorem dat_agg (cs : List AV) : Vm.dat (.agg cs) = dat.datL cs := by rw [Vm.dat]
theorem dat_lit (v : Value) : Vm.dat (.lit v) = true := rfl
theorem dat_sl (m : Mk) (sz : Nat) (xs : List AV) : Vm.dat (.sl m sz xs) = true := rfl
theorem ptrs_lit (v : Value) : Vm.ptrs (.lit v) = [] := rfl
theorem ptrs_sl (m : Mk) (sz : Nat) (xs : List AV) : Vm.ptrs (.sl m sz xs) = [] := rfl
theorem relab_lit (d : Nat) (b : Bool) (v : Value) : relab d b (.lit v) = .lit v := rfl
theorem relab_un (d : Nat) (b : Bool) : relab d b .un = .un := rfl
theorem relab_agg (d : Nat) (b : Bool) (cs : List AV) : relab d b (.agg cs) = .agg (relab.relabL d b cs) := by rw [relab]
theorem relab_tup (d : Nat) (b : Bool) (cs : List AV) : relab d b (.tup cs) = .tup (relab.relabL d b cs) := by rw [relab]
theorem relab_slcl (d c : Nat) (b fr : Bool) (sz : Nat) (xs : List AV) : relab d b (.sl ⟨.cl c, fr⟩ sz xs) = .sl ⟨.cl (64 * d + c), fr || b⟩ sz xs := rfl
theorem relab_slno (d : Nat) (b fr : Bool) (sz : Nat) (xs : List AV) : relab d b (.sl ⟨.no, fr⟩ sz xs) = .sl ⟨.no, fr || b⟩ sz xs := rfl
theorem relab_slnl (d : Nat) (b fr : Bool) (sz : Nat) (xs : List AV) : relab d b (.sl ⟨.nl, fr⟩ sz xs) = .sl ⟨.nl, fr || b⟩ sz xs := rfl
theorem wrap_i64 {i : Int} (h0 : -9223372036854775808 ≤ i) (h1 : i ≤ 9223372036854775807) : IntKind.i64.wrap i = i := by
  unfold IntKind.wrap
  have h : IntKind.i64.signed = true := rfl
  simp [IntKind.bits, h]
  split <;> omega
attribute [simp] Pl_lit Pl_sl PlL_nil PlL_cons Pl_agg Pl.strip Pl.dat Pl.argOk Pl.noC Pl.noB Pl.ptrs noC_mkF noB_mkF strip_mkF dat_mkF datL_mkL noL_mkL noLB_mkL ptrs_mkF ptrsL_mkL stripL_mkL PlL.mkL argOk_mkF AS.noC AS.noB allV noC.noL noB.noL ptrs.ptrsL dat.datL argOk.argL strip.stripL relab.relabL
attribute [simp] noC_slid relab_slid noC_slno noC_slnl noC_slcl noC_slro noC_un noC_lit noC_ptr noC_bs noC_ep noC_agg noC_tup noC_fn noB_sl noB_un noB_lit noB_ptr noB_bs noB_ep noB_agg noB_tup noB_fn strip_sl strip_agg strip_lit argOk_sl argOk_lit argOk_agg ptrs_agg dat_agg dat_lit dat_sl ptrs_lit ptrs_sl relab_lit relab_un relab_agg relab_tup relab_slcl relab_slno relab_slnl
end Go.Proofs.YticockdhfglolaaGreatDoor.Vm
/- The laws' helpers over slices: eq. -/
namespace Go.Proofs.YticockdhfglolaaGreatDoor.Vm
open Go Go.RowKit
set_option linter.unusedVariables false
set_option linter.unusedSimpArgs false
def eqS (sz f : Nat) : VC :=
  .seq
    (.reg false [⟨some 4, .as (.c (.lit (.bool false))), none⟩] [4])
    (.seq
      (.seq
        (.reg false [⟨some 6, .mv (.t 0), none⟩,
          ⟨some 7, .len false (.t 6), none⟩,
          ⟨some 8, .mv (.t 1), none⟩,
          ⟨some 9, .len false (.t 8), none⟩,
          ⟨some 10, .bin .neq 0 (.t 7) (.t 9), none⟩] [6, 7, 8, 9])
        (.cond (.t 10)
          (.seq
            (.reg false [⟨some 4, .as (.c (.lit (.bool false))), none⟩] [])
            (.ret))
          (.skip)))
      (.seq
        (.seq
          (.reg false [⟨some 5, .as (.c (.lit (.int .i64 0))), none⟩] [])
          (.block 0
            (.loop
              (.seq
                (.seq
                  (.reg false [⟨some 11, .mv (.t 5), none⟩,
                    ⟨some 12, .mv (.t 0), none⟩,
                    ⟨some 13, .len false (.t 12), none⟩,
                    ⟨some 14, .bin .lss 0 (.t 11) (.t 13), none⟩] [11, 12, 13])
                  (.cond (.t 14)
                    (.skip)
                    (.exit 0)))
                (.seq
                  (.block 1
                    (.seq
                      (.reg true [⟨some 17, .mv (.t 0), none⟩,
                        ⟨some 18, .mv (.t 5), none⟩,
                        ⟨some 19, .ia sz (.t 17) (.t 18), none⟩,
                        ⟨some 20, .ld true sz (.t 19), none⟩,
                        ⟨some 21, .mv (.t 1), none⟩,
                        ⟨some 22, .mv (.t 5), none⟩,
                        ⟨some 23, .ia sz (.t 21) (.t 22), none⟩,
                        ⟨some 24, .ld true sz (.t 23), none⟩,
                        ⟨some 25, .call true f [(.t 20), (.t 24)], none⟩,
                        ⟨some 26, .un .not (.t 25), none⟩] [17, 18, 19, 20, 21, 22, 23, 24, 25])
                      (.cond (.t 26)
                        (.seq
                          (.reg false [⟨some 4, .as (.c (.lit (.bool false))), none⟩] [])
                          (.ret))
                        (.skip))))
                  (.reg false [⟨some 15, .mv (.t 5), none⟩,
                    ⟨some 16, .bin .add 0 (.t 15) (.c (.lit (.int .i64 1))), none⟩,
                    ⟨some 5, .as (.t 16), none⟩] [15, 16]))))))
        (.seq
          (.reg false [⟨some 4, .as (.c (.lit (.bool true))), none⟩] [])
          (.ret))))
def all2 {α β : Type} (p : α → β → Bool) : List α → List β → Bool
  | [], [] => true
  | a :: l, b :: m => p a b && all2 p l m
  | _, _ => false
theorem all2_false {α β : Type} {p : α → β → Bool} : ∀ {l : List α} {m : List β} {i : Nat} {a : α} {b : β}, l[i]? = some a → m[i]? = some b → p a b = false → all2 p l m = false
  | [], _, _, _, _, h, _, _ => by simp at h
  | _ :: _, [], _, _, _, _, h, _ => by simp at h
  | a :: l, b :: m, 0, _, _, h1, h2, h => by
    simp at h1 h2
    subst h1 h2
    simp [all2, h]
  | a :: l, b :: m, i + 1, _, _, h1, h2, h => by
    simp [all2, all2_false (l := l) (m := m) (i := i) (by simpa using h1) (by simpa using h2) h]
theorem all2_true {α β : Type} {p : α → β → Bool} : ∀ {l : List α} {m : List β}, l.length = m.length → (∀ (i : Nat) (a : α) (b : β), l[i]? = some a → m[i]? = some b → p a b = true) → all2 p l m = true
  | [], [], _, _ => rfl
  | [], _ :: _, h, _ => by simp at h
  | _ :: _, [], h, _ => by simp at h
  | a :: l, b :: m, hl, h => by
    simp only [all2, h 0 a b rfl rfl, Bool.true_and]
    exact all2_true (by simpa using hl) fun i a b h1 h2 => h (i + 1) a b (by simpa using h1) (by simpa using h2)
theorem all2_len {α β : Type} {p : α → β → Bool} : ∀ {l : List α} {m : List β}, l.length ≠ m.length → all2 p l m = false
  | [], [], h => by simp at h
  | [], _ :: _, _ => rfl
  | _ :: _, [], _ => rfl
  | a :: l, b :: m, h => by simp [all2, all2_len (l := l) (m := m) (by simpa using h)]
variable {E : Env}
theorem eqS_fx {n nt sz f : Nat} (h : Is E.P n nt (eqS sz f) [.t 4]) (hnt : 2 ≤ nt) {α β : Type} {a : α → List AV} {b : β → List AV} {p : α → β → Bool} (ha : ∀ x, PlL (a x)) (hb : ∀ x, PlL (b x)) (hla : ∀ x, (a x).length = sz) (hlb : ∀ x, (b x).length = sz)
    (xs : List α) (hf : ∀ x y, x ∈ xs → Fx E f [] [.agg (a x), .agg (b y)] [] (.lit (.bool (p x y)))) (ys : List β) (hxs : xs.length ≤ 9223372036854775807) : Fx E n [] [.sl ro sz (xs.map fun x => .agg (a x)), .sl ro sz (ys.map fun y => .agg (b y))] [] (.lit (.bool (all2 p xs ys))) := by
  refine h.fx [] (by simpa using hnt) rfl rfl ?_
  simp [eqS]
  by_cases hl : (xs.length : Int) = ys.length
  · simp [hl]
    have hl' : xs.length = ys.length := by omega
    refine X_loop (τ := Nat) (fun i => ⟨[(0, .sl ro sz (xs.map fun x => .agg (a x))), (1, .sl ro sz (ys.map fun y => .agg (b y))), (5, .lit (.int .i64 i))], []⟩) (fun i => i ≤ xs.length ∧ ∀ (k : Nat) x y, k < i → xs[k]? = some x → ys[k]? = some y → p x y = true) (fun i => xs.length - i) 0 (by simp) (Wk.both (by simp [wkL, wkV.same]) trivial) ?_
    rintro i ⟨hi, hall⟩
    simp
    by_cases hlt : i < xs.length
    · have hlt2 : i < ys.length := by omega
      simp [hlt, hlt2, hla, hlb]
      refine vcall_go (hf xs[i] ys[i] (List.getElem_mem hlt)) (by simp [hla, hlb, List.take_of_length_le, ha, hb]) (by simp) (by simp) (by simp) ?_
      cases hp : p xs[i] ys[i]
      · simp
        exact Fin_ret rfl (by rw [all2_false (List.getElem?_eq_getElem hlt) (List.getElem?_eq_getElem hlt2) hp]; rfl)
      · simp
        refine ⟨i + 1, ⟨by omega, fun k x y hk hx hy => ?_⟩, by omega, Wk.both (by simp [wkL, wkV.same]; rw [wrap_i64 (by omega) (by omega)]; exact wkV.same _) trivial⟩
        rcases Nat.lt_succ_iff_lt_or_eq.1 hk with hk | rfl
        · exact hall k x y hk hx hy
        · rw [List.getElem?_eq_getElem hlt] at hx
          rw [List.getElem?_eq_getElem hlt2] at hy
          rw [← Option.some.inj hx, ← Option.some.inj hy]
          exact hp
    · simp [hlt]
      exact Fin_ret rfl (by rw [all2_true hl' fun k x y hx hy => hall k x y (by have := (List.getElem?_eq_some_iff.1 hx).1; omega) hx hy]; rfl)
  · simp [hl]
    have hl' : xs.length ≠ ys.length := by omega
    exact Fin_ret rfl (by simp [reC, all2_len hl'])
end Go.Proofs.YticockdhfglolaaGreatDoor.Vm
/- The laws' helpers over slices: sz. -/
namespace Go.Proofs.YticockdhfglolaaGreatDoor.Vm
open Go Go.RowKit
set_option linter.unusedVariables false
set_option linter.unusedSimpArgs false
theorem Is.to {E : Env} {P : Program} {f nt : Nat} {vc : VC} {rs : List VR} (h : Is P f nt vc rs) (hE : E.P = P) : Is E.P f nt vc rs := hE ▸ h
def szS (sz f : Nat) : VC :=
  .seq
    (.reg false [⟨some 4, .as (.c (.lit (.int .i64 0))), none⟩] [4])
    (.seq
      (.reg false [⟨some 6, .mv (.t 1), none⟩,
        ⟨some 7, .mv (.t 0), none⟩,
        ⟨some 8, .len false (.t 7), none⟩,
        ⟨some 9, .bin .sub 0 (.t 6) (.t 8), none⟩,
        ⟨some 1, .as (.t 9), none⟩] [6, 7, 8, 9])
      (.seq
        (.seq
          (.reg false [⟨some 10, .mv (.t 1), none⟩,
            ⟨some 11, .bin .lss 0 (.t 10) (.c (.lit (.int .i64 0))), none⟩] [10])
          (.cond (.t 11)
            (.seq
              (.reg false [⟨some 4, .as (.c (.lit (.int .i64 (-1)))), none⟩] [])
              (.ret))
            (.skip)))
        (.seq
          (.seq
            (.reg false [⟨some 5, .as (.c (.lit (.int .i64 0))), none⟩] [])
            (.block 0
              (.loop
                (.seq
                  (.seq
                    (.reg false [⟨some 12, .mv (.t 5), none⟩,
                      ⟨some 13, .mv (.t 0), none⟩,
                      ⟨some 14, .len false (.t 13), none⟩,
                      ⟨some 15, .bin .lss 0 (.t 12) (.t 14), none⟩] [12, 13, 14])
                    (.cond (.t 15)
                      (.skip)
                      (.exit 0)))
                  (.seq
                    (.block 1
                      (.seq
                        (.reg false [⟨some 18, .mv (.t 0), none⟩,
                          ⟨some 19, .mv (.t 5), none⟩,
                          ⟨some 20, .ia sz (.t 18) (.t 19), none⟩,
                          ⟨some 21, .ld true sz (.t 20), none⟩,
                          ⟨some 22, .mv (.t 1), none⟩,
                          ⟨some 23, .call false f [(.t 21), (.t 22)], none⟩,
                          ⟨some 1, .as (.t 23), none⟩] [18, 19, 20, 21, 22, 23])
                        (.seq
                          (.reg false [⟨some 24, .mv (.t 1), none⟩,
                            ⟨some 25, .bin .lss 0 (.t 24) (.c (.lit (.int .i64 0))), none⟩] [24])
                          (.cond (.t 25)
                            (.seq
                              (.reg false [⟨some 4, .as (.c (.lit (.int .i64 (-1)))), none⟩] [])
                              (.ret))
                            (.skip)))))
                    (.reg false [⟨some 16, .mv (.t 5), none⟩,
                      ⟨some 17, .bin .add 0 (.t 16) (.c (.lit (.int .i64 1))), none⟩,
                      ⟨some 5, .as (.t 17), none⟩] [16, 17]))))))
          (.seq
            (.reg false [⟨some 26, .mv (.t 1), none⟩,
              ⟨some 4, .as (.t 26), none⟩] [26])
            (.ret)))))
/-- what is left of 'l' behind the elements -/
def szGo {α : Type} (f : α → Int → Int) : List α → Int → Int
  | [], l => l
  | x :: xs, l => if f x l < 0 then -1 else szGo f xs (f x l)
def szL {α : Type} (f : α → Int → Int) (xs : List α) (l : Int) : Int := if l - xs.length < 0 then -1 else szGo f xs (l - xs.length)
theorem szGo_le {α : Type} {f : α → Int → Int} : ∀ {xs : List α} {l : Int}, (∀ x ∈ xs, ∀ l, 0 ≤ l → f x l ≤ l) → 0 ≤ l → szGo f xs l ≤ l
  | [], l, _, _ => Int.le_refl l
  | x :: xs, l, h, h0 => by
    simp only [szGo]
    have h1 := h x List.mem_cons_self l h0
    split
    · omega
    · rename_i h2
      have := szGo_le (xs := xs) (l := f x l) (fun y hy => h y (List.mem_cons_of_mem _ hy)) (by omega)
      omega
theorem szL_le {α : Type} {f : α → Int → Int} {xs : List α} {l : Int} (h : ∀ x ∈ xs, ∀ l, 0 ≤ l → f x l ≤ l) (h0 : 0 ≤ l) : szL f xs l ≤ l := by
  unfold szL
  split
  · omega
  · have := szGo_le (xs := xs) (l := l - xs.length) h (by omega)
    omega
def szIf (l : Int) (k : Int → Int) : Int := if l < 0 then -1 else k l
theorem szIf_neg {l : Int} {k : Int → Int} (h : l < 0) : szIf l k = -1 := by unfold szIf; rw [if_pos h]
theorem szIf_pos {l : Int} {k : Int → Int} (h : ¬ l < 0) : szIf l k = k l := by unfold szIf; rw [if_neg h]
theorem szIf_le {l m : Int} {k : Int → Int} (h : l ≤ m) (h0 : 0 ≤ m) (hk : 0 ≤ l → k l ≤ m) : szIf l k ≤ m := by
  unfold szIf
  split
  · omega
  · exact hk (by omega)
variable {E : Env}
theorem szS_fx {n nt sz f : Nat} (h : Is E.P n nt (szS sz f) [.t 4]) (hnt : 2 ≤ nt) {α : Type} {a : α → List AV} {g : α → Int → Int} {G : α → Prop} (ha : ∀ x, PlL (a x)) (hla : ∀ x, (a x).length = sz)
    (hf : ∀ x l, G x → 0 ≤ l → l ≤ 1048576 → Fx E f [] [.agg (a x), .lit (.int .i64 l)] [] (.lit (.int .i64 (g x l)))) (hg : ∀ x l, 0 ≤ l → g x l ≤ l) (xs : List α) (hG : ∀ x ∈ xs, G x) (l : Int) (hl : 0 ≤ l) (hl2 : l ≤ 1048576) (hxs : xs.length ≤ 9223372036854775807) : Fx E n [] [.sl ro sz (xs.map fun x => .agg (a x)), .lit (.int .i64 l)] [] (.lit (.int .i64 (szL g xs l))) := by
  refine h.fx [] (by simpa using hnt) rfl rfl ?_
  simp [szS]
  rw [wrap_i64 (by omega) (by omega)]
  by_cases h0 : l - xs.length < 0
  · simp [h0]
    exact Fin_ret rfl (by simp [szL, h0, reC])
  · simp [h0]
    refine X_loop (τ := Nat × Int) (fun p => ⟨[(0, .sl ro sz (xs.map fun x => .agg (a x))), (1, .lit (.int .i64 p.2)), (5, .lit (.int .i64 p.1))], []⟩) (fun p => p.1 ≤ xs.length ∧ 0 ≤ p.2 ∧ p.2 ≤ 1048576 ∧ szL g xs l = szGo g (xs.drop p.1) p.2) (fun p => xs.length - p.1) (0, l - xs.length) (by simp [szL, h0]; omega) (Wk.both (by simp [wkL, wkV.same]) trivial) ?_
    rintro ⟨i, k⟩ ⟨hi, hk, hk2, he⟩
    simp only at hi hk hk2 he
    simp
    by_cases hlt : i < xs.length
    · have hd : xs.drop i = xs[i] :: xs.drop (i + 1) := List.drop_eq_getElem_cons hlt
      rw [hd, szGo] at he
      simp [hlt, hla]
      refine vcall_go (hf xs[i] k (hG _ (List.getElem_mem hlt)) hk hk2) (by simp [hla, List.take_of_length_le, ha]) (by simp) (by simp) (by simp) ?_
      simp
      by_cases hn : g xs[i] k < 0
      · simp [hn]
        rw [if_pos hn] at he
        exact Fin_ret rfl (by rw [he]; rfl)
      · simp [hn]
        rw [if_neg hn] at he
        have := hg xs[i] k hk
        refine ⟨i + 1, g xs[i] k, ⟨by omega, by omega, by omega, he⟩, by omega, Wk.both (by simp [wkL, wkV.same]; rw [wrap_i64 (by omega) (by omega)]; exact wkV.same _) trivial⟩
    · have : i = xs.length := by omega
      subst this
      simp
      simp [szGo] at he
      exact Fin_ret rfl (by rw [he]; rfl)
end Go.Proofs.YticockdhfglolaaGreatDoor.Vm
/- The laws' helpers over slices: to. -/
namespace Go.Proofs.YticockdhfglolaaGreatDoor.Vm
open Go Go.RowKit
set_option linter.unusedVariables false
set_option linter.unusedSimpArgs false
def toS (sz byt : Nat) (z : AV) (f : Nat) : VC :=
  .seq
    (.reg false [⟨some 2, .as (.c (.sl ⟨.nl, true⟩ 1 [])), none⟩] [2])
    (.seq
      (.reg false [⟨some 5, .mv (.t 0), none⟩,
        ⟨some 6, .len false (.t 5), none⟩,
        ⟨some 7, .mks sz byt z (.t 6), none⟩,
        ⟨some 3, .as (.t 7), none⟩] [5, 6, 7])
      (.seq
        (.seq
          (.reg false [⟨some 4, .as (.c (.lit (.int .i64 0))), none⟩] [])
          (.block 0
            (.loop
              (.seq
                (.seq
                  (.reg false [⟨some 8, .mv (.t 4), none⟩,
                    ⟨some 9, .mv (.t 0), none⟩,
                    ⟨some 10, .len false (.t 9), none⟩,
                    ⟨some 11, .bin .lss 0 (.t 8) (.t 10), none⟩] [8, 9, 10])
                  (.cond (.t 11)
                    (.skip)
                    (.exit 0)))
                (.seq
                  (.block 1
                    (.reg false [⟨some 14, .mv (.t 3), none⟩,
                      ⟨some 15, .mv (.t 4), none⟩,
                      ⟨some 16, .mv (.t 0), none⟩,
                      ⟨some 17, .mv (.t 4), none⟩,
                      ⟨some 18, .ia sz (.t 16) (.t 17), none⟩,
                      ⟨some 19, .ld true sz (.t 18), none⟩,
                      ⟨some 20, .call false f [(.t 19)], none⟩,
                      ⟨some 21, .ia sz (.t 14) (.t 15), none⟩,
                      ⟨none, .st sz (.t 21) (.t 20), none⟩] [14, 15, 16, 17, 18, 19, 20, 21]))
                  (.reg false [⟨some 12, .mv (.t 4), none⟩,
                    ⟨some 13, .bin .add 0 (.t 12) (.c (.lit (.int .i64 1))), none⟩,
                    ⟨some 4, .as (.t 13), none⟩] [12, 13]))))))
        (.seq
          (.reg false [⟨some 22, .mv (.t 3), none⟩,
            ⟨some 2, .as (.t 22), none⟩] [22])
          (.ret))))
theorem relab_mkT (t : Nat) (b : Bool) : ∀ (a : AV), relab t b (mkF true a) = mkF true a := by
  intro a
  refine AV.rec (motive_1 := fun a => relab t b (mkF true a) = mkF true a) (motive_2 := fun l => relab.relabL t b (mkF.mkL true l) = mkF.mkL true l) ?_ ?_ ?_ ?_ ?_ ?_ ?_ ?_ ?_ ?_ ?_ ?_ ?_ a
  all_goals (intros; try rfl)
  · rename_i m sz cs _; obtain ⟨ap, fr⟩ := m; cases ap <;> rfl
  · rename_i cs ih; simp only [mkF, relab, ih]
  · rename_i a l h1 h2; simp only [mkF.mkL, relab.relabL, h1, h2]
theorem relabL_mkT (t : Nat) (b : Bool) (l : List AV) : relab.relabL t b (mkF.mkL true l) = mkF.mkL true l := by
  induction l with
  | nil => rfl
  | cons a l ih => simp only [mkF.mkL, relab.relabL, relab_mkT, ih]
theorem frA_mkT : ∀ (a : AV), frA (mkF true a) = true := by
  intro a
  refine AV.rec (motive_1 := fun a => frA (mkF true a) = true) (motive_2 := fun l => frA.frL (mkF.mkL true l) = true) ?_ ?_ ?_ ?_ ?_ ?_ ?_ ?_ ?_ ?_ ?_ ?_ ?_ a
  all_goals (intros; try rfl)
  · rename_i m sz cs _; exact mkI_fr true m
  · rename_i cs ih; simp only [mkF, frA, ih]
  · rename_i a l h1 h2; simp only [mkF.mkL, frA.frL, h1, h2, Bool.and_self]
theorem frL_mkT (l : List AV) : frA.frL (mkF.mkL true l) = true := by
  induction l with
  | nil => rfl
  | cons a l ih => simp only [mkF.mkL, frA.frL, frA_mkT, ih, Bool.and_self]
theorem okC_mkF (b : Bool) (a : AV) (h : okC a = true) (hd : dat a = true) : okC (mkF b a) = true := by
  cases a with
  | un => cases h
  | lit => rfl
  | sl => rfl
  | agg => cases h
  | _ => cases hd
theorem allOk_mkL (b : Bool) {l : List AV} (h : l.all okC = true) (hp : PlL l) : (mkF.mkL b l).all okC = true := by
  rw [List.all_eq_true] at h ⊢
  intro c hc
  rw [mkL_map] at hc
  obtain ⟨a, ha, rfl⟩ := List.mem_map.1 hc
  exact okC_mkF b a (h a ha) (PlL_iff.1 hp a ha).dat
theorem upd_all {α : Type} {l m : List α} (h : m.length = l.length) : upd l 0 m = m := by
  unfold upd
  simp [List.drop_eq_nil_of_le (show l.length ≤ m.length by omega)]
attribute [simp] relab_mkT relabL_mkT frA_mkT frL_mkT mkL_len
/-- a row that is filled from the front -/
def row {α : Type} (F : α → AV) (z : AV) (xs : List α) (i : Nat) : List AV := (xs.take i).map F ++ List.replicate (xs.length - i) z
theorem row_get {α : Type} (F : α → AV) (z : AV) (xs : List α) (i : Nat) (h : i < xs.length) : (row F z xs i)[i]? = some z := by
  unfold row
  rw [List.getElem?_append_right (by simp; omega)]
  simp [List.getElem?_replicate]; omega
theorem row_set {α : Type} (F : α → AV) (z : AV) (xs : List α) (i : Nat) (h : i < xs.length) : (row F z xs i).set i (F xs[i]) = row F z xs (i + 1) := by
  unfold row
  rw [List.set_append_right _ _ (by simp; omega)]
  rw [show xs.length - i = (xs.length - (i + 1)) + 1 by omega, List.replicate_succ]
  have hl : i - ((xs.take i).map F).length = 0 := by simp; omega
  rw [hl, List.set_cons_zero, List.take_succ_eq_append_getElem h, List.map_append, List.append_assoc]
  rfl
theorem row_all {α : Type} (F : α → AV) (z : AV) (xs : List α) : row F z xs xs.length = xs.map F := by
  unfold row; simp
theorem row_zero {α : Type} (F : α → AV) (z : AV) (xs : List α) : row F z xs 0 = List.replicate xs.length z := by
  unfold row; simp
theorem row_mem {α : Type} {F : α → AV} {z : AV} {xs : List α} {i : Nat} {c : AV} (h : c ∈ row F z xs i) : (∃ x ∈ xs, c = F x) ∨ c = z := by
  unfold row at h
  rcases List.mem_append.1 h with h | h
  · obtain ⟨x, hx, rfl⟩ := List.mem_map.1 h
    exact .inl ⟨x, List.mem_of_mem_take hx, rfl⟩
  · exact .inr (List.eq_of_mem_replicate h)
theorem row_noC {α : Type} {F : α → AV} {z : AV} {xs : List α} {i : Nat} {d : Nat} (hF : ∀ x, noC d (F x) = true) (hz : noC d z = true) : noC.noL d (row F z xs i) = true := noCL_iff.2 fun c hc => by
  rcases row_mem hc with ⟨x, _, rfl⟩ | rfl
  · exact hF x
  · exact hz
theorem le_mul_cast {a b c : Nat} (h : a * b ≤ c) : (a : Int) * (b : Int) ≤ (c : Int) := by
  rw [← Int.natCast_mul]; exact Int.ofNat_le.2 h
/-- The end, a row told as a list. -/
theorem Fin_row {K : Nat → Prop} {rs : List VR} {r : AV} {ks : List Nat} {env : List (Nat × AV)} {bxs : List (Nat × List AV)} (t n sz len : Nat) (l : List AV) (hn : 1000000000000 ≤ n) (h1 : look env t = some (.bs n sz len)) (h2 : look bxs n = some l) (h3 : len = l.length) (h4 : l.all (fun e => frA e && dat e) = true) {r' : AV} (h5 : resVs ⟨setL t (.sl ⟨.no, true⟩ sz (strip.stripL l)) env, bxs.filter fun p => p.1 != n⟩ rs = some [r']) (h6 : r = reC ks r') : FinK K rs r ks .ret ⟨env, bxs⟩ :=
  ⟨.inr rfl, _, .frz ⟨env, bxs⟩ t n sz len l hn h1 h2 h3 h4, _, h5, h6⟩
variable {E : Env}
theorem toS_fx {n nt sz byt f : Nat} {zc : List AV} (h : Is E.P n nt (toS sz byt (.agg zc) f) [.t 2]) (hnt : 2 ≤ nt) {α : Type} {a : α → List AV} (hzl : zc.length = sz) (hzo : zc.all okC = true) (hzB : noB.noL 1000000000007 zc = true) (hzC : noC.noL 20 zc = true) (ha : ∀ x, PlL (a x)) (hao : ∀ x, (a x).all okC = true) (hla : ∀ x, (a x).length = sz) (h0 : 0 < sz)
    (xs : List α) (hf : ∀ x ∈ xs, Fx E f [] [.agg (a x)] [] (.agg (mkF.mkL true (a x)))) (hb : xs.length * byt ≤ 70368744177664) (hxs : xs.length ≤ 1048576) : Fx E n [] [.sl ro sz (xs.map fun x => .agg (a x))] [] (.sl ⟨.no, true⟩ sz (xs.map fun x => .agg (a x))) := by
  refine h.fx [] (by simp; omega) rfl rfl ?_
  simp [toS, hzo, hzB, hzl]
  refine ⟨le_mul_cast hb, by omega, ?_⟩
  refine X_loop (τ := Nat) (fun i => ⟨[(0, .sl ro sz (xs.map fun x => .agg (a x))), (3, .bs 1000000000007 sz xs.length), (4, .lit (.int .i64 i))], [(1000000000007, row (fun x => .agg (mkF.mkL true (a x))) (.agg zc) xs i)]⟩) (fun i => i ≤ xs.length) (fun i => xs.length - i) 0 (by simp) (Wk.both (by simp [wkL, wkV.same]) (by simp [wkB, row_zero])) ?_
  intro i hi
  simp
  by_cases hlt : i < xs.length
  · simp [hlt, hla]
    refine vcall_go (hf xs[i] (List.getElem_mem hlt)) (by simp [hla, List.take_of_length_le, ha]) (by simp) (by simp) (by
      simp; exact row_noC (fun x => by simp) (by simpa using hzC)) ?_
    simp [hlt, hla, h0, row_get, hzl, allOk_mkL true (hao _) (ha _)]
    have hp : putElem (.agg zc) 0 (.agg (mkF.mkL true (a xs[i]))) = .agg (mkF.mkL true (a xs[i])) := by
      simp only [putElem, AV.cells]
      rw [upd_all (by simp [hla, hzl])]
    rw [hp, row_set (fun x => .agg (mkF.mkL true (a x))) (.agg zc) xs i hlt]
    refine ⟨i + 1, by omega, by omega, Wk.both (by simp [wkL, wkV.same]; rw [wrap_i64 (by omega) (by omega)]; exact wkV.same _) (by simp [wkB])⟩
  · have : i = xs.length := by omega
    subst this
    simp
    rw [row_all]
    refine Fin_row 2 1000000000007 sz xs.length (xs.map fun x => .agg (mkF.mkL true (a x))) (by omega) rfl rfl (by simp) (by simp [frA, frL_mkT]) rfl ?_
    refine congrArg (AV.sl ⟨.no, true⟩ sz) (?_ : xs.map (fun x => .agg (a x)) = strip.stripL (xs.map fun x => .agg (mkF.mkL true (a x))))
    rw [stripL_map, List.map_map]
    exact List.map_congr_left fun x _ => by simp [ha]
end Go.Proofs.YticockdhfglolaaGreatDoor.Vm
/- An abstract machine over values: functions with a box. -/
namespace Go.Proofs.YticockdhfglolaaGreatDoor.Vm
open Go Go.RowKit
set_option linter.unusedVariables false
set_option linter.unusedSimpArgs false
end Go.Proofs.YticockdhfglolaaGreatDoor.Vm
/- An abstract machine over values: what an argument that can be read as data holds. -/
namespace Go.Proofs.YticockdhfglolaaGreatDoor.Vm
open Go Go.RowKit Go.ChangeShapes Go.WideShapes
set_option linter.unusedVariables false
set_option linter.unusedSimpArgs false
/-- All that the memory holds. -/
def hG (w : World) : Gh := fun b o => match w.heap[b]? with
  | some (.cells c _ _) => c[o]?
  | _ => none
theorem agree_hG (w : World) : Agree (hG w) w := by
  intro b o v h
  unfold hG at h
  split at h
  · rename_i c ty fz hb; exact ⟨c, ty, fz, hb, h⟩
  · cases h
theorem hG_cell {w : World} {a : Addr} {v : Value} (h : w.cell? a = some v) : a.spot = none ∧ hG w a.block a.off = some v := by
  unfold World.cell? at h
  unfold hG
  split at h
  · rename_i c ty fz hb
    rw [hb]
    split at h
    · cases h
    · rename_i hs
      refine ⟨?_, h⟩
      cases hh : a.spot with
      | none => rfl
      | some k => rw [hh] at hs; exact absurd rfl hs
  · cases h
/-- Cells that are as the abstract ones tell. -/
def Cells (w : World) (cs : List Value) (l : List AV) : Prop := cs.length = l.length ∧ ∀ (j : Nat) (c : AV), l[j]? = some c → ∃ v, cs[j]? = some v ∧ v.oneCell' = true ∧ RepD (hG w) (fun _ => none) v c
/-- Data of type t, read out of cells, are as 'av' tells of a good value. -/
structure OpA {α : Type} (B : Nat) (P : Program) (t : TypeId) (n : Nat) (av : α → AV) (G : α → Prop) : Prop where
  size : P.cellsOf t = n
  len : ∀ a, (av a).cells.length = n
  out : ∀ {H : Type} {enc : TypeId × Value → H} {w : World} {base : Nat} {spare : Nat → Bool} {held : Bool} {fuel : Nat} {cs : List Value} {x : DataW H × List MemPlace}, fuel ≤ B →
    DataW.trod enc P w base spare held fuel t cs = some x → ∃ a : α, Cells w cs (av a).cells ∧ G a
/-- The same of a struct's fields from the o-th cell on. -/
structure OpSeg {α : Type} (B : Nat) (P : Program) (fs : List Field) (o n : Nat) (g : α → List AV) (G : α → Prop) : Prop where
  len : ∀ a, (g a).length = n
  out : ∀ {H : Type} {enc : TypeId × Value → H} {w : World} {base : Nat} {spare : Nat → Bool} {held : Bool} {fuel : Nat} {cs : List Value}, fuel ≤ B →
    (∀ (i : Nat) (f : Field), fs[i]? = some f → ∃ y, DataW.trod enc P w base spare held fuel f.type ((cs.drop f.offset).take (P.cellsOf f.type)) = some y) → cs.length = o + n → ∃ a : α, Cells w (cs.drop o) (g a) ∧ G a
section
variable {B : Nat} {P : Program} {t e : TypeId} {α β : Type} {n : Nat} {av : α → AV} {G : α → Prop}
theorem addr_block (a : Addr) (k : Nat) : (a.add k).block = a.block := by unfold Addr.add; split <;> rfl
theorem addr_off (a : Addr) (k : Nat) : (a.add k).off = a.off + k := by unfold Addr.add; split <;> simp [*]
theorem cells_one {w : World} {v : Value} (h : v.oneCell' = true) : Cells w [v] [.lit v] := by
  refine ⟨rfl, fun j c hc => ?_⟩
  cases j with
  | zero =>
    obtain rfl : AV.lit v = c := by simpa using hc
    exact ⟨v, rfl, h, .lit v h⟩
  | succ j => simp at hc
theorem OpA.string (ht : P.underlying t = some .string) (hc : P.cellsOf t = 1) : OpA B P t 1 (fun s : ByteArray => .lit (.string s)) (fun s => s.size ≤ 9223372036854775807) where
  size := hc
  len := fun _ => rfl
  out := fun _ h => by
    obtain ⟨s, h1, _, h2⟩ := DataW.trod_string ht h
    exact ⟨s, by rw [h1]; exact cells_one rfl, by simpa [maxLen] using h2⟩
theorem OpA.bool (ht : P.underlying t = some .bool) (hc : P.cellsOf t = 1) : OpA B P t 1 (fun b : Bool => .lit (.bool b)) (fun _ => True) where
  size := hc
  len := fun _ => rfl
  out := fun _ h => by
    obtain ⟨b, h1, _⟩ := DataW.trod_bool ht h
    exact ⟨b, by rw [h1]; exact cells_one rfl, trivial⟩
theorem OpA.int {k : IntKind} (ht : P.underlying t = some (.int k)) (hc : P.cellsOf t = 1) : OpA B P t 1 (fun i : Int => .lit (.int k i)) (fun i => (Lit.int k i).wf = true) where
  size := hc
  len := fun _ => rfl
  out := fun _ h => by
    obtain ⟨i, h1, _, hw⟩ := DataW.trod_int ht h
    exact ⟨i, by rw [h1]; exact cells_one rfl, hw⟩
def GoodL {α : Type} (G : α → Prop) (xs : List α) : Prop := xs.length ≤ 9223372036854775807 ∧ ∀ x ∈ xs, G x
theorem OpA.slice (ht : P.underlying t = some (.slice e)) (hc : P.cellsOf t = 1) (he : OpA B P e n av G) (hn : 0 < n) : OpA B P t 1 (fun xs : List α => .sl ro n (xs.map av)) (GoodL G) where
  size := hc
  len := fun _ => rfl
  out := fun {H enc w base spare held fuel cs x} hB h => by
    rcases DataW.trod_slice ht h with ⟨h1, _⟩ | ⟨a, len, cap, elems, rest, m, hm0, rfl, _, hb, hl, hm, hlen, hel, _, _⟩
    · refine ⟨[], ?_, by simp [GoodL]⟩
      rw [h1]
      refine ⟨rfl, fun j c hc => ?_⟩
      cases j with
      | zero =>
        obtain rfl : AV.sl ro n [] = c := by simpa [AV.cells] using hc
        exact ⟨_, rfl, rfl, .sl none 0 0 _ n [] 0 0 (fun _ _ => default) rfl (Nat.le_refl _) (fun h => absurd rfl h) (by simp) (by simp) (by simp) (fun _ _ h => absurd rfl h)⟩
      | succ j => simp [AV.cells] at hc
    · have each : ∀ i, i < len → ∃ q : α, G q ∧ ∃ cs', w.cells? base (a.add (i * P.cellsOf e)) (P.cellsOf e) = some cs' ∧ Cells w cs' (av q).cells := by
        intro i hi
        have h1 := hel i hi
        rw [List.getElem?_eq_getElem (by omega : i < elems.length)] at h1
        obtain ⟨cs', h2, h3⟩ := Option.bind_eq_some_iff.1 h1
        obtain ⟨q, hq, hg⟩ := he.out (by omega) h3
        exact ⟨q, hg, cs', h2, hq⟩
      have ⟨V, hV⟩ : ∃ xs : List α, xs.length = len ∧ ∀ i q, xs[i]? = some q → G q ∧ ∃ cs', w.cells? base (a.add (i * P.cellsOf e)) (P.cellsOf e) = some cs' ∧ Cells w cs' (av q).cells := by
        clear hlen hel
        have hall : ∀ k, k ≤ len → ∃ xs : List α, xs.length = k ∧ ∀ i q, xs[i]? = some q → G q ∧ ∃ cs', w.cells? base (a.add (i * P.cellsOf e)) (P.cellsOf e) = some cs' ∧ Cells w cs' (av q).cells := by
          intro k
          induction k with
          | zero => intro _; exact ⟨[], rfl, fun i q h => by simp at h⟩
          | succ k ih =>
            intro hk
            obtain ⟨xs, h1, h2⟩ := ih (by omega)
            obtain ⟨q, hq⟩ := each k (by omega)
            refine ⟨xs ++ [q], by simp [h1], fun i p hp => ?_⟩
            rcases Nat.lt_trichotomy i k with hi | hi | hi
            · rw [List.getElem?_append_left (by omega)] at hp; exact h2 i p hp
            · subst hi
              rw [List.getElem?_append_right (by omega), h1] at hp
              simp at hp; subst hp; exact hq
            · rw [List.getElem?_eq_none (by simp; omega)] at hp; cases hp
        exact hall len (Nat.le_refl _)
      obtain ⟨rfl, hV2⟩ := hV
      have h63 : V.length ≤ 9223372036854775807 := by
        have : cap ≤ 9223372036854775807 := by simpa [maxLen] using hm
        omega
      have hcell : ∀ (i : Nat) (q : α) (j : Nat) (c : AV), V[i]? = some q → (av q).cells[j]? = some c → ∃ v, (i * n + j = 0 → a.spot = none) ∧ hG w a.block (a.off + i * n + j) = some v ∧ v.oneCell' = true ∧ RepD (hG w) (fun _ => none) v c := by
        intro i q j c hi hj
        obtain ⟨_, cs', h1, h2⟩ := hV2 i q hi
        obtain ⟨_, hlen', hcl⟩ := World.cells?_some h1
        obtain ⟨v, v1, v2, v3⟩ := h2.2 j c hj
        have hjn : j < n := by have := (List.getElem?_eq_some_iff.1 hj).1; rw [he.len] at this; exact this
        have hcc := hcl j (by rw [he.size]; exact hjn)
        rw [v1, he.size, Addr.add_add] at hcc
        obtain ⟨s1, s2⟩ := hG_cell hcc
        rw [addr_block, addr_off] at s2
        refine ⟨v, fun h0 => ?_, by rw [Nat.add_assoc]; exact s2, v2, v3⟩
        rw [h0] at s1
        exact s1
      refine ⟨V, ⟨rfl, fun j c hc => ?_⟩, h63, fun q hq => ?_⟩
      · cases j with
        | succ j => simp [AV.cells] at hc
        | zero =>
          obtain rfl : AV.sl ro n (V.map av) = c := by simpa [AV.cells] using hc
          refine ⟨_, rfl, rfl, .sl (some a) V.length cap ro n (V.map av) a.block a.off (fun i j => (hG w a.block (a.off + i * n + j)).getD default) (by simp) hl (fun hne => ?_) (fun i y hy => ?_) (fun i y j c hy hc' => ?_) (fun i y j c hy hc' => ?_) (by simp [ro])⟩
          · have : 0 < V.length := by
              rcases V with _ | ⟨q, V⟩
              · exact absurd rfl hne
              · simp
            have hq : V[0]? = some V[0] := List.getElem?_eq_getElem this
            obtain ⟨c, hc'⟩ : ∃ c, (av V[0]).cells[0]? = some c := ⟨_, List.getElem?_eq_getElem (by rw [he.len V[0]]; exact hn)⟩
            obtain ⟨v, s1, _⟩ := hcell 0 V[0] 0 c hq hc'
            have s1 := s1 (by omega)
            obtain ⟨b, o, s⟩ := a
            simp only at s1
            subst s1
            rfl
          · rw [List.getElem?_map] at hy
            obtain ⟨q, _, rfl⟩ := Option.map_eq_some_iff.1 hy
            exact he.len q
          · rw [List.getElem?_map] at hy
            obtain ⟨q, hq, rfl⟩ := Option.map_eq_some_iff.1 hy
            obtain ⟨v, _, s2, s3, _⟩ := hcell i q j c hq hc'
            rw [s2]
            exact ⟨rfl, s3⟩
          · rw [List.getElem?_map] at hy
            obtain ⟨q, hq, rfl⟩ := Option.map_eq_some_iff.1 hy
            obtain ⟨v, _, s2, s3, s4⟩ := hcell i q j c hq hc'
            rw [s2]
            exact s4
      · obtain ⟨i, hi, rfl⟩ := List.mem_iff_getElem.1 hq
        exact (hV2 i _ (List.getElem?_eq_getElem hi)).1
theorem OpSeg.one {f : Field} {o : Nat} (ho : f.offset = o) (h : OpA B P f.type n av G) : OpSeg B P [f] o n (fun a => (av a).cells) G := by
  refine ⟨h.len, ?_⟩
  intro H enc w base spare held fuel cs hB hx hl
  obtain ⟨y, hy⟩ := hx 0 f rfl
  rw [ho, h.size, List.take_of_length_le (by simp; omega)] at hy
  exact h.out hB hy
theorem Cells.app {w : World} {cs ds : List Value} {l m : List AV} (h : Cells w cs l) (h2 : Cells w ds m) : Cells w (cs ++ ds) (l ++ m) := by
  refine ⟨by simp [h.1, h2.1], fun j c hc => ?_⟩
  rcases Nat.lt_or_ge j l.length with hj | hj
  · rw [List.getElem?_append_left hj] at hc
    rw [List.getElem?_append_left (by rw [h.1]; exact hj)]
    exact h.2 j c hc
  · rw [List.getElem?_append_right hj] at hc
    rw [List.getElem?_append_right (by rw [h.1]; exact hj), h.1]
    exact h2.2 _ c hc
theorem OpSeg.cons {f : Field} {fs : List Field} {o m : Nat} {g : β → List AV} {G' : β → Prop} (ho : f.offset = o) (h : OpA B P f.type n av G) (hs : OpSeg B P fs (o + n) m g G') : OpSeg B P (f :: fs) o (n + m) (fun p : α × β => (av p.1).cells ++ g p.2) (fun p => G p.1 ∧ G' p.2) := by
  refine ⟨fun p => by rw [List.length_append, h.len, hs.len], ?_⟩
  intro H enc w base spare held fuel cs hB hx hl
  obtain ⟨y, hy⟩ := hx 0 f rfl
  rw [ho, h.size] at hy
  obtain ⟨a, ha, ga⟩ := h.out hB hy
  obtain ⟨b, hb, gb⟩ := hs.out hB (fun i g hg => hx (i + 1) g (by simpa using hg)) (by omega)
  refine ⟨(a, b), ?_, ga, gb⟩
  have := ha.app hb
  rw [← List.drop_drop, List.take_append_drop] at this
  exact this
/-- A struct, told by a type of its own: 'to' goes from the pairs of its fields. -/
theorem OpA.struct {fs : Array Field} {g : β → List AV} {G' : β → Prop} {G : α → Prop} {av : α → List AV} (ht : P.underlying t = some (.struct fs)) (hc : P.cellsOf t = n) (to : β → α) (hto : ∀ b, av (to b) = g b) (hG : ∀ b, G' b → G (to b)) (hl : ∀ a, (av a).length = n) (h : OpSeg B P fs.toList 0 n g G') : OpA (B + 1) P t n (fun a => .agg (av a)) G where
  size := hc
  len := hl
  out := fun hB hx => by
    obtain ⟨xs, m, hm, _, hl, hlen, hf⟩ := DataW.trod_struct ht hx
    obtain ⟨b, hb, gb⟩ := h.out (fuel := m) (by omega) (fun i f hi => by
      rw [hf i f (by simpa using hi)]
      have : i < fs.size := by
        have := (List.getElem?_eq_some_iff.1 hi).1
        simpa using this
      exact ⟨_, List.getElem?_eq_getElem (by omega)⟩) (by rw [hl, hc]; omega)
    exact ⟨to b, by show Cells _ _ (av (to b)); rw [hto]; simpa using hb, hG b gb⟩
theorem OpA.less {B' : Nat} (h : OpA B P t n av G) (hB : B' ≤ B) : OpA B' P t n av G := ⟨h.size, h.len, fun hb hx => h.out (by omega) hx⟩
end
/-- A cell out of the memory, as the machine has it. -/
theorem rel_rep {x : X} {base : Nat} {v : Value} {c : AV} (h : RepD x.G (fun _ => none) v c) (hc : Pl c) : Rel x base v c := by
  replace h := h.monoN (N' := x.nm) (fun _ _ _ h => h) (fun k b h => by cases h)
  cases h with
  | un v => exact .un v
  | lit v h => exact .lit v h
  | sl A n cap m sz xs b o f h1 h2 h3 h4 h5 h6 h7 =>
    have hm : m = ro := by
      simp only [Pl, raw, AV.sl.injEq, and_true] at hc
      exact hc.symm
    subst hm
    exact .sl _ _ _ _ (.sl A n cap ro sz xs b o f h1 h2 h3 h4 h5 h6 h7) (fun hf => (by cases hf)) trivial
theorem rel_one' {x : X} {base : Nat} {w : World} {v : Value} {c : AV} (hx : x.G = hG w) (h : Cells w [v] [c]) (hl : Pl c) : Rel x base v c := by
  obtain ⟨u, hu, _, hr⟩ := h.2 0 c rfl
  obtain rfl : v = u := by simpa using hu
  exact rel_rep (by rw [hx]; exact hr) hl
/-- From a law's contract to its calls. -/
theorem row_calls {E : Env} {K : Nat → Prop} {f : Nat} {avs : List AV} (hF : FxK E K f [] avs [] (.lit (.bool true))) {w : World} (hK : E.K w) {vs : Array Value} (hlen : vs.size = avs.length) (hrel : ∀ (x : X), x.G = hG w → ∀ (i : Nat) (v : Value) (c : AV), vs[i]? = some v → avs[i]? = some c → Rel x w.heap.size v c) : Calls E.P f vs w fun e w' => e = .returned (.bool true) ∧ Below w.heap.size w w' := by
  let x : X := ⟨hG w, fun _ => 0, fun _ => (1, 0), fun _ => none, fun _ _ => False, fun _ _ => False, fun _ => none, fun _ => none⟩
  refine (hF.2.2 x w vs hK (fun _ => rfl) (fun n hn => by simp at hn) ⟨fun b o h => h.elim, fun b o h => h.elim, fun _ _ h => h⟩ hlen (hrel x rfl) (agree_hG w) (fun n l hl => by simp at hl) (fun n m hn => by simp at hn) ⟨fun _ _ => rfl, fun _ _ _ h => (by cases h), fun _ _ h => (by cases h)⟩).mono ?_
  rintro e w' ⟨v, x', rfl, h1, _, _, _, h5, _⟩
  have := h1.lit_inv
  subst this
  exact ⟨rfl, ⟨h5.1, h5.2.1, h5.2.2.1, h5.2.2.2.1, fun k hk => h5.2.2.2.2 k hk (by rintro (⟨n, hn, _⟩ | ⟨_, h⟩); simp at hn; exact h)⟩⟩
end Go.Proofs.YticockdhfglolaaGreatDoor.Vm
/- An abstract machine over values: memory that a law writes itself: labels. -/
namespace Go.Proofs.YticockdhfglolaaGreatDoor.Vm
open Go Go.RowKit
set_option linter.unusedVariables false
set_option linter.unusedSimpArgs false
section
variable {E : EnvK} {x0 x : X} {w0 w : World} {pb nt : Nat} {a : Act} {s : AS}
end
section
variable {L M : Nat → Option (Option (Nat × List AV))}
end
end Go.Proofs.YticockdhfglolaaGreatDoor.Vm
/- An abstract machine over values: memory that a law writes itself: calls that write it. -/
namespace Go.Proofs.YticockdhfglolaaGreatDoor.Vm
open Go Go.RowKit
set_option linter.unusedVariables false
set_option linter.unusedSimpArgs false
section
variable {E : EnvK} {x0 x : X} {w0 w : World} {pb nt : Nat} {a : Act} {s : AS}
end
/-! junk: nothing is known of what was written -/
def isSl : Value → Bool
  | .slice _ _ _ => true
  | _ => false
def Gh.hd (G : Gh) : Gh := fun b o => (G b o).filter isSl
section
variable {E : EnvK} {s : AS}
end
end Go.Proofs.YticockdhfglolaaGreatDoor.Vm
/- An abstract machine over values: memory that a law writes itself: a row, cell for cell; a law's arguments. -/
namespace Go.Proofs.YticockdhfglolaaGreatDoor.Vm
open Go Go.RowKit
set_option linter.unusedVariables false
set_option linter.unusedSimpArgs false
section
variable {E : EnvK} {s : AS}
end
end Go.Proofs.YticockdhfglolaaGreatDoor.Vm
/- An abstract machine over values: names. -/
namespace Go.Proofs.YticockdhfglolaaGreatDoor.Vm
open Go Go.RowKit
set_option linter.unusedVariables false
set_option linter.unusedSimpArgs false
section
variable {E : EnvK} {s : AS}
end
/-! names forgotten -/
section
variable {E : EnvK} {s : AS}
end
end Go.Proofs.YticockdhfglolaaGreatDoor.Vm
/- An abstract machine over values: trees of rows, each row in a block of its own: named, and as boxes. -/
namespace Go.Proofs.YticockdhfglolaaGreatDoor.Vm
open Go Go.RowKit
set_option linter.unusedVariables false
set_option linter.unusedSimpArgs false
/-- the size of an element, and how many -/
def inA : AV → List (Nat × Nat)
  | .sl _ sz xs => if xs.isEmpty = true then [] else (sz, xs.length) :: inL xs
  | .agg cs => inL cs
  | .tup cs => inL cs
  | _ => []
where inL : List AV → List (Nat × Nat)
  | [] => []
  | c :: cs => inA c ++ inL cs
section
variable {G : Gh} {N : Nat → Option (Nat × Nat)}
end
section
variable {E : EnvK} {s : AS}
end
end Go.Proofs.YticockdhfglolaaGreatDoor.Vm
/- An abstract machine over values: trees of boxes handed on. -/
namespace Go.Proofs.YticockdhfglolaaGreatDoor.Vm
open Go Go.RowKit
set_option linter.unusedVariables false
set_option linter.unusedSimpArgs false
/-- cells of boxes: plain values, empty rows, boxes below m -/
def pc (m : Nat) : AV → Bool
  | .lit _ => true
  | .sl k _ xs => xs.isEmpty && (match k.ap with | .no => true | _ => false) && !k.fr
  | .bs n _ _ => decide (n < m)
  | .agg cs => pcL m cs
  | _ => false
where pcL (m : Nat) : List AV → Bool
  | [] => true
  | c :: cs => pc m c && pcL m cs
section
variable {E : EnvK} {s : AS}
end
end Go.Proofs.YticockdhfglolaaGreatDoor.Vm
/- An abstract machine over values: trees of rows, at hand. -/
namespace Go.Proofs.YticockdhfglolaaGreatDoor.Vm
open Go Go.RowKit
set_option linter.unusedVariables false
set_option linter.unusedSimpArgs false
/-! texts -/
/-- how many rows a row of texts is -/
def n1 (l : List ByteArray) : Nat := if l.isEmpty = true then 0 else 1
/-! what comes between -/
section
variable {E : EnvK} {s : AS}
end
end Go.Proofs.YticockdhfglolaaGreatDoor.Vm
/- An abstract machine over values: what was made gets a label afterwards. -/
namespace Go.Proofs.YticockdhfglolaaGreatDoor.Vm
open Go Go.RowKit
set_option linter.unusedVariables false
set_option linter.unusedSimpArgs false
section
variable {E : EnvK} {x0 x : X} {w0 w : World} {pb nt : Nat} {a : Act} {s : AS}
end
end Go.Proofs.YticockdhfglolaaGreatDoor.Vm
/- An abstract machine over values: a call told by the callee's own code, in the caller's state (the callee may append to what the caller's boxes hold). -/
namespace Go.Proofs.YticockdhfglolaaGreatDoor.Vm
open Go Go.RowKit
set_option linter.unusedVariables false
set_option linter.unusedSimpArgs false
section
variable {E : EnvK} {s : AS}
end
end Go.Proofs.YticockdhfglolaaGreatDoor.Vm
