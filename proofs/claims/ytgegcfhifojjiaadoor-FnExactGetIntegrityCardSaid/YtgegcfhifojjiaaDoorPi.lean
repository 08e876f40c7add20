/- Package URLs: impl's side. -/
import Derived.Test.YtgegcfhifojjiaaDoorPp
namespace Go.Proofs.YtgegcfhifojjiaaDoor.Vm
open Go Go.RowKit
set_option linter.unusedVariables false
set_option linter.unusedSimpArgs false

/-- a row of texts, turned up to a place -/
def rowG (f : ByteArray → ByteArray) (l : List ByteArray) (i : Nat) : List AV := ((l.take i).map f ++ l.drop i).map fun x => .lit (.string x)
theorem rowG_zero (f : ByteArray → ByteArray) (l : List ByteArray) : rowG f l 0 = l.map fun x => .lit (.string x) := by simp [rowG]
theorem rowG_all (f : ByteArray → ByteArray) (l : List ByteArray) : rowG f l l.length = (l.map f).map fun x => .lit (.string x) := by simp [rowG]
theorem rowG_get {f : ByteArray → ByteArray} {l : List ByteArray} {i : Nat} (h : i < l.length) : (rowG f l i)[i]? = some (.lit (.string l[i])) := by
  unfold rowG
  rw [List.getElem?_map, List.getElem?_append_right (by simp; omega)]
  simp [Nat.min_eq_left (Nat.le_of_lt h), h]
theorem rowG_set {f : ByteArray → ByteArray} {l : List ByteArray} {i : Nat} (h : i < l.length) : (rowG f l i).set i (.lit (.string (f l[i]))) = rowG f l (i + 1) := by
  have e : ((l.take i).map f ++ l.drop i).set i (f l[i]) = (l.take (i + 1)).map f ++ l.drop (i + 1) := by
    have hz : ((l.take i).map f).length = i := by simp; omega
    rw [List.drop_eq_getElem_cons h, List.set_append_right _ _ (by omega), List.take_succ_eq_append_getElem h, hz, Nat.sub_self, List.set_cons_zero, List.map_append, List.map_cons, List.map_nil, List.append_assoc, List.singleton_append]
  unfold rowG
  rw [← e, List.map_set]
theorem rowG_len {f : ByteArray → ByteArray} {l : List ByteArray} {i : Nat} (h : i ≤ l.length) : (rowG f l i).length = l.length := by simp [rowG]; omega
theorem lits_strip (l : List ByteArray) : strip.stripL (l.map fun x => AV.lit (.string x)) = l.map fun x => AV.lit (.string x) := by
  induction l with
  | nil => rfl
  | cons x l ih => simp [strip.stripL, strip, ih]
theorem lits_dat (l : List ByteArray) : dat.datL (l.map fun x => AV.lit (.string x)) = true := by
  induction l with
  | nil => rfl
  | cons x l ih => simp [dat.datL, dat, ih]
theorem lits_res (l : List ByteArray) : resOk.resL (l.map fun x => AV.lit (.string x)) = true := by
  induction l with
  | nil => rfl
  | cons x l ih => simp [resOk.resL, resOk, ih]
theorem lits_noC (d : Nat) (l : List ByteArray) : noC.noL d (l.map fun x => AV.lit (.string x)) = true := by
  induction l with
  | nil => rfl
  | cons x l ih => simp [noC.noL, noC, ih]
theorem rowG_noC (d : Nat) (f : ByteArray → ByteArray) (l : List ByteArray) (i : Nat) : noC.noL d (rowG f l i) = true := lits_noC d _
theorem lits_relab (t : Nat) (b : Bool) (l : List ByteArray) : relab.relabL t b (l.map fun x => AV.lit (.string x)) = l.map fun x => AV.lit (.string x) := by
  induction l with
  | nil => rfl
  | cons x l ih => simp [relab.relabL, relab, ih]
section
variable {E : Env} (hE : E.P = Go.Proofs.Tryd.prog) (hZ : ∀ w, E.K w → KZ w)
include hE hZ
end
end Go.Proofs.YtgegcfhifojjiaaDoor.Vm
