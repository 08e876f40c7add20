/- Package URLs: both sides. -/
import Derived.Test.YtgegcfhifojjiaaDoorPc
namespace Go.Proofs.YtgegcfhifojjiaaDoor.Vm
open Go Go.RowKit
set_option linter.unusedVariables false
set_option linter.unusedSimpArgs false

def kinds : List ByteArray := [by8 "npm", by8 "cargo", by8 "golang", by8 "pypi"]
def kindT (k : Int) : ByteArray := if 0 ≤ k then (kinds[k.toNat]?).getD (by8 "") else by8 ""
theorem kindT_out {k : Int} (h : inR k 0 3 = false) : kindT k = by8 "" := by
  unfold kindT
  split
  · have : ¬ k.toNat < kinds.length := by simp [inR] at h; simp [kinds]; omega
    rw [List.getElem?_eq_none (by omega)]; rfl
  · rfl
theorem kindT_in {k : Nat} (h : k < 4) : kinds[k]? = some (kindT k) := by
  have : k < kinds.length := h
  unfold kindT
  rw [if_pos (by omega), Int.toNat_natCast, List.getElem?_eq_getElem this]; rfl
section
variable {E : Env} (hE : E.P = Go.Proofs.Tryd.prog) (hZ : ∀ w, E.K w → KZ w)
include hE
end
theorem kind_size (k : Int) : (kindT k).size ≤ 6 := by
  cases c : inR k 0 3
  · rw [kindT_out c]; decide +kernel
  · obtain ⟨n, rfl, hn⟩ : ∃ n : Nat, k = n ∧ n < 4 := by simp [inR] at c; exact ⟨k.toNat, by omega, by omega⟩
    match n, hn with
    | 0, _ => decide +kernel
    | 1, _ => decide +kernel
    | 2, _ => decide +kernel
    | 3, _ => decide +kernel
/-- the parts, each behind a bar -/
def barT : List ByteArray → ByteArray
  | [] => by8 ""
  | p :: r => by8 "/" ++ pct p ++ barT r
noncomputable def purlT (k : Int) (name ver : ByteArray) : ByteArray :=
  if kindT k = by8 "" ∨ nameOk name = false ∨ isVer ver = false then by8 "" else by8 "pkg:" ++ kindT k ++ barT (spl 47 name) ++ by8 "@" ++ pct ver
theorem barT_snoc : ∀ (r : List ByteArray) (x : ByteArray), barT (r ++ [x]) = barT r ++ (by8 "/" ++ pct x)
  | [], x => by simp [barT, app_nil]; rw [ba_nil, ByteArray.empty_append]
  | p :: r, x => by simp [barT, barT_snoc r x, ByteArray.append_assoc]
theorem barT_next {l : List ByteArray} {k : Nat} (h : k < l.length) : barT (l.take (k + 1)) = barT (l.take k) ++ (by8 "/" ++ pct l[k]) := by
  rw [List.take_succ_eq_append_getElem h, barT_snoc]
theorem barT_size : ∀ (l : List ByteArray) (k : Nat), (∀ p ∈ l, p.size ≤ k) → (barT l).size ≤ l.length * (3 * k + 1)
  | [], k, _ => by have : (barT []).size = 0 := by decide +kernel
                   omega
  | p :: r, k, h => by
    have h1 := barT_size r k fun q hq => h q (by simp [hq])
    have h2 := h p (by simp)
    have h3 := pct_size p
    have e : (by8 "/").size = 1 := by decide +kernel
    simp only [barT, ByteArray.size_append, List.length_cons, Nat.add_mul, e]
    omega
theorem joinB_bar : ∀ (p : ByteArray) (r : List ByteArray), by8 "/" ++ joinB ((p :: r).map pct) (by8 "/") = barT (p :: r) := by
  intro p r
  refine ba_ext ?_
  have h1 : (joinB (pct p :: r.map pct) (by8 "/")).data.toList = Lib.join ((pct p).data.toList :: (r.map pct).map (·.data.toList)) (by8 "/").data.toList := rfl
  have h2 : ∀ r : List ByteArray, (barT r).data.toList = Lib.joinTail (by8 "/").data.toList ((r.map pct).map (·.data.toList)) := by
    intro r
    induction r with
    | nil => simp [barT, Lib.joinTail]; decide +kernel
    | cons q r ih =>
      simp only [barT, Lib.joinTail, List.map_cons, List.flatten_cons] at ih ⊢
      rw [← ih]
      simp
  rw [h2]
  simp only [ByteArray.data_append, Array.toList_append, h1, List.map_cons, Lib.join_cons, Lib.joinTail, List.flatten_cons, List.append_assoc]
section
variable {E : Env} (hE : E.P = Go.Proofs.Tryd.prog) (hZ : ∀ w, E.K w → KZ w)
include hE
end
end Go.Proofs.YtgegcfhifojjiaaDoor.Vm
