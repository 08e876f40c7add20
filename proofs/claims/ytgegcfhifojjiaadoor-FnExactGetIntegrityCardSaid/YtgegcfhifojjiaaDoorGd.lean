/- Graphs: the laws' helpers. -/
import Derived.Test.YtgegcfhifojjiaaDoorProg
import Derived.Test.YtgegcfhifojjiaaDoorSt0
namespace Go.Proofs.YtgegcfhifojjiaaDoor.Vm
open Go Go.RowKit
set_option linter.unusedVariables false
set_option linter.unusedSimpArgs false
structure Sm where
  alg : ByteArray
  bytes : ByteArray
  deriving DecidableEq
structure Pk where
  name : ByteArray
  version : ByteArray
  source : ByteArray
  sums : List Sm
  dev : Bool
  needs : List ByteArray
  deriving DecidableEq
structure Gr where
  top : List ByteArray
  packs : List Pk
  deriving DecidableEq
def Sm.av (x : Sm) : List AV := [.lit (.string x.alg), .lit (.string x.bytes)]
theorem Sm.pl (x : Sm) : PlL x.av := by simp [Sm.av]
theorem Sm.len (x : Sm) : x.av.length = 2 := rfl
theorem Sm.ok (x : Sm) : x.av.all okC = true := rfl
@[simp] theorem Sm.noB (d : Nat) (x : Sm) : noB.noL d x.av = true := rfl
@[simp] theorem Sm.noC (d : Nat) (x : Sm) : noC.noL d x.av = true := rfl
def Pk.av (x : Pk) : List AV := [.lit (.string x.name), .lit (.string x.version), .lit (.string x.source), .sl ro 2 (x.sums.map fun x => .agg x.av), .lit (.bool x.dev), .sl ro 1 (x.needs.map fun x => .lit (.string x))]
theorem Pk.pl (x : Pk) : PlL x.av := by simp [Pk.av]
theorem Pk.len (x : Pk) : x.av.length = 6 := rfl
theorem Pk.ok (x : Pk) : x.av.all okC = true := rfl
@[simp] theorem Pk.noB (d : Nat) (x : Pk) : noB.noL d x.av = true := rfl
@[simp] theorem Pk.noC (d : Nat) (x : Pk) : noC.noL d x.av = true := rfl
def Gr.av (x : Gr) : List AV := [.sl ro 1 (x.top.map fun x => .lit (.string x)), .sl ro 6 (x.packs.map fun x => .agg x.av)]
theorem Gr.pl (x : Gr) : PlL x.av := by simp [Gr.av]
theorem Gr.len (x : Gr) : x.av.length = 2 := rfl
theorem Gr.ok (x : Gr) : x.av.all okC = true := rfl
@[simp] theorem Gr.noB (d : Nat) (x : Gr) : noB.noL d x.av = true := rfl
@[simp] theorem Gr.noC (d : Nat) (x : Gr) : noC.noL d x.av = true := rfl
def v25 : VC := .seq (.reg false [⟨some 2, .box 2 (.t 0), none⟩, ⟨some 3, .box 2 (.t 1), none⟩, ⟨some 4, .as (.c (.lit (.bool false))), none⟩] [4]) (.seq (.seq (.reg false [⟨some 5, .fa 0 (.t 2), none⟩, ⟨some 6, .ld false 1 (.t 5), none⟩, ⟨some 7, .fa 0 (.t 3), none⟩, ⟨some 8, .ld false 1 (.t 7), none⟩, ⟨some 9, .bin .neq 0 (.t 6) (.t 8), none⟩] [5, 6, 7, 8]) (.cond (.t 9) (.seq (.reg false [⟨some 4, .as (.c (.lit (.bool false))), none⟩] []) (.ret)) (.skip))) (.seq (.seq (.reg false [⟨some 10, .fa 1 (.t 2), none⟩, ⟨some 11, .ld false 1 (.t 10), none⟩, ⟨some 12, .fa 1 (.t 3), none⟩, ⟨some 13, .ld false 1 (.t 12), none⟩, ⟨some 14, .bin .neq 0 (.t 11) (.t 13), none⟩] [10, 11, 12, 13]) (.cond (.t 14) (.seq (.reg false [⟨some 4, .as (.c (.lit (.bool false))), none⟩] []) (.ret)) (.skip))) (.seq (.reg false [⟨some 4, .as (.c (.lit (.bool true))), none⟩] []) (.ret))))
theorem is25 : Is Go.Proofs.Tryd.prog 25 15 v25 [.t 4] := ⟨Go.Proofs.Tryd.f25, dl [(0, [4]), (1, [5, 6, 7, 8]), (3, [10, 11, 12, 13])], Go.Proofs.Tryd.func25, by kernel_rfl, by kernel_rfl, by kernel_rfl, by kernel_rfl⟩


theorem is33 : Is Go.Proofs.Tryd.prog 33 26 (eqStr) [.t 4] := ⟨Go.Proofs.Tryd.f33, dl [(0, [4]), (1, [6, 7, 8, 9]), (4, [11, 12, 13]), (6, [17, 18, 19, 20, 21, 22, 23, 24]), (5, [15, 16])], Go.Proofs.Tryd.func33, by kernel_rfl, by kernel_rfl, by kernel_rfl, by kernel_rfl⟩


theorem is7 : Is Go.Proofs.Tryd.prog 7 27 (eqS 2 25) [.t 4] := ⟨Go.Proofs.Tryd.f7, dl [(0, [4]), (1, [6, 7, 8, 9]), (4, [11, 12, 13]), (6, [17, 18, 19, 20, 21, 22, 23, 24, 25]), (5, [15, 16])], Go.Proofs.Tryd.func7, by kernel_rfl, by kernel_rfl, by kernel_rfl, by kernel_rfl⟩



def Sm.good (x : Sm) : Prop := x.alg.size ≤ 9223372036854775807 ∧ x.bytes.size ≤ 9223372036854775807
def Sm.small (x : Sm) : Prop := x.alg.size ≤ 1048576 ∧ x.bytes.size ≤ 1048576
def Sm.sz (x : Sm) (l : Int) : Int := szIf (l - x.alg.size) fun l => szIf (l - x.bytes.size) fun l => l
theorem Sm.sz_le (x : Sm) (l : Int) (h : 0 ≤ l) : x.sz l ≤ l := by
  unfold Sm.sz
  obtain ⟨l1, e1⟩ : ∃ y, l - x.alg.size = y := ⟨_, rfl⟩
  have k1 : l1 ≤ l := by omega
  rw [e1]
  refine szIf_le k1 h fun c1 => ?_
  obtain ⟨l2, e2⟩ : ∃ y, l1 - x.bytes.size = y := ⟨_, rfl⟩
  have k2 : l2 ≤ l := by omega
  rw [e2]
  refine szIf_le k2 h fun c2 => ?_
  omega
theorem Sm.small_of (x : Sm) (l : Int) (h : 0 ≤ l) (h2 : l ≤ 1048576) (hs : 0 ≤ x.sz l) : x.small := by
  unfold Sm.sz at hs
  obtain ⟨l1, e1⟩ : ∃ y, l - x.alg.size = y := ⟨_, rfl⟩
  rw [e1] at hs
  by_cases c1 : l1 < 0
  · rw [szIf_neg c1] at hs; omega
  rw [szIf_pos c1] at hs
  have s1 : x.alg.size ≤ 1048576 := by omega
  obtain ⟨l2, e2⟩ : ∃ y, l1 - x.bytes.size = y := ⟨_, rfl⟩
  rw [e2] at hs
  by_cases c2 : l2 < 0
  · rw [szIf_neg c2] at hs; omega
  rw [szIf_pos c2] at hs
  have s2 : x.bytes.size ≤ 1048576 := by omega
  exact ⟨s1, s2⟩
def Pk.good (x : Pk) : Prop := x.name.size ≤ 9223372036854775807 ∧ x.version.size ≤ 9223372036854775807 ∧ x.source.size ≤ 9223372036854775807 ∧ (x.sums.length ≤ 9223372036854775807 ∧ ∀ y ∈ x.sums, y.good) ∧ True ∧ (x.needs.length ≤ 9223372036854775807 ∧ ∀ y ∈ x.needs, y.size ≤ 9223372036854775807)
def Pk.small (x : Pk) : Prop := x.name.size ≤ 1048576 ∧ x.version.size ≤ 1048576 ∧ x.source.size ≤ 1048576 ∧ (x.sums.length ≤ 1048576 ∧ ∀ y ∈ x.sums, y.small) ∧ True ∧ (x.needs.length ≤ 1048576 ∧ ∀ y ∈ x.needs, y.size ≤ 1048576)
def Pk.sz (x : Pk) (l : Int) : Int := szIf (l - x.name.size) fun l => szIf (l - x.version.size) fun l => szIf (l - x.source.size) fun l => szIf (szL Sm.sz x.sums l) fun l => szIf (szL (fun (x : ByteArray) l => l - x.size) x.needs l) fun l => l
theorem Pk.sz_le (x : Pk) (l : Int) (h : 0 ≤ l) : x.sz l ≤ l := by
  unfold Pk.sz
  obtain ⟨l1, e1⟩ : ∃ y, l - x.name.size = y := ⟨_, rfl⟩
  have k1 : l1 ≤ l := by omega
  rw [e1]
  refine szIf_le k1 h fun c1 => ?_
  obtain ⟨l2, e2⟩ : ∃ y, l1 - x.version.size = y := ⟨_, rfl⟩
  have k2 : l2 ≤ l := by omega
  rw [e2]
  refine szIf_le k2 h fun c2 => ?_
  obtain ⟨l3, e3⟩ : ∃ y, l2 - x.source.size = y := ⟨_, rfl⟩
  have k3 : l3 ≤ l := by omega
  rw [e3]
  refine szIf_le k3 h fun c3 => ?_
  obtain ⟨l4, e4⟩ : ∃ y, szL Sm.sz x.sums l3 = y := ⟨_, rfl⟩
  have k4 : l4 ≤ l := by have := szL_le (f := Sm.sz) (xs := x.sums) (l := l3) (fun x _ l h => x.sz_le l h) c3; omega
  rw [e4]
  refine szIf_le k4 h fun c4 => ?_
  obtain ⟨l5, e5⟩ : ∃ y, szL (fun (x : ByteArray) l => l - x.size) x.needs l4 = y := ⟨_, rfl⟩
  have k5 : l5 ≤ l := by have := szL_le (f := (fun (x : ByteArray) l => l - x.size)) (xs := x.needs) (l := l4) (fun (x : ByteArray) _ l _ => by omega) c4; omega
  rw [e5]
  refine szIf_le k5 h fun c5 => ?_
  omega
theorem Pk.small_of (x : Pk) (l : Int) (h : 0 ≤ l) (h2 : l ≤ 1048576) (hs : 0 ≤ x.sz l) : x.small := by
  unfold Pk.sz at hs
  obtain ⟨l1, e1⟩ : ∃ y, l - x.name.size = y := ⟨_, rfl⟩
  rw [e1] at hs
  by_cases c1 : l1 < 0
  · rw [szIf_neg c1] at hs; omega
  rw [szIf_pos c1] at hs
  have s1 : x.name.size ≤ 1048576 := by omega
  obtain ⟨l2, e2⟩ : ∃ y, l1 - x.version.size = y := ⟨_, rfl⟩
  rw [e2] at hs
  by_cases c2 : l2 < 0
  · rw [szIf_neg c2] at hs; omega
  rw [szIf_pos c2] at hs
  have s2 : x.version.size ≤ 1048576 := by omega
  obtain ⟨l3, e3⟩ : ∃ y, l2 - x.source.size = y := ⟨_, rfl⟩
  rw [e3] at hs
  by_cases c3 : l3 < 0
  · rw [szIf_neg c3] at hs; omega
  rw [szIf_pos c3] at hs
  have s3 : x.source.size ≤ 1048576 := by omega
  obtain ⟨l4, e4⟩ : ∃ y, szL Sm.sz x.sums l3 = y := ⟨_, rfl⟩
  rw [e4] at hs
  by_cases c4 : l4 < 0
  · rw [szIf_neg c4] at hs; omega
  rw [szIf_pos c4] at hs
  have b4 := szL_bnd (f := Sm.sz) (xs := x.sums) (l := l3) Sm.sz_le (by omega)
  have k4 : l4 ≤ l3 := by rw [← e4]; exact szL_le (fun x _ l h => x.sz_le l h) (by omega)
  obtain ⟨l5, e5⟩ : ∃ y, szL (fun (x : ByteArray) l => l - x.size) x.needs l4 = y := ⟨_, rfl⟩
  rw [e5] at hs
  by_cases c5 : l5 < 0
  · rw [szIf_neg c5] at hs; omega
  rw [szIf_pos c5] at hs
  have b5 := szL_bnd (f := fun (x : ByteArray) l => l - x.size) (xs := x.needs) (l := l4) (fun x l h => by omega) (by omega)
  have k5 : l5 ≤ l4 := by rw [← e5]; exact szL_le (fun (x : ByteArray) _ l _ => by omega) (by omega)
  exact ⟨s1, s2, s3, ⟨by omega, fun y hy => by obtain ⟨m, m1, m2, m3⟩ := b4.2 y hy; exact y.small_of m m1 (by omega) m3⟩, trivial, ⟨by omega, fun y hy => by obtain ⟨m, m1, m2, m3⟩ := b5.2 y hy; omega⟩⟩
def Gr.good (x : Gr) : Prop := (x.top.length ≤ 9223372036854775807 ∧ ∀ y ∈ x.top, y.size ≤ 9223372036854775807) ∧ (x.packs.length ≤ 9223372036854775807 ∧ ∀ y ∈ x.packs, y.good)
def Gr.small (x : Gr) : Prop := (x.top.length ≤ 1048576 ∧ ∀ y ∈ x.top, y.size ≤ 1048576) ∧ (x.packs.length ≤ 1048576 ∧ ∀ y ∈ x.packs, y.small)
def Gr.sz (x : Gr) (l : Int) : Int := szIf (szL (fun (x : ByteArray) l => l - x.size) x.top l) fun l => szIf (szL Pk.sz x.packs l) fun l => l
theorem Gr.sz_le (x : Gr) (l : Int) (h : 0 ≤ l) : x.sz l ≤ l := by
  unfold Gr.sz
  obtain ⟨l1, e1⟩ : ∃ y, szL (fun (x : ByteArray) l => l - x.size) x.top l = y := ⟨_, rfl⟩
  have k1 : l1 ≤ l := by have := szL_le (f := (fun (x : ByteArray) l => l - x.size)) (xs := x.top) (l := l) (fun (x : ByteArray) _ l _ => by omega) h; omega
  rw [e1]
  refine szIf_le k1 h fun c1 => ?_
  obtain ⟨l2, e2⟩ : ∃ y, szL Pk.sz x.packs l1 = y := ⟨_, rfl⟩
  have k2 : l2 ≤ l := by have := szL_le (f := Pk.sz) (xs := x.packs) (l := l1) (fun x _ l h => x.sz_le l h) c1; omega
  rw [e2]
  refine szIf_le k2 h fun c2 => ?_
  omega
theorem Gr.small_of (x : Gr) (l : Int) (h : 0 ≤ l) (h2 : l ≤ 1048576) (hs : 0 ≤ x.sz l) : x.small := by
  unfold Gr.sz at hs
  obtain ⟨l1, e1⟩ : ∃ y, szL (fun (x : ByteArray) l => l - x.size) x.top l = y := ⟨_, rfl⟩
  rw [e1] at hs
  by_cases c1 : l1 < 0
  · rw [szIf_neg c1] at hs; omega
  rw [szIf_pos c1] at hs
  have b1 := szL_bnd (f := fun (x : ByteArray) l => l - x.size) (xs := x.top) (l := l) (fun x l h => by omega) (by omega)
  have k1 : l1 ≤ l := by rw [← e1]; exact szL_le (fun (x : ByteArray) _ l _ => by omega) (by omega)
  obtain ⟨l2, e2⟩ : ∃ y, szL Pk.sz x.packs l1 = y := ⟨_, rfl⟩
  rw [e2] at hs
  by_cases c2 : l2 < 0
  · rw [szIf_neg c2] at hs; omega
  rw [szIf_pos c2] at hs
  have b2 := szL_bnd (f := Pk.sz) (xs := x.packs) (l := l1) Pk.sz_le (by omega)
  have k2 : l2 ≤ l1 := by rw [← e2]; exact szL_le (fun x _ l h => x.sz_le l h) (by omega)
  exact ⟨⟨by omega, fun y hy => by obtain ⟨m, m1, m2, m3⟩ := b1.2 y hy; omega⟩, ⟨by omega, fun y hy => by obtain ⟨m, m1, m2, m3⟩ := b2.2 y hy; exact y.small_of m m1 (by omega) m3⟩⟩
section
variable {E : Env} (hE : E.P = Go.Proofs.Tryd.prog)
include hE
theorem eqSum_fx (x : Sm) (h : x.small) : Fx E 25 [] [.agg x.av, .agg x.av] [] (.lit (.bool true)) := by
  obtain ⟨g_alg, g_bytes⟩ := h
  refine (is25.to hE).fx [] (by simp) rfl rfl ?_
  simp [v25, Sm.av, okC, mkF]
  exact Fin_ret rfl rfl
theorem eqSumS_fx (xs : List Sm) (h : xs.length ≤ 1048576) (hx : ∀ x ∈ xs, x.small) : Fx E 7 [] [.sl ro 2 (xs.map fun x => .agg x.av), .sl ro 2 (xs.map fun x => .agg x.av)] [] (.lit (.bool true)) := eqSame_fx (is7.to hE) (by decide) Sm.pl Sm.len xs (fun x hm => eqSum_fx hE x (hx x hm)) (by omega)
end
end Go.Proofs.YtgegcfhifojjiaaDoor.Vm
