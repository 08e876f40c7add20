/- TablesOk: the law. -/
import Derived.Test.YtadafhefdbfbgaaTabI
import Derived.Test.YtadafhefdbfbgaaVmOpen
namespace Go.Proofs.Ytadafhefdbfbgaa.Vm
open Go Go.RowKit
set_option linter.unusedVariables false
set_option linter.unusedSimpArgs false
def v5 : VC := .seq (.reg false [⟨some 2, .as (.c (.lit (.bool false))), none⟩] [2]) (.seq (.reg false [⟨some 3, .as (.c (.lit (.int .i64 1048576))), none⟩] []) (.seq (.reg false [⟨some 7, .mv (.t 0), none⟩, ⟨some 8, .mv (.t 3), none⟩, ⟨some 9, .call false 25 [(.t 7), (.t 8)], none⟩, ⟨some 3, .as (.t 9), none⟩] [7, 8, 9]) (.seq (.seq (.reg false [⟨some 10, .mv (.t 3), none⟩, ⟨some 11, .bin .lss 0 (.t 10) (.c (.lit (.int .i64 0))), none⟩] [10]) (.cond (.t 11) (.seq (.reg false [⟨some 2, .as (.c (.lit (.bool true))), none⟩] []) (.ret)) (.skip))) (.seq (.reg false [⟨some 12, .mv (.t 0), none⟩, ⟨some 13, .call false 27 [(.t 12)], none⟩, ⟨some 14, .call false 26 [(.t 13)], none⟩, ⟨some 4, .as (.t 14), none⟩] [12, 13, 14]) (.seq (.reg false [⟨some 15, .mv (.t 0), none⟩, ⟨some 16, .call false 27 [(.t 15)], none⟩, ⟨some 5, .as (.t 16), none⟩] [15, 16]) (.seq (.reg false [⟨some 17, .mv (.t 5), none⟩, ⟨some 18, .call false 28 [(.t 17)], none⟩, ⟨some 6, .as (.t 18), none⟩] [17, 18]) (.seq (.seq (.reg false [⟨some 19, .mv (.t 6), none⟩, ⟨some 20, .mv (.t 4), none⟩, ⟨some 21, .bin .neq 2 (.t 19) (.t 20), none⟩] [19, 20]) (.cond (.t 21) (.seq (.reg false [⟨some 2, .as (.c (.lit (.bool false))), none⟩] []) (.ret)) (.skip))) (.seq (.seq (.reg false [⟨some 22, .mv (.t 5), none⟩, ⟨some 23, .mv (.t 0), none⟩, ⟨some 24, .call false 27 [(.t 23)], none⟩, ⟨some 25, .call false 29 [(.t 22), (.t 24)], none⟩, ⟨some 26, .un .not (.t 25), none⟩] [22, 23, 24, 25]) (.cond (.t 26) (.seq (.reg false [⟨some 2, .as (.c (.lit (.bool false))), none⟩] []) (.ret)) (.skip))) (.seq (.reg false [⟨some 2, .as (.c (.lit (.bool true))), none⟩] []) (.ret))))))))))
theorem is5 : Is Go.Proofs.Try.prog 5 27 v5 [.t 2] := ⟨Go.Proofs.Try.f5, dl [(0, [2]), (2, [7, 8, 9]), (3, [10]), (5, [12, 13, 14]), (6, [15, 16]), (7, [17, 18]), (8, [19, 20]), (10, [22, 23, 24, 25])], Go.Proofs.Try.func5, by kernel_rfl, by kernel_rfl, by kernel_rfl, by kernel_rfl⟩
theorem szGo_bound {α : Type} {f : α → Int → Int} (hf : ∀ x l, 0 ≤ l → f x l ≤ l) : ∀ {xs : List α} {l : Int}, 0 ≤ l → 0 ≤ szGo f xs l → ∀ x ∈ xs, ∃ m, 0 ≤ m ∧ m ≤ l ∧ 0 ≤ f x m
  | [], _, _, _, x, hx => by simp at hx
  | y :: xs, l, h0, h, x, hx => by
    simp only [szGo] at h
    split at h
    · omega
    · rename_i h1
      rcases List.mem_cons.1 hx with rfl | hx
      · exact ⟨l, h0, Int.le_refl l, by omega⟩
      · obtain ⟨m, m1, m2, m3⟩ := szGo_bound hf (l := f y l) (by omega) h x hx
        have := hf y l h0
        exact ⟨m, m1, by omega, m3⟩
theorem szL_bound {α : Type} {f : α → Int → Int} (hf : ∀ x l, 0 ≤ l → f x l ≤ l) {xs : List α} {l : Int} (h : 0 ≤ szL f xs l) : (xs.length : Int) ≤ l ∧ ∀ x ∈ xs, ∃ m, 0 ≤ m ∧ m ≤ l ∧ 0 ≤ f x m := by
  unfold szL at h
  split at h
  · omega
  · refine ⟨by omega, fun x hx => ?_⟩
    obtain ⟨m, m1, m2, m3⟩ := szGo_bound hf (l := l - xs.length) (by omega) h x hx
    exact ⟨m, m1, by omega, m3⟩
theorem szIf_bound {l : Int} {k : Int → Int} (h : 0 ≤ szIf l k) : 0 ≤ l ∧ 0 ≤ k l := by
  unfold szIf at h
  split at h
  · omega
  · exact ⟨by omega, h⟩
theorem Fld.bound {x : Fld} {l : Int} (h : 0 ≤ x.sz l) (hl : l ≤ 1048576) : x.key.size ≤ 1048576 ∧ x.list.length ≤ 1048576 := by
  obtain ⟨h1, h⟩ := szIf_bound h
  obtain ⟨h2, h⟩ := szIf_bound h
  obtain ⟨h3, h⟩ := szIf_bound h
  have := (szL_bound (f := fun (x : ByteArray) l => l - x.size) (fun x l _ => by omega) h3).1
  omega
theorem Tb.bound {x : Tb} {l : Int} (h : 0 ≤ x.sz l) (hl : l ≤ 1048576) : x.name.size ≤ 1048576 ∧ x.fields.length ≤ 1048576 ∧ ∀ f ∈ x.fields, f.key.size ≤ 1048576 ∧ f.list.length ≤ 1048576 := by
  obtain ⟨h1, h⟩ := szIf_bound h
  obtain ⟨h2, h⟩ := szIf_bound h
  have := szL_bound (f := Fld.sz) Fld.sz_le h2
  refine ⟨by omega, by omega, fun f hf => ?_⟩
  obtain ⟨m, m1, m2, m3⟩ := this.2 f hf
  exact Fld.bound m3 (by omega)
theorem all2_refl {α : Type} {p : α → α → Bool} (h : ∀ x, p x x = true) : ∀ (l : List α), all2 p l l = true
  | [] => rfl
  | a :: l => by simp [all2, h, all2_refl h l]
theorem Fld.eq_refl (x : Fld) : x.eq x = true := by simp [Fld.eq, all2_refl]
theorem Tb.eq_refl (x : Tb) : x.eq x = true := by simp [Tb.eq, all2_refl Fld.eq_refl]
section
variable {E : Env} (hE : E.P = Go.Proofs.Try.prog)
include hE
theorem law_fx (xs : List Tb) (hl : xs.length ≤ 9223372036854775807) (hg : ∀ x ∈ xs, x.good) : Fx E 5 [] [.sl ro 2 (xs.map fun x => .agg x.av)] [] (.lit (.bool true)) := by
  refine (is5.to hE).fx [] (by simp) rfl rfl ?_
  simp [v5]
  refine vcall_go (szTableS_fx hE xs 1048576 hg (by omega) (by omega) hl) (by simp) (by simp) (by simp) (by simp) ?_
  simp
  by_cases c1 : szL Tb.sz xs 1048576 < 0
  · simp [c1]
    exact Fin_ret rfl rfl
  · have hb := szL_bound (f := Tb.sz) Tb.sz_le (xs := xs) (l := 1048576) (by omega)
    have hx : ∀ x ∈ xs, x.name.size ≤ 1048576 ∧ x.fields.length ≤ 1048576 ∧ ∀ f ∈ x.fields, f.key.size ≤ 1048576 ∧ f.list.length ≤ 1048576 := fun x hm => by
      obtain ⟨m, m1, m2, m3⟩ := hb.2 x hm
      exact Tb.bound m3 m2
    have hlen : xs.length ≤ 1048576 := by omega
    have hto := toTableS_fx hE xs hlen (fun x hm => ⟨(hx x hm).2.1, fun f hf => ((hx x hm).2.2 f hf).2⟩)
    have hok : ∀ x ∈ xs, x.fields.length ≤ 1048576 ∧ (∀ f ∈ x.fields, f.key.size ≤ 1048576) ∧ x.name.size ≤ 1048576 := fun x hm => ⟨(hx x hm).2.1, fun f hf => ((hx x hm).2.2 f hf).1, (hx x hm).1⟩
    simp [c1]
    refine vcall_go hto (by simp) (by simp) (by simp) (by simp) ?_
    simp
    refine vcall_go (specTablesOk_fx hE xs hlen hok) (by simp) (by simp) (by simp) (by simp) ?_
    simp
    refine vcall_go hto (by simp) (by simp) (by simp) (by simp) ?_
    simp
    refine vcall_go (implTablesOk_fx hE xs hlen hok) (by simp) (by simp) (by simp) (by simp) ?_
    simp
    refine vcall_go hto (by simp) (by simp) (by simp) (by simp) ?_
    simp
    refine vcall_go (eqTableS_fx hE xs xs hlen (fun x hm => ⟨(hx x hm).2.1, fun f hf => ((hx x hm).2.2 f hf).2⟩)) (by simp) (by simp) (by simp) (by simp) ?_
    simp [all2_refl Tb.eq_refl]
    exact Fin_ret rfl rfl
end
end Go.Proofs.Ytadafhefdbfbgaa.Vm
