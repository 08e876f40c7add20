/- The laws' helpers over slices: sz. -/
import Derived.Test.YtpopccnnjpdmlaaVmEq
namespace Go.Proofs.Ytpopccnnjpdmlaa.Vm
open Go Go.RowKit
set_option linter.unusedVariables false
set_option linter.unusedSimpArgs false
theorem Is.to {E : Env} {P : Program} {f nt : Nat} {vc : VC} {rs : List VR} (h : Is P f nt vc rs) (hE : E.P = P) : Is E.P f nt vc rs := hE ▸ h
/-- behind a piece of code whose end is told apart -/
theorem Xe_cut {E : Env} {c : VC} {s : AS} {Q R : Ex → AS → Prop} {l : Lk Q} (h : Xe E c s R .mk) (hm : ∀ e s', R e s' → Q e s') : Xe E c s Q l := vx_mono c s R Q h hm
theorem Xs_cut {E : Env} {os : List VO} {s : AS} {Q R : AS → Prop} {l : Lk Q} (h : Xs E os s R .mk) (hm : ∀ s', R s' → Q s') : Xs E os s Q l := by
  have : ∀ (os : List VO) (s : AS) (R Q : AS → Prop), vops E os s R → (∀ s, R s → Q s) → vops E os s Q := by
    intro os
    induction os with
    | nil => exact fun s R R' h hm => hm _ h
    | cons o os ih => exact fun s R R' h hm => vop_mono h fun s' h' _ => ih _ _ _ h' hm
  exact this os s R Q h hm
def szS (sz f : Nat) : VC :=
  .seq
    (.reg false [⟨some 4, .as (.c (.lit (.int .i64 0))), none⟩] [4])
    (.seq
      (.reg false [⟨some 6, .mv (.t 1), none⟩,
        ⟨some 7, .mv (.t 0), none⟩,
        ⟨some 8, .len false (.t 7), none⟩,
        ⟨some 9, .bin .sub 0 (.t 6) (.t 8), none⟩,
        ⟨some 1, .as (.t 9), none⟩] [6, 7, 8, 9])
      (.seq
        (.seq
          (.reg false [⟨some 10, .mv (.t 1), none⟩,
            ⟨some 11, .bin .lss 0 (.t 10) (.c (.lit (.int .i64 0))), none⟩] [10])
          (.cond (.t 11)
            (.seq
              (.reg false [⟨some 4, .as (.c (.lit (.int .i64 (-1)))), none⟩] [])
              (.ret))
            (.skip)))
        (.seq
          (.seq
            (.reg false [⟨some 5, .as (.c (.lit (.int .i64 0))), none⟩] [])
            (.block 0
              (.loop
                (.seq
                  (.seq
                    (.reg false [⟨some 12, .mv (.t 5), none⟩,
                      ⟨some 13, .mv (.t 0), none⟩,
                      ⟨some 14, .len false (.t 13), none⟩,
                      ⟨some 15, .bin .lss 0 (.t 12) (.t 14), none⟩] [12, 13, 14])
                    (.cond (.t 15)
                      (.skip)
                      (.exit 0)))
                  (.seq
                    (.block 1
                      (.seq
                        (.reg false [⟨some 18, .mv (.t 0), none⟩,
                          ⟨some 19, .mv (.t 5), none⟩,
                          ⟨some 20, .ia sz (.t 18) (.t 19), none⟩,
                          ⟨some 21, .ld true sz (.t 20), none⟩,
                          ⟨some 22, .mv (.t 1), none⟩,
                          ⟨some 23, .call false f [(.t 21), (.t 22)], none⟩,
                          ⟨some 1, .as (.t 23), none⟩] [18, 19, 20, 21, 22, 23])
                        (.seq
                          (.reg false [⟨some 24, .mv (.t 1), none⟩,
                            ⟨some 25, .bin .lss 0 (.t 24) (.c (.lit (.int .i64 0))), none⟩] [24])
                          (.cond (.t 25)
                            (.seq
                              (.reg false [⟨some 4, .as (.c (.lit (.int .i64 (-1)))), none⟩] [])
                              (.ret))
                            (.skip)))))
                    (.reg false [⟨some 16, .mv (.t 5), none⟩,
                      ⟨some 17, .bin .add 0 (.t 16) (.c (.lit (.int .i64 1))), none⟩,
                      ⟨some 5, .as (.t 17), none⟩] [16, 17]))))))
          (.seq
            (.reg false [⟨some 26, .mv (.t 1), none⟩,
              ⟨some 4, .as (.t 26), none⟩] [26])
            (.ret)))))
def szStr : VC :=
  .seq
    (.reg false [⟨some 4, .as (.c (.lit (.int .i64 0))), none⟩] [4])
    (.seq
      (.reg false [⟨some 6, .mv (.t 1), none⟩,
        ⟨some 7, .mv (.t 0), none⟩,
        ⟨some 8, .len false (.t 7), none⟩,
        ⟨some 9, .bin .sub 0 (.t 6) (.t 8), none⟩,
        ⟨some 1, .as (.t 9), none⟩] [6, 7, 8, 9])
      (.seq
        (.seq
          (.reg false [⟨some 10, .mv (.t 1), none⟩,
            ⟨some 11, .bin .lss 0 (.t 10) (.c (.lit (.int .i64 0))), none⟩] [10])
          (.cond (.t 11)
            (.seq
              (.reg false [⟨some 4, .as (.c (.lit (.int .i64 (-1)))), none⟩] [])
              (.ret))
            (.skip)))
        (.seq
          (.seq
            (.reg false [⟨some 5, .as (.c (.lit (.int .i64 0))), none⟩] [])
            (.block 0
              (.loop
                (.seq
                  (.seq
                    (.reg false [⟨some 12, .mv (.t 5), none⟩,
                      ⟨some 13, .mv (.t 0), none⟩,
                      ⟨some 14, .len false (.t 13), none⟩,
                      ⟨some 15, .bin .lss 0 (.t 12) (.t 14), none⟩] [12, 13, 14])
                    (.cond (.t 15)
                      (.skip)
                      (.exit 0)))
                  (.seq
                    (.block 1
                      (.seq
                        (.reg false [⟨some 18, .mv (.t 1), none⟩,
                          ⟨some 19, .mv (.t 0), none⟩,
                          ⟨some 20, .mv (.t 5), none⟩,
                          ⟨some 21, .ia 1 (.t 19) (.t 20), none⟩,
                          ⟨some 22, .ld false 1 (.t 21), none⟩,
                          ⟨some 23, .len true (.t 22), none⟩,
                          ⟨some 24, .bin .sub 0 (.t 18) (.t 23), none⟩,
                          ⟨some 1, .as (.t 24), none⟩] [18, 19, 20, 21, 22, 23, 24])
                        (.seq
                          (.reg false [⟨some 25, .mv (.t 1), none⟩,
                            ⟨some 26, .bin .lss 0 (.t 25) (.c (.lit (.int .i64 0))), none⟩] [25])
                          (.cond (.t 26)
                            (.seq
                              (.reg false [⟨some 4, .as (.c (.lit (.int .i64 (-1)))), none⟩] [])
                              (.ret))
                            (.skip)))))
                    (.reg false [⟨some 16, .mv (.t 5), none⟩,
                      ⟨some 17, .bin .add 0 (.t 16) (.c (.lit (.int .i64 1))), none⟩,
                      ⟨some 5, .as (.t 17), none⟩] [16, 17]))))))
          (.seq
            (.reg false [⟨some 27, .mv (.t 1), none⟩,
              ⟨some 4, .as (.t 27), none⟩] [27])
            (.ret)))))
/-- what is left of 'l' behind the elements -/
def szGo {α : Type} (f : α → Int → Int) : List α → Int → Int
  | [], l => l
  | x :: xs, l => if f x l < 0 then -1 else szGo f xs (f x l)
def szL {α : Type} (f : α → Int → Int) (xs : List α) (l : Int) : Int := if l - xs.length < 0 then -1 else szGo f xs (l - xs.length)
theorem szGo_le {α : Type} {f : α → Int → Int} : ∀ {xs : List α} {l : Int}, (∀ x ∈ xs, ∀ l, 0 ≤ l → f x l ≤ l) → 0 ≤ l → szGo f xs l ≤ l
  | [], l, _, _ => Int.le_refl l
  | x :: xs, l, h, h0 => by
    simp only [szGo]
    have h1 := h x List.mem_cons_self l h0
    split
    · omega
    · rename_i h2
      have := szGo_le (xs := xs) (l := f x l) (fun y hy => h y (List.mem_cons_of_mem _ hy)) (by omega)
      omega
theorem szL_le {α : Type} {f : α → Int → Int} {xs : List α} {l : Int} (h : ∀ x ∈ xs, ∀ l, 0 ≤ l → f x l ≤ l) (h0 : 0 ≤ l) : szL f xs l ≤ l := by
  unfold szL
  split
  · omega
  · have := szGo_le (xs := xs) (l := l - xs.length) h (by omega)
    omega
def szIf (l : Int) (k : Int → Int) : Int := if l < 0 then -1 else k l
theorem szIf_neg {l : Int} {k : Int → Int} (h : l < 0) : szIf l k = -1 := by unfold szIf; rw [if_pos h]
theorem szIf_pos {l : Int} {k : Int → Int} (h : ¬ l < 0) : szIf l k = k l := by unfold szIf; rw [if_neg h]
theorem szIf_le {l m : Int} {k : Int → Int} (h : l ≤ m) (h0 : 0 ≤ m) (hk : 0 ≤ l → k l ≤ m) : szIf l k ≤ m := by
  unfold szIf
  split
  · omega
  · exact hk (by omega)
variable {E : Env}
theorem szS_fx {n nt sz f : Nat} (h : Is E.P n nt (szS sz f) [.t 4]) (hnt : 2 ≤ nt) {α : Type} {a : α → List AV} {g : α → Int → Int} {G : α → Prop} (ha : ∀ x, PlL (a x)) (hla : ∀ x, (a x).length = sz)
    (hf : ∀ x l, G x → 0 ≤ l → l ≤ 1048576 → Fx E f [] [.agg (a x), .lit (.int .i64 l)] [] (.lit (.int .i64 (g x l)))) (hg : ∀ x l, 0 ≤ l → g x l ≤ l) (xs : List α) (hG : ∀ x ∈ xs, G x) (l : Int) (hl : 0 ≤ l) (hl2 : l ≤ 1048576) (hxs : xs.length ≤ 9223372036854775807) : Fx E n [] [.sl ro sz (xs.map fun x => .agg (a x)), .lit (.int .i64 l)] [] (.lit (.int .i64 (szL g xs l))) := by
  refine h.fx [] (by simpa using hnt) rfl rfl ?_
  simp [szS]
  rw [wrap_i64 (by omega) (by omega)]
  by_cases h0 : l - xs.length < 0
  · simp [h0]
    exact Fin_ret rfl (by simp [szL, h0, reC])
  · simp [h0]
    refine X_loop (τ := Nat × Int) (fun p => ⟨[(0, .sl ro sz (xs.map fun x => .agg (a x))), (1, .lit (.int .i64 p.2)), (5, .lit (.int .i64 p.1))], []⟩) (fun p => p.1 ≤ xs.length ∧ 0 ≤ p.2 ∧ p.2 ≤ 1048576 ∧ szL g xs l = szGo g (xs.drop p.1) p.2) (fun p => xs.length - p.1) (0, l - xs.length) (by simp [szL, h0]; omega) (Wk.both (by simp [wkL, wkV.same]) trivial) ?_
    rintro ⟨i, k⟩ ⟨hi, hk, hk2, he⟩
    simp only at hi hk hk2 he
    simp
    by_cases hlt : i < xs.length
    · have hd : xs.drop i = xs[i] :: xs.drop (i + 1) := List.drop_eq_getElem_cons hlt
      rw [hd, szGo] at he
      simp [hlt, hla]
      refine vcall_go (hf xs[i] k (hG _ (List.getElem_mem hlt)) hk hk2) (by simp [hla, List.take_of_length_le, ha]) (by simp) (by simp) (by simp) ?_
      simp
      by_cases hn : g xs[i] k < 0
      · simp [hn]
        rw [if_pos hn] at he
        exact Fin_ret rfl (by rw [he]; rfl)
      · simp [hn]
        rw [if_neg hn] at he
        have := hg xs[i] k hk
        refine ⟨i + 1, g xs[i] k, ⟨by omega, by omega, by omega, he⟩, by omega, Wk.both (by simp [wkL, wkV.same]; rw [wrap_i64 (by omega) (by omega)]; exact wkV.same _) trivial⟩
    · have : i = xs.length := by omega
      subst this
      simp
      simp [szGo] at he
      exact Fin_ret rfl (by rw [he]; rfl)
theorem szStr_fx {n nt : Nat} (h : Is E.P n nt szStr [.t 4]) (hnt : 2 ≤ nt) (xs : List ByteArray) (hG : ∀ x ∈ xs, x.size ≤ 9223372036854775807) (l : Int) (hl : 0 ≤ l) (hl2 : l ≤ 1048576) (hxs : xs.length ≤ 9223372036854775807) : Fx E n [] [.sl ro 1 (xs.map fun x => .lit (.string x)), .lit (.int .i64 l)] [] (.lit (.int .i64 (szL (fun x l => l - x.size) xs l))) := by
  refine h.fx [] (by simpa using hnt) rfl rfl ?_
  simp [szStr]
  rw [wrap_i64 (by omega) (by omega)]
  by_cases h0 : l - xs.length < 0
  · simp [h0]
    exact Fin_ret rfl (by simp [szL, h0, reC])
  · simp [h0]
    refine X_loop (τ := Nat × Int) (fun p => ⟨[(0, .sl ro 1 (xs.map fun x => .lit (.string x))), (1, .lit (.int .i64 p.2)), (5, .lit (.int .i64 p.1))], []⟩) (fun p => p.1 ≤ xs.length ∧ 0 ≤ p.2 ∧ p.2 ≤ 1048576 ∧ szL (fun x l => l - x.size) xs l = szGo (fun x l => l - x.size) (xs.drop p.1) p.2) (fun p => xs.length - p.1) (0, l - xs.length) (by simp [szL, h0]; omega) (Wk.both (by simp [wkL, wkV.same]) trivial) ?_
    rintro ⟨i, k⟩ ⟨hi, hk, hk2, he⟩
    simp only at hi hk hk2 he
    simp
    by_cases hlt : i < xs.length
    · have hd : xs.drop i = xs[i] :: xs.drop (i + 1) := List.drop_eq_getElem_cons hlt
      have hsz := hG _ (List.getElem_mem hlt)
      rw [hd, szGo] at he
      simp [hlt, mkF]
      rw [wrap_i64 (by omega) (by omega)]
      by_cases hn : k - xs[i].size < 0
      · simp [hn]
        rw [if_pos hn] at he
        exact Fin_ret rfl (by rw [he]; rfl)
      · simp [hn]
        rw [if_neg hn] at he
        refine ⟨i + 1, k - xs[i].size, ⟨by omega, by omega, by omega, he⟩, by omega, Wk.both (by simp [wkL, wkV.same]; rw [wrap_i64 (by omega) (by omega)]; exact wkV.same _) trivial⟩
    · have : i = xs.length := by omega
      subst this
      simp
      simp [szGo] at he
      exact Fin_ret rfl (by rw [he]; rfl)
end Go.Proofs.Ytpopccnnjpdmlaa.Vm
