/- The laws' helpers over slices: eq. -/
import Derived.Test.YtpopccnnjpdmlaaVmZ
namespace Go.Proofs.Ytpopccnnjpdmlaa.Vm
open Go Go.RowKit
set_option linter.unusedVariables false
set_option linter.unusedSimpArgs false
def eqS (sz f : Nat) : VC :=
  .seq
    (.reg false [⟨some 4, .as (.c (.lit (.bool false))), none⟩] [4])
    (.seq
      (.seq
        (.reg false [⟨some 6, .mv (.t 0), none⟩,
          ⟨some 7, .len false (.t 6), none⟩,
          ⟨some 8, .mv (.t 1), none⟩,
          ⟨some 9, .len false (.t 8), none⟩,
          ⟨some 10, .bin .neq 0 (.t 7) (.t 9), none⟩] [6, 7, 8, 9])
        (.cond (.t 10)
          (.seq
            (.reg false [⟨some 4, .as (.c (.lit (.bool false))), none⟩] [])
            (.ret))
          (.skip)))
      (.seq
        (.seq
          (.reg false [⟨some 5, .as (.c (.lit (.int .i64 0))), none⟩] [])
          (.block 0
            (.loop
              (.seq
                (.seq
                  (.reg false [⟨some 11, .mv (.t 5), none⟩,
                    ⟨some 12, .mv (.t 0), none⟩,
                    ⟨some 13, .len false (.t 12), none⟩,
                    ⟨some 14, .bin .lss 0 (.t 11) (.t 13), none⟩] [11, 12, 13])
                  (.cond (.t 14)
                    (.skip)
                    (.exit 0)))
                (.seq
                  (.block 1
                    (.seq
                      (.reg true [⟨some 17, .mv (.t 0), none⟩,
                        ⟨some 18, .mv (.t 5), none⟩,
                        ⟨some 19, .ia sz (.t 17) (.t 18), none⟩,
                        ⟨some 20, .ld true sz (.t 19), none⟩,
                        ⟨some 21, .mv (.t 1), none⟩,
                        ⟨some 22, .mv (.t 5), none⟩,
                        ⟨some 23, .ia sz (.t 21) (.t 22), none⟩,
                        ⟨some 24, .ld true sz (.t 23), none⟩,
                        ⟨some 25, .call true f [(.t 20), (.t 24)], none⟩,
                        ⟨some 26, .un .not (.t 25), none⟩] [17, 18, 19, 20, 21, 22, 23, 24, 25])
                      (.cond (.t 26)
                        (.seq
                          (.reg false [⟨some 4, .as (.c (.lit (.bool false))), none⟩] [])
                          (.ret))
                        (.skip))))
                  (.reg false [⟨some 15, .mv (.t 5), none⟩,
                    ⟨some 16, .bin .add 0 (.t 15) (.c (.lit (.int .i64 1))), none⟩,
                    ⟨some 5, .as (.t 16), none⟩] [15, 16]))))))
        (.seq
          (.reg false [⟨some 4, .as (.c (.lit (.bool true))), none⟩] [])
          (.ret))))
def all2 {α β : Type} (p : α → β → Bool) : List α → List β → Bool
  | [], [] => true
  | a :: l, b :: m => p a b && all2 p l m
  | _, _ => false
theorem all2_false {α β : Type} {p : α → β → Bool} : ∀ {l : List α} {m : List β} {i : Nat} {a : α} {b : β}, l[i]? = some a → m[i]? = some b → p a b = false → all2 p l m = false
  | [], _, _, _, _, h, _, _ => by simp at h
  | _ :: _, [], _, _, _, _, h, _ => by simp at h
  | a :: l, b :: m, 0, _, _, h1, h2, h => by
    simp at h1 h2
    subst h1 h2
    simp [all2, h]
  | a :: l, b :: m, i + 1, _, _, h1, h2, h => by
    simp [all2, all2_false (l := l) (m := m) (i := i) (by simpa using h1) (by simpa using h2) h]
theorem all2_true {α β : Type} {p : α → β → Bool} : ∀ {l : List α} {m : List β}, l.length = m.length → (∀ (i : Nat) (a : α) (b : β), l[i]? = some a → m[i]? = some b → p a b = true) → all2 p l m = true
  | [], [], _, _ => rfl
  | [], _ :: _, h, _ => by simp at h
  | _ :: _, [], h, _ => by simp at h
  | a :: l, b :: m, hl, h => by
    simp only [all2, h 0 a b rfl rfl, Bool.true_and]
    exact all2_true (by simpa using hl) fun i a b h1 h2 => h (i + 1) a b (by simpa using h1) (by simpa using h2)
theorem all2_len {α β : Type} {p : α → β → Bool} : ∀ {l : List α} {m : List β}, l.length ≠ m.length → all2 p l m = false
  | [], [], h => by simp at h
  | [], _ :: _, _ => rfl
  | _ :: _, [], _ => rfl
  | a :: l, b :: m, h => by simp [all2, all2_len (l := l) (m := m) (by simpa using h)]
variable {E : Env}
theorem eqS_fx {n nt sz f : Nat} (h : Is E.P n nt (eqS sz f) [.t 4]) (hnt : 2 ≤ nt) {α β : Type} {a : α → List AV} {b : β → List AV} {p : α → β → Bool} (ha : ∀ x, PlL (a x)) (hb : ∀ x, PlL (b x)) (hla : ∀ x, (a x).length = sz) (hlb : ∀ x, (b x).length = sz)
    (xs : List α) (hf : ∀ x y, x ∈ xs → Fx E f [] [.agg (a x), .agg (b y)] [] (.lit (.bool (p x y)))) (ys : List β) (hxs : xs.length ≤ 9223372036854775807) : Fx E n [] [.sl ro sz (xs.map fun x => .agg (a x)), .sl ro sz (ys.map fun y => .agg (b y))] [] (.lit (.bool (all2 p xs ys))) := by
  refine h.fx [] (by simpa using hnt) rfl rfl ?_
  simp [eqS]
  by_cases hl : (xs.length : Int) = ys.length
  · simp [hl]
    have hl' : xs.length = ys.length := by omega
    refine X_loop (τ := Nat) (fun i => ⟨[(0, .sl ro sz (xs.map fun x => .agg (a x))), (1, .sl ro sz (ys.map fun y => .agg (b y))), (5, .lit (.int .i64 i))], []⟩) (fun i => i ≤ xs.length ∧ ∀ (k : Nat) x y, k < i → xs[k]? = some x → ys[k]? = some y → p x y = true) (fun i => xs.length - i) 0 (by simp) (Wk.both (by simp [wkL, wkV.same]) trivial) ?_
    rintro i ⟨hi, hall⟩
    simp
    by_cases hlt : i < xs.length
    · have hlt2 : i < ys.length := by omega
      simp [hlt, hlt2, hla, hlb]
      refine vcall_go (hf xs[i] ys[i] (List.getElem_mem hlt)) (by simp [hla, hlb, List.take_of_length_le, ha, hb]) (by simp) (by simp) (by simp) ?_
      cases hp : p xs[i] ys[i]
      · simp
        exact Fin_ret rfl (by rw [all2_false (List.getElem?_eq_getElem hlt) (List.getElem?_eq_getElem hlt2) hp]; rfl)
      · simp
        refine ⟨i + 1, ⟨by omega, fun k x y hk hx hy => ?_⟩, by omega, Wk.both (by simp [wkL, wkV.same]; rw [wrap_i64 (by omega) (by omega)]; exact wkV.same _) trivial⟩
        rcases Nat.lt_succ_iff_lt_or_eq.1 hk with hk | rfl
        · exact hall k x y hk hx hy
        · rw [List.getElem?_eq_getElem hlt] at hx
          rw [List.getElem?_eq_getElem hlt2] at hy
          rw [← Option.some.inj hx, ← Option.some.inj hy]
          exact hp
    · simp [hlt]
      exact Fin_ret rfl (by rw [all2_true hl' fun k x y hx hy => hall k x y (by have := (List.getElem?_eq_some_iff.1 hx).1; omega) hx hy]; rfl)
  · simp [hl]
    have hl' : xs.length ≠ ys.length := by omega
    exact Fin_ret rfl (by simp [reC, all2_len hl'])
def eqStr : VC :=
  .seq
    (.reg false [⟨some 4, .as (.c (.lit (.bool false))), none⟩] [4])
    (.seq
      (.seq
        (.reg false [⟨some 6, .mv (.t 0), none⟩,
          ⟨some 7, .len false (.t 6), none⟩,
          ⟨some 8, .mv (.t 1), none⟩,
          ⟨some 9, .len false (.t 8), none⟩,
          ⟨some 10, .bin .neq 0 (.t 7) (.t 9), none⟩] [6, 7, 8, 9])
        (.cond (.t 10)
          (.seq
            (.reg false [⟨some 4, .as (.c (.lit (.bool false))), none⟩] [])
            (.ret))
          (.skip)))
      (.seq
        (.seq
          (.reg false [⟨some 5, .as (.c (.lit (.int .i64 0))), none⟩] [])
          (.block 0
            (.loop
              (.seq
                (.seq
                  (.reg false [⟨some 11, .mv (.t 5), none⟩,
                    ⟨some 12, .mv (.t 0), none⟩,
                    ⟨some 13, .len false (.t 12), none⟩,
                    ⟨some 14, .bin .lss 0 (.t 11) (.t 13), none⟩] [11, 12, 13])
                  (.cond (.t 14)
                    (.skip)
                    (.exit 0)))
                (.seq
                  (.block 1
                    (.seq
                      (.reg true [⟨some 17, .mv (.t 0), none⟩,
                        ⟨some 18, .mv (.t 5), none⟩,
                        ⟨some 19, .ia 1 (.t 17) (.t 18), none⟩,
                        ⟨some 20, .ld false 1 (.t 19), none⟩,
                        ⟨some 21, .mv (.t 1), none⟩,
                        ⟨some 22, .mv (.t 5), none⟩,
                        ⟨some 23, .ia 1 (.t 21) (.t 22), none⟩,
                        ⟨some 24, .ld false 1 (.t 23), none⟩,
                        ⟨some 25, .bin .neq 0 (.t 20) (.t 24), none⟩] [17, 18, 19, 20, 21, 22, 23, 24])
                      (.cond (.t 25)
                        (.seq
                          (.reg false [⟨some 4, .as (.c (.lit (.bool false))), none⟩] [])
                          (.ret))
                        (.skip))))
                  (.reg false [⟨some 15, .mv (.t 5), none⟩,
                    ⟨some 16, .bin .add 0 (.t 15) (.c (.lit (.int .i64 1))), none⟩,
                    ⟨some 5, .as (.t 16), none⟩] [15, 16]))))))
        (.seq
          (.reg false [⟨some 4, .as (.c (.lit (.bool true))), none⟩] [])
          (.ret))))
theorem eqStr_fx {n nt : Nat} (h : Is E.P n nt eqStr [.t 4]) (hnt : 2 ≤ nt) (xs ys : List ByteArray) (hxs : xs.length ≤ 9223372036854775807) : Fx E n [] [.sl ro 1 (xs.map fun x => .lit (.string x)), .sl ro 1 (ys.map fun y => .lit (.string y))] [] (.lit (.bool (all2 (fun x y => decide (x = y)) xs ys))) := by
  refine h.fx [] (by simpa using hnt) rfl rfl ?_
  simp [eqStr]
  by_cases hl : (xs.length : Int) = ys.length
  · simp [hl]
    have hl' : xs.length = ys.length := by omega
    refine X_loop (τ := Nat) (fun i => ⟨[(0, .sl ro 1 (xs.map fun x => .lit (.string x))), (1, .sl ro 1 (ys.map fun y => .lit (.string y))), (5, .lit (.int .i64 i))], []⟩) (fun i => i ≤ xs.length ∧ ∀ (k : Nat) x y, k < i → xs[k]? = some x → ys[k]? = some y → x = y) (fun i => xs.length - i) 0 (by simp) (Wk.both (by simp [wkL, wkV.same]) trivial) ?_
    rintro i ⟨hi, hall⟩
    simp
    by_cases hlt : i < xs.length
    · have hlt2 : i < ys.length := by omega
      simp [hlt, hlt2, mkF]
      by_cases hp : xs[i] = ys[i]
      · simp [hp]
        refine ⟨i + 1, ⟨by omega, fun k x y hk hx hy => ?_⟩, by omega, Wk.both (by simp [wkL, wkV.same]; rw [wrap_i64 (by omega) (by omega)]; exact wkV.same _) trivial⟩
        rcases Nat.lt_succ_iff_lt_or_eq.1 hk with hk | rfl
        · exact hall k x y hk hx hy
        · rw [List.getElem?_eq_getElem hlt] at hx
          rw [List.getElem?_eq_getElem hlt2] at hy
          rw [← Option.some.inj hx, ← Option.some.inj hy]
          exact hp
      · simp [hp]
        exact Fin_ret rfl (by rw [all2_false (List.getElem?_eq_getElem hlt) (List.getElem?_eq_getElem hlt2) (by simpa using hp)]; rfl)
    · simp [hlt]
      exact Fin_ret rfl (by rw [all2_true hl' fun k x y hx hy => by simpa using hall k x y (by have := (List.getElem?_eq_some_iff.1 hx).1; omega) hx hy]; rfl)
  · simp [hl]
    have hl' : xs.length ≠ ys.length := by omega
    exact Fin_ret rfl (by simp [reC, all2_len hl'])
theorem all2_eq {α : Type} {p : α → α → Bool} (h : ∀ x y, p x y = true ↔ x = y) : ∀ (l m : List α), all2 p l m = true ↔ l = m
  | [], [] => by simp [all2]
  | [], _ :: _ => by simp [all2]
  | _ :: _, [] => by simp [all2]
  | a :: l, b :: m => by simp [all2, h, all2_eq h l m]
end Go.Proofs.Ytpopccnnjpdmlaa.Vm
