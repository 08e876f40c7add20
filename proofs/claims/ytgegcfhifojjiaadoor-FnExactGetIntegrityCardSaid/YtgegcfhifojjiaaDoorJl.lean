/- Texts put together and cut: plain laws. -/
import Derived.Test.YtgegcfhifojjiaaDoorSc
namespace Go.Proofs.YtgegcfhifojjiaaDoor.Vm
open Go Go.RowKit
set_option linter.unusedVariables false
set_option linter.unusedSimpArgs false
theorem Fin_wkz {rs : List VR} {r r' : AV} {ks : List Nat} {s s1 : AS} (hw : Wk s1 s) (h : resVs s1 rs = some [r']) (h2 : r = reC ks r') : Fin rs r ks .ret s := ⟨.inr rfl, s1, hw, _, h, h2⟩
theorem one_size (c : UInt8) : (one c).size = 1 := rfl
theorem by8_nil : (by8 "").size = 0 := by decide +kernel
theorem ba_nil : by8 "" = ByteArray.empty := by decide +kernel
theorem app_nil (a : ByteArray) : a ++ by8 "" = a := by rw [ba_nil]; exact ByteArray.append_empty
theorem nil_app (a : ByteArray) : by8 "" ++ a = a := by rw [ba_nil]; exact ByteArray.empty_append
theorem size_nil {s : ByteArray} (h : s.size = 0) : s = by8 "" := ba_ext (by
  have : s.data.toList.length = 0 := by simpa using h
  rw [List.eq_nil_of_length_eq_zero this]; decide +kernel)
theorem drop_bt {s : ByteArray} {i : Nat} (h : i < s.size) : s.data.toList.drop i = bt s i :: s.data.toList.drop (i + 1) := by
  have h3 := bt_get h
  rw [List.drop_eq_getElem_cons (by simpa using h)]
  rw [List.getElem?_eq_getElem (by simpa using h)] at h3
  rw [Option.some.inj h3]
/-- the byte stands nowhere in the text -/
def free (c : UInt8) (s : ByteArray) : Prop := ∀ j, j < s.size → bt s j ≠ c
theorem free_iff {c : UInt8} {s : ByteArray} : free c s ↔ ∀ b ∈ s.data.toList, b ≠ c := by
  constructor
  · intro h b hb
    obtain ⟨j, hj, rfl⟩ := List.getElem_of_mem hb
    have hj' : j < s.size := by simpa using hj
    have h2 := bt_get hj'
    rw [List.getElem?_eq_getElem hj] at h2
    rw [Option.some.inj h2]
    exact h j hj'
  · intro h j hj
    exact h _ (List.mem_of_getElem? (bt_get hj))
theorem free_app {c : UInt8} {a b : ByteArray} : free c (a ++ b) ↔ free c a ∧ free c b := by
  simp only [free_iff, ByteArray.data_append, Array.toList_append, List.mem_append]
  exact ⟨fun h => ⟨fun x hx => h x (.inl hx), fun x hx => h x (.inr hx)⟩, fun h x hx => hx.elim (h.1 x) (h.2 x)⟩
theorem bt_appL {a b : ByteArray} {j : Nat} (h : j < a.size) : bt (a ++ b) j = bt a j := by
  have h1 := bt_get (s := a ++ b) (i := j) (by rw [ByteArray.size_append]; omega)
  have h2 := bt_get h
  rw [ByteArray.data_append, Array.toList_append, List.getElem?_append_left (by simpa using h), h2] at h1
  exact (Option.some.inj h1).symm
theorem bt_appR {a b : ByteArray} {j : Nat} (h : j < b.size) : bt (a ++ b) (a.size + j) = bt b j := by
  have h1 := bt_get (s := a ++ b) (i := a.size + j) (by rw [ByteArray.size_append]; omega)
  have h2 := bt_get h
  have hz : a.data.toList.length = a.size := by simp
  rw [ByteArray.data_append, Array.toList_append, List.getElem?_append_right (by omega), hz, Nat.add_sub_cancel_left, h2] at h1
  exact (Option.some.inj h1).symm
theorem ext_appL (a b : ByteArray) : (a ++ b).extract 0 a.size = a := by
  refine ba_ext ?_
  have hz : a.data.toList.length = a.size := by simp
  simp [ByteArray.data_extract, ByteArray.data_append]
  exact List.take_of_length_le (by simp)
theorem ext_appR (a b : ByteArray) (n : Nat) (h : n = (a ++ b).size) : (a ++ b).extract a.size n = b := by
  refine ba_ext ?_
  subst h
  rw [ByteArray.size_append]
  have hz : a.data.size = a.size := rfl
  have hz2 : b.data.size = b.size := rfl
  simp [ByteArray.data_extract, ByteArray.data_append]
  rw [List.drop_of_length_le (by simp), List.take_nil, List.nil_append]
  exact List.take_of_length_le (by simp)
theorem ext_cut {s : ByteArray} {i : Nat} (h : i < s.size) : s.extract 0 i ++ one (bt s i) ++ s.extract (i + 1) s.size = s := by
  refine ba_ext ?_
  have h3 := drop_bt h
  have hz : s.data.toList.length = s.size := by simp
  simp only [ByteArray.data_append, Array.toList_append, ByteArray.data_extract, Array.toList_extract, one_list, List.extract_eq_take_drop, Nat.sub_zero, List.drop_zero]
  rw [List.take_of_length_le (l := List.drop (i + 1) s.data.toList) (by simp), List.append_assoc, List.singleton_append, ← h3, List.take_append_drop]
theorem joinB_nil (sep : ByteArray) : joinB [] sep = by8 "" := ba_nil.symm
theorem joinB_list (xs : List ByteArray) (sep : ByteArray) : (joinB xs sep).data.toList = Lib.join (xs.map (·.data.toList)) sep.data.toList := rfl
theorem joinB_one (x sep : ByteArray) : joinB [x] sep = x := ba_ext (by rw [joinB_list]; simp [Lib.join_one])
theorem joinB_cons (x y : ByteArray) (r : List ByteArray) (sep : ByteArray) : joinB (x :: y :: r) sep = x ++ sep ++ joinB (y :: r) sep := by
  refine ba_ext ?_
  simp only [ByteArray.data_append, Array.toList_append, joinB_list, List.map_cons, Lib.join_cons, Lib.joinTail, List.flatten_cons, List.append_assoc]
theorem joinB_cons' (x sep : ByteArray) {r : List ByteArray} (h : r ≠ []) : joinB (x :: r) sep = x ++ sep ++ joinB r sep := by
  cases r with
  | nil => exact absurd rfl h
  | cons y r => exact joinB_cons x y r sep
theorem joinB_snoc (sep x : ByteArray) : ∀ {l : List ByteArray}, l ≠ [] → joinB (l ++ [x]) sep = joinB l sep ++ sep ++ x
  | [], h => absurd rfl h
  | [y], _ => by
    rw [List.singleton_append, joinB_cons, joinB_one, joinB_one]
  | y :: z :: r, _ => by
    have := joinB_snoc sep x (l := z :: r) (by simp)
    rw [List.cons_append, joinB_cons' _ _ (by simp), this, joinB_cons]
    simp [ByteArray.append_assoc]
theorem joinB_le {f : ByteArray → ByteArray} (sep : ByteArray) (hf : ∀ x, (f x).size ≤ x.size) : ∀ (l : List ByteArray), (joinB (l.map f) sep).size ≤ (joinB l sep).size
  | [] => by simp
  | [x] => by simp only [List.map_cons, List.map_nil, joinB_one]; exact hf x
  | x :: y :: r => by
    have := joinB_le sep hf (y :: r)
    have h2 := hf x
    simp only [List.map_cons, joinB_cons, ByteArray.size_append] at this ⊢
    omega
theorem joinB_tail (sep : ByteArray) (l : List ByteArray) : (joinB (l.drop 1) sep).size ≤ (joinB l sep).size := by
  match l with
  | [] => simp
  | [x] => simp [joinB_nil, by8_nil]
  | x :: y :: r => simp only [List.drop_succ_cons, List.drop_zero, joinB_cons, ByteArray.size_append]; omega
theorem joinB_take (sep : ByteArray) : ∀ (l : List ByteArray) (i : Nat), (joinB (l.take i) sep).size ≤ (joinB l sep).size
  | [], i => by simp
  | x :: r, 0 => by simp [joinB_nil, by8_nil]
  | [x], i + 1 => by simp
  | x :: y :: r, 1 => by simp [joinB_one, joinB_cons]; omega
  | x :: y :: r, i + 2 => by
    have := joinB_take sep (y :: r) (i + 1)
    simp only [List.take_succ_cons, joinB_cons, ByteArray.size_append] at this ⊢
    omega
theorem spl_ne (c : UInt8) (s : ByteArray) : spl c s ≠ [] := by
  have := spB_len (sep := one c) (s := s) (Nat.le_refl _)
  intro e
  rw [show spB (one c) s = spl c s from rfl, e] at this
  simp at this
theorem join_spl (c : UInt8) : ∀ (n : Nat) (s : ByteArray), s.size ≤ n → joinB (spl c s) (one c) = s
  | n, s, hn => by
    rcases idx_cases c s with ⟨_, h⟩ | ⟨i, hi, hb, h, _⟩
    · rw [spl_none h, joinB_one]
    · cases n with
      | zero => omega
      | succ n =>
        rw [spl_hit hi hb h, joinB_cons' _ _ (spl_ne _ _), join_spl c n _ (by rw [ext_size]; omega), ← hb]
        exact ext_cut hi
theorem spl_join (c : UInt8) : ∀ (ps : List ByteArray), ps ≠ [] → (∀ p ∈ ps, free c p) → spl c (joinB ps (one c)) = ps
  | [], h, _ => absurd rfl h
  | [x], _, h => by rw [joinB_one]; exact spl_none (h x (by simp))
  | x :: y :: r, _, h => by
    have ih := spl_join c (y :: r) (by simp) fun p hp => h p (by simp [hp])
    have hx := h x (by simp)
    rw [joinB_cons]
    have hz : (x ++ one c ++ joinB (y :: r) (one c)).size = x.size + 1 + (joinB (y :: r) (one c)).size := by
      rw [ByteArray.size_append, ByteArray.size_append, one_size]
    rw [ByteArray.append_assoc] at hz ⊢
    have e1 : bt (x ++ (one c ++ joinB (y :: r) (one c))) x.size = c := by
      have := bt_appR (a := x) (b := one c ++ joinB (y :: r) (one c)) (j := 0) (by rw [ByteArray.size_append, one_size]; omega)
      rw [Nat.add_zero] at this
      rw [this, bt_appL (by rw [one_size]; omega)]
      rfl
    rw [spl_hit (i := x.size) (by omega) e1 fun j hj => by rw [bt_appL hj]; exact hx j hj, ext_appL]
    have e2 : (x ++ (one c ++ joinB (y :: r) (one c))).extract (x.size + 1) (x ++ (one c ++ joinB (y :: r) (one c))).size = joinB (y :: r) (one c) := by
      rw [← ByteArray.append_assoc]
      have := ext_appR (x ++ one c) (joinB (y :: r) (one c)) _ rfl
      rw [ByteArray.size_append, one_size] at this
      exact this
    rw [e2, ih]
theorem spl_free (c : UInt8) : ∀ (n : Nat) (s : ByteArray), s.size ≤ n → ∀ p ∈ spl c s, free c p
  | n, s, hn, p, hp => by
    rcases idx_cases c s with ⟨_, h⟩ | ⟨i, hi, hb, h, _⟩
    · rw [spl_none h] at hp
      rw [List.mem_singleton.1 hp]; exact h
    · cases n with
      | zero => omega
      | succ n =>
        rw [spl_hit hi hb h] at hp
        rcases List.mem_cons.1 hp with rfl | hp
        · intro j hj
          rw [ext_size] at hj
          have := bt_ext (s := s) (a := 0) (b := i) (j := j) (by omega)
          rw [this, Nat.zero_add]
          exact h j (by omega)
        · exact spl_free c n _ (by rw [ext_size]; omega) p hp
theorem free_dec {c : UInt8} {s : ByteArray} (h : s.data.toList.all (fun b => b != c) = true) : free c s := by
  rw [free_iff]
  intro b hb
  have := List.all_eq_true.1 h b hb
  simpa using this
end Go.Proofs.YtgegcfhifojjiaaDoor.Vm
