/- For all trees, the program's SameTree returns what the reference's SameTree returns, and leaves both trees as they were. No condition. -/
import Derived.Test.YtoihkkkdkpllnaaPFnExactSameTreex5
import Derived.Test.YtoihkkkdkpllnaaAid
namespace Go.Proofs.Ytoihkkkdkpllnaa.Pure
open Go.RowKit Go.Proofs.Ytoihkkkdkpllnaa.PFnExactSameTree Go.Proofs.YtoihkkkdkpllnaaW.PrintWords Go.Proofs.YtoihkkkdkpllnaaW.PrintLast Go.Proofs.YtoihkkkdkpllnaaW.PrintMore Go.Proofs.Ytoihkkkdkpllnaa.Aid
set_option linter.unusedSimpArgs false
set_option linter.unusedVariables false
/-! ### the laws' own helpers on lists of texts -/
theorem sz_str_l (l : List ByteArray) (hg : ∀ x ∈ l, x.size ≤ 9223372036854775807) (d : Nat) : ∀ (k n : Nat) (a : Int), n + d = l.length → d < k → 0 ≤ a → a ≤ 1048576 → l.length ≤ 1048576 →
    laws_szStringS.l0 k l a n = some (if (totS (l.drop n) : Int) ≤ a then a - totS (l.drop n) else -1) := by
  induction d with
  | zero =>
    intro k n a hn hk h0 h1 hl
    obtain ⟨k, rfl⟩ : ∃ m, k = m + 1 := ⟨k - 1, by omega⟩
    simp only [laws_szStringS.l0]
    rw [if_neg (by omega), List.drop_of_length_le (by omega), if_pos (by simp [totS]; omega)]; simp [totS]
  | succ d ih =>
    intro k n a hn hk h0 h1 hl
    obtain ⟨k, rfl⟩ : ∃ m, k = m + 1 := ⟨k - 1, by omega⟩
    have hlt : n < l.length := by omega
    have hx := hg _ (List.getElem_mem hlt)
    simp only [laws_szStringS.l0]
    rw [if_pos (by omega), if_pos (by omega), rdOf_at _ l n hlt, wrap_id (a - ((l[n]'hlt).size : Int)) (by omega) (by omega), wrap_succ n (by omega), totS_drop l n hlt]
    by_cases h : a - ((l[n]'hlt).size : Int) < 0
    · rw [if_pos h, if_neg (by omega)]
    · rw [if_neg h, ih k (n + 1) _ (by omega) (by omega) (by omega) (by omega) hl]
      congr 1
      split <;> split <;> omega
theorem sz_str (l : List ByteArray) (hl : l.length ≤ 9223372036854775807) (hg : ∀ x ∈ l, x.size ≤ 9223372036854775807) (k : Nat) (a : Int) (hk : l.length < k) (h0 : 0 ≤ a) (h1 : a ≤ 1048576) :
    laws_szStringS.f k l a = some (if ((l.length + totS l : Nat) : Int) ≤ a then a - ((l.length + totS l : Nat) : Int) else -1) := by
  unfold laws_szStringS.f
  rw [wrap_id (a - (l.length : Int)) (by omega) (by omega)]
  by_cases h : a - (l.length : Int) < 0
  · rw [if_pos h, if_neg (by omega)]
  · rw [if_neg h]
    have := sz_str_l l hg l.length k 0 (a - (l.length : Int)) (by omega) hk (by omega) (by omega) (by omega)
    simp only [Int.natCast_zero, List.drop_zero] at this
    rw [this]; congr 1
    split <;> split <;> omega
theorem to_str_l (l : List ByteArray) (d : Nat) : ∀ (k n : Nat), n + d = l.length → d < k → l.length ≤ 1048576 →
    laws_toStringS.l0 k l (l.take n ++ List.replicate d ⟨#[]⟩) n = some l := by
  induction d with
  | zero =>
    intro k n hn hk hl
    obtain ⟨k, rfl⟩ : ∃ m, k = m + 1 := ⟨k - 1, by omega⟩
    simp only [laws_toStringS.l0]
    rw [if_neg (by omega), List.take_of_length_le (by omega)]; simp
  | succ d ih =>
    intro k n hn hk hl
    obtain ⟨k, rfl⟩ : ∃ m, k = m + 1 := ⟨k - 1, by omega⟩
    have hlt : n < l.length := by omega
    have hlen : (l.take n ++ List.replicate (d + 1) (⟨#[]⟩ : ByteArray)).length = l.length := by simp; omega
    simp only [laws_toStringS.l0]
    rw [hlen, if_pos (by omega), if_pos (by omega), if_pos (by omega), rdOf_at _ l n hlt, Int.toNat_natCast, set_take l _ n d hn, wrap_succ n (by omega)]
    exact ih k (n + 1) (by omega) (by omega) hl
theorem to_str (l : List ByteArray) (k : Nat) (hk : l.length < k) (hl : l.length ≤ 1048576) : laws_toStringS.f k l = some l := by
  unfold laws_toStringS.f
  rw [if_pos (by omega), if_pos (by omega), Int.toNat_natCast]
  have := to_str_l l l.length k 0 (by omega) hk hl
  simpa using this
theorem eq_str_l (l m : List ByteArray) (he : l.length = m.length) (d : Nat) : ∀ (k n : Nat), n + d = l.length → d < k → l.length ≤ 1048576 →
    laws_eqStringS.l0 k l m n = some (decide (l.drop n = m.drop n)) := by
  induction d with
  | zero =>
    intro k n hn hk hl
    obtain ⟨k, rfl⟩ : ∃ m, k = m + 1 := ⟨k - 1, by omega⟩
    simp only [laws_eqStringS.l0]
    rw [if_neg (by omega), List.drop_of_length_le (by omega), List.drop_of_length_le (by omega)]; simp
  | succ d ih =>
    intro k n hn hk hl
    obtain ⟨k, rfl⟩ : ∃ m, k = m + 1 := ⟨k - 1, by omega⟩
    have hlt : n < l.length := by omega
    have hlt' : n < m.length := by omega
    simp only [laws_eqStringS.l0]
    rw [if_pos (by omega), if_pos (by omega), if_pos (by omega), rdOf_at _ l n hlt, rdOf_at _ m n hlt', wrap_succ n (by omega), drop_at l n hlt, drop_at m n hlt']
    by_cases h : (l[n]'hlt).toList = (m[n]'hlt').toList
    · rw [if_pos h, ih k (n + 1) (by omega) (by omega) hl, toList_inj h]
      congr 1
      generalize l.drop (n + 1) = a
      generalize m.drop (n + 1) = b
      generalize m[n]'hlt' = x
      simp
    · rw [if_neg h, decide_eq_false]
      intro hq; injection hq with h1 _; exact h (by rw [h1])
theorem eq_str (l m : List ByteArray) (k : Nat) (hk : l.length < k) (hl : l.length ≤ 1048576) : laws_eqStringS.f k l m = some (decide (l = m)) := by
  unfold laws_eqStringS.f
  by_cases h : (l.length : Int) = (m.length : Int)
  · rw [if_pos h]
    have := eq_str_l l m (by omega) l.length k 0 (by omega) hk hl
    simpa using this
  · rw [if_neg h, decide_eq_false]
    rintro rfl; exact h rfl

/-! ### rounds enough -/
def Gets {α : Type} (F : Nat → Option α) (v : α) : Prop := ∃ k0 : Nat, ∀ k, k0 ≤ k → F k = some v
theorem Gets.const {α : Type} {F : Nat → Option α} {v : α} (h : ∀ k, F k = some v) : Gets F v := ⟨0, fun k _ => h k⟩
theorem Gets.congr {α : Type} {F G : Nat → Option α} {v : α} (h : ∀ k, F k = G k) (g : Gets G v) : Gets F v := by
  obtain ⟨k0, g⟩ := g; exact ⟨k0, fun k hk => (h k).trans (g k hk)⟩
theorem Gets.step {α : Type} {F G : Nat → Option α} {v : α} (h : ∀ k, F (k + 1) = G k) (g : Gets G v) : Gets F v := by
  obtain ⟨k0, g⟩ := g
  refine ⟨k0 + 1, fun k hk => ?_⟩
  obtain ⟨m, rfl⟩ : ∃ m, k = m + 1 := ⟨k - 1, by omega⟩
  rw [h m]; exact g m (by omega)
theorem Gets.step1 {α : Type} {F : Nat → Option α} {v : α} (h : ∀ k, F (k + 1) = some v) : Gets F v := Gets.step h (Gets.const (F := fun _ => some v) fun _ => rfl)
theorem Gets.bind {α β : Type} {A : Nat → Option β} {G : Nat → β → Option α} {b : β} {v : α} (a : Gets A b) (g : Gets (fun k => G k b) v) : Gets (fun k => (A k).bind (G k)) v := by
  obtain ⟨k1, a⟩ := a; obtain ⟨k2, g⟩ := g
  exact ⟨max k1 k2, fun k hk => by simp only [a k (by omega), Option.bind_some]; exact g k (by omega)⟩
theorem Gets.of {α : Type} {F : Nat → Option α} {v : α} (n : Nat) (h : ∀ k, n < k → F k = some v) : Gets F v := ⟨n + 1, fun k hk => h k (by omega)⟩
theorem Gets.some {α : Type} {F : Nat → Option α} {v : α} (g : Gets F v) : ∃ k, F k = some v := by obtain ⟨k, g⟩ := g; exact ⟨k, g k (Nat.le_refl _)⟩

/-! ### trees: the laws' own helpers -/
mutual
def nT : S49 → Nat
  | ⟨_, _, s, ks, kids⟩ => s.size + (ks.length + totS ks) + (kids.length + nTL kids)
def nTL : List S49 → Nat
  | [] => 0
  | x :: l => nT x + nTL l
end
mutual
def mT : S54 → Nat
  | ⟨_, _, s, ks, kids⟩ => s.size + (ks.length + totS ks) + (kids.length + mTL kids)
def mTL : List S54 → Nat
  | [] => 0
  | x :: l => mT x + mTL l
end
mutual
def cvT : S49 → S54
  | ⟨a, b, s, ks, kids⟩ => ⟨a, b, s, ks, cvTL kids⟩
def cvTL : List S49 → List S54
  | [] => []
  | x :: l => cvT x :: cvTL l
end
theorem nTL_tot (l : List S49) : nTL l = totL nT l := by
  induction l with
  | nil => rfl
  | cons x l ih => rw [nTL, ih]; simp [totL]
theorem mTL_tot (l : List S54) : mTL l = totL mT l := by
  induction l with
  | nil => rfl
  | cons x l ih => rw [mTL, ih]; simp [totL]
theorem cvTL_map (l : List S49) : cvTL l = l.map cvT := by
  induction l with
  | nil => rfl
  | cons x l ih => rw [cvTL, ih]; rfl
theorem nT_eq (x : S49) : nT x = x.f2.size + (x.f3.length + totS x.f3) + (x.f4.length + totL nT x.f4) := by
  cases x; rw [nT, nTL_tot]
theorem mT_eq (x : S54) : mT x = x.f2.size + (x.f3.length + totS x.f3) + (x.f4.length + totL mT x.f4) := by
  cases x; rw [mT, mTL_tot]
theorem cvT_eq (x : S49) : cvT x = ⟨x.f0, x.f1, x.f2, x.f3, x.f4.map cvT⟩ := by
  cases x; rw [cvT, cvTL_map]
theorem nT_kid (x y : S49) (h : y ∈ x.f4) : nT y + 1 ≤ nT x := by
  have := totL_mem nT x.f4 y h
  have hp : 0 < x.f4.length := List.length_pos_of_mem h
  rw [nT_eq x]; omega
theorem mT_kid (x y : S54) (h : y ∈ x.f4) : mT y + 1 ≤ mT x := by
  have := totL_mem mT x.f4 y h
  have hp : 0 < x.f4.length := List.length_pos_of_mem h
  rw [mT_eq x]; omega
theorem totL_congr {α : Type} (f g : α → Nat) (l : List α) (h : ∀ y ∈ l, f y = g y) : totL f l = totL g l := by unfold totL; exact congrArg List.sum (List.map_congr_left h)
theorem mT_cv (N : Nat) : ∀ x, nT x ≤ N → mT (cvT x) = nT x := by
  induction N using Nat.strongRecOn with
  | _ N ih =>
    intro x hx
    rw [mT_eq, nT_eq, cvT_eq]
    simp only [List.length_map]
    have : totL mT (x.f4.map cvT) = totL nT x.f4 := by
      unfold totL; rw [List.map_map]
      exact congrArg List.sum (List.map_congr_left fun y hy => ih (nT y) (by have := nT_kid x y hy; omega) y (Nat.le_refl _))
    rw [this]
theorem rdl_Tree (l : List S49) (n : Nat) (h : n < l.length) : rd_T49 l (n : Int) = l[n]'h := by unfold rd_T49; rw [Int.toNat_natCast]; simp [List.getD, List.getElem?_eq_getElem h]
theorem rdi_Tree (l : List S54) (n : Nat) (h : n < l.length) : rd_T54 l (n : Int) = l[n]'h := by unfold rd_T54; rw [Int.toNat_natCast]; simp [List.getD, List.getElem?_eq_getElem h]
def szRes (n : Nat) (a : Int) : Int := if (n : Int) ≤ a then a - n else -1
theorem szTS_l (L : List S49) (hL : L.length ≤ 9223372036854775807) (H : ∀ y ∈ L, ∀ a : Int, 0 ≤ a → a ≤ 1048576 → Gets (fun k => laws_szTree.f k y.f0 y.f1 y.f2 y.f3 y.f4 a) (szRes (nT y) a)) (d : Nat) : ∀ (i : Nat) (a : Int), i + d = L.length → 0 ≤ a → a ≤ 1048576 →
    Gets (fun k => laws_szTreeS.l0 k L a i) (szRes (totL nT (L.drop i)) a) := by
  induction d with
  | zero =>
    intro i a hi h0 h1
    refine Gets.step1 fun k => ?_
    simp only [laws_szTreeS.l0]
    rw [if_neg (by omega), List.drop_of_length_le (by omega), szRes, if_pos (by simp [totL]; omega)]; simp [totL]
  | succ d ih =>
    intro i a hi h0 h1
    have hlt : i < L.length := by omega
    have ht := totL_drop nT L i hlt
    obtain ⟨k1, g1⟩ := H _ (List.getElem_mem hlt) a h0 h1
    by_cases c : (nT (L[i]'hlt) : Int) ≤ a
    · obtain ⟨k2, g2⟩ := ih (i + 1) (a - nT (L[i]'hlt)) (by omega) (by omega) (by omega)
      refine ⟨k1 + k2 + 1, fun k hk => ?_⟩
      obtain ⟨q, rfl⟩ : ∃ q, k = q + 1 := ⟨k - 1, by omega⟩
      have e1 := g1 q (by omega)
      have e2 := g2 q (by omega)
      simp only [] at e2
      simp only [szRes, if_pos c] at e1
      simp only [laws_szTreeS.l0]
      rw [if_pos (by omega), if_pos (by omega), rdl_Tree L i hlt, e1, wrap_succ i (by omega)]; simp only [Option.bind_some]
      rw [if_neg (by omega), e2]; congr 1; unfold szRes; split <;> split <;> omega
    · refine ⟨k1 + 1, fun k hk => ?_⟩
      obtain ⟨q, rfl⟩ : ∃ q, k = q + 1 := ⟨k - 1, by omega⟩
      have e1 := g1 q (by omega)
      simp only [szRes, if_neg c] at e1
      simp only [laws_szTreeS.l0]
      rw [if_pos (by omega), if_pos (by omega), rdl_Tree L i hlt, e1]; simp only [Option.bind_some]
      rw [if_pos (by decide), szRes, if_neg (by omega)]
theorem szT (N : Nat) : ∀ (x : S49) (n : Nat), goodT49 n x → nT x ≤ N → ∀ a : Int, 0 ≤ a → a ≤ 1048576 → Gets (fun k => laws_szTree.f k x.f0 x.f1 x.f2 x.f3 x.f4 a) (szRes (nT x) a) := by
  induction N using Nat.strongRecOn with
  | _ N ih =>
    intro x n hg hN a h0 h1
    cases n with
    | zero => exact hg.elim
    | succ n =>
      obtain ⟨_, _, g2, g3, g4⟩ := hg
      have g2' : x.f2.size ≤ 9223372036854775807 := g2
      have hn := nT_eq x
      have hL := g4.1
      by_cases c : a - (x.f2.size : Int) < 0
      · refine Gets.step1 fun k => ?_
        simp only [laws_szTree.f]
        rw [wrap_id (a - (x.f2.size : Int)) (by omega) (by omega), if_pos c, szRes, if_neg (by omega)]
      · by_cases c3 : ((x.f3.length + totS x.f3 : Nat) : Int) ≤ a - (x.f2.size : Int)
        · by_cases c4 : a - (x.f2.size : Int) - ((x.f3.length + totS x.f3 : Nat) : Int) - (x.f4.length : Int) < 0
          · refine ⟨x.f3.length + totS x.f3 + 5, fun k hk => ?_⟩
            obtain ⟨q, rfl⟩ : ∃ q, k = q + 2 := ⟨k - 2, by omega⟩
            simp only [laws_szTree.f]
            rw [wrap_id (a - (x.f2.size : Int)) (by omega) (by omega), if_neg c, sz_str x.f3 g3.1 g3.2 (q + 1) _ (by omega) (by omega) (by omega)]; simp only [Option.bind_some]
            rw [if_pos c3, if_neg (by omega)]
            simp only [laws_szTreeS.f]
            rw [wrap_id (a - (x.f2.size : Int) - ((x.f3.length + totS x.f3 : Nat) : Int) - (x.f4.length : Int)) (by omega) (by omega), if_pos c4]; simp only [Option.bind_some]
            rw [if_pos (by decide), szRes, if_neg (by omega)]
          · obtain ⟨k1, e1⟩ := szTS_l x.f4 hL (fun y hy b hb0 hb1 => ih (nT y) (by have := nT_kid x y hy; omega) y n (g4.2 y hy) (Nat.le_refl _) b hb0 hb1) x.f4.length 0 (a - (x.f2.size : Int) - ((x.f3.length + totS x.f3 : Nat) : Int) - (x.f4.length : Int)) (by omega) (by omega) (by omega)
            refine ⟨k1 + x.f3.length + totS x.f3 + 5, fun k hk => ?_⟩
            obtain ⟨q, rfl⟩ : ∃ q, k = q + 2 := ⟨k - 2, by omega⟩
            have e2 := e1 q (by omega)
            simp only [Int.natCast_zero, List.drop_zero] at e2
            simp only [laws_szTree.f]
            rw [wrap_id (a - (x.f2.size : Int)) (by omega) (by omega), if_neg c, sz_str x.f3 g3.1 g3.2 (q + 1) _ (by omega) (by omega) (by omega)]; simp only [Option.bind_some]
            rw [if_pos c3, if_neg (by omega)]
            simp only [laws_szTreeS.f]
            rw [wrap_id (a - (x.f2.size : Int) - ((x.f3.length + totS x.f3 : Nat) : Int) - (x.f4.length : Int)) (by omega) (by omega), if_neg c4, e2]; simp only [Option.bind_some]
            unfold szRes
            by_cases c5 : ((totL nT x.f4 : Nat) : Int) ≤ a - (x.f2.size : Int) - ((x.f3.length + totS x.f3 : Nat) : Int) - (x.f4.length : Int)
            · rw [if_pos c5, if_neg (by omega), if_pos (by omega)]; congr 1; omega
            · rw [if_neg c5, if_pos (by decide), if_neg (by omega)]
        · refine ⟨x.f3.length + totS x.f3 + 5, fun k hk => ?_⟩
          obtain ⟨q, rfl⟩ : ∃ q, k = q + 2 := ⟨k - 2, by omega⟩
          simp only [laws_szTree.f]
          rw [wrap_id (a - (x.f2.size : Int)) (by omega) (by omega), if_neg c, sz_str x.f3 g3.1 g3.2 (q + 1) _ (by omega) (by omega) (by omega)]; simp only [Option.bind_some]
          rw [if_neg c3, if_pos (by decide), szRes, if_neg (by omega)]
theorem etaT (x : S54) : (⟨x.f0, x.f1, x.f2, x.f3, x.f4⟩ : S54) = x := by cases x; rfl
theorem toTS_l (L : List S49) (hL : L.length ≤ 1048576) (H : ∀ y ∈ L, Gets (fun k => laws_toTree.f k y.f0 y.f1 y.f2 y.f3 y.f4) ((cvT y).f0, (cvT y).f1, (cvT y).f2, (cvT y).f3, (cvT y).f4)) (d : Nat) : ∀ (i : Nat), i + d = L.length →
    Gets (fun k => laws_toTreeS.l0 k L ((L.map cvT).take i ++ List.replicate d z54) i) (L.map cvT) := by
  induction d with
  | zero =>
    intro i hi
    refine Gets.step1 fun k => ?_
    simp only [laws_toTreeS.l0]
    rw [if_neg (by omega), List.take_of_length_le (by rw [List.length_map]; omega)]; simp
  | succ d ih =>
    intro i hi
    have hlt : i < L.length := by omega
    have hlen : ((L.map cvT).take i ++ List.replicate (d + 1) z54).length = L.length := by simp; omega
    obtain ⟨k1, g1⟩ := H _ (List.getElem_mem hlt)
    obtain ⟨k2, g2⟩ := ih (i + 1) (by omega)
    refine ⟨k1 + k2 + 1, fun k hk => ?_⟩
    obtain ⟨q, rfl⟩ : ∃ q, k = q + 1 := ⟨k - 1, by omega⟩
    have e1 := g1 q (by omega)
    simp only [] at e1
    simp only [laws_toTreeS.l0]
    rw [hlen, if_pos (by omega), if_pos (by omega), rdl_Tree L i hlt, e1]
    simp only [Option.bind_some]
    rw [if_pos (by omega)]
    rw [etaT]
    have e : cvT (L[i]'hlt) = (L.map cvT)[i]'(by rw [List.length_map]; exact hlt) := by rw [List.getElem_map]
    rw [Int.toNat_natCast, e, set_take (L.map cvT) _ i d (by rw [List.length_map]; exact hi), wrap_succ i (by omega)]
    exact g2 q (by omega)
theorem toT (N : Nat) : ∀ x : S49, nT x ≤ N → nT x ≤ 1048576 → Gets (fun k => laws_toTree.f k x.f0 x.f1 x.f2 x.f3 x.f4) ((cvT x).f0, (cvT x).f1, (cvT x).f2, (cvT x).f3, (cvT x).f4) := by
  induction N using Nat.strongRecOn with
  | _ N ih =>
    intro x hN hl
    have hn := nT_eq x
    obtain ⟨k1, g1⟩ := toTS_l x.f4 (by omega) (fun y hy => ih (nT y) (by have := nT_kid x y hy; omega) y (Nat.le_refl _) (by have := nT_kid x y hy; omega)) x.f4.length 0 (by omega)
    refine ⟨k1 + x.f3.length + 5, fun k hk => ?_⟩
    obtain ⟨q, rfl⟩ : ∃ q, k = q + 2 := ⟨k - 2, by omega⟩
    have e1 := g1 q (by omega)
    simp only [Int.natCast_zero, List.take_zero, List.nil_append] at e1
    simp only [laws_toTree.f]
    rw [to_str x.f3 (q + 1) (by omega) (by omega)]; simp only [Option.bind_some]
    simp only [laws_toTreeS.f]
    rw [if_pos (by omega), if_pos (by omega), Int.toNat_natCast, e1]; simp only [Option.bind_some]
    rw [cvT_eq]
theorem eqTS_l (L : List S54) (hL : L.length ≤ 1048576) (H : ∀ y ∈ L, Gets (fun k => laws_eqTree.f k y.f0 y.f1 y.f2 y.f3 y.f4 y.f0 y.f1 y.f2 y.f3 y.f4) true) (d : Nat) : ∀ (i : Nat), i + d = L.length →
    Gets (fun k => laws_eqTreeS.l0 k L L i) true := by
  induction d with
  | zero =>
    intro i hi
    refine Gets.step1 fun k => ?_
    simp only [laws_eqTreeS.l0]
    rw [if_neg (by omega)]
  | succ d ih =>
    intro i hi
    have hlt : i < L.length := by omega
    obtain ⟨k1, g1⟩ := H _ (List.getElem_mem hlt)
    obtain ⟨k2, g2⟩ := ih (i + 1) (by omega)
    refine ⟨k1 + k2 + 1, fun k hk => ?_⟩
    obtain ⟨q, rfl⟩ : ∃ q, k = q + 1 := ⟨k - 1, by omega⟩
    have e1 := g1 q (by omega)
    simp only [] at e1
    simp only [laws_eqTreeS.l0]
    rw [if_pos (by omega), if_pos (by omega), if_pos (by omega), rdi_Tree L i hlt, e1]
    simp only [Option.bind_some]
    rw [if_pos trivial, wrap_succ i (by omega)]
    exact g2 q (by omega)
theorem eqT (N : Nat) : ∀ x : S54, mT x ≤ N → mT x ≤ 1048576 → Gets (fun k => laws_eqTree.f k x.f0 x.f1 x.f2 x.f3 x.f4 x.f0 x.f1 x.f2 x.f3 x.f4) true := by
  induction N using Nat.strongRecOn with
  | _ N ih =>
    intro x hN hl
    have hn := mT_eq x
    obtain ⟨k1, g1⟩ := eqTS_l x.f4 (by omega) (fun y hy => ih (mT y) (by have := mT_kid x y hy; omega) y (Nat.le_refl _) (by have := mT_kid x y hy; omega)) x.f4.length 0 (by omega)
    refine ⟨k1 + x.f3.length + 5, fun k hk => ?_⟩
    obtain ⟨q, rfl⟩ : ∃ q, k = q + 2 := ⟨k - 2, by omega⟩
    have e1 := g1 q (by omega)
    simp only [Int.natCast_zero] at e1
    have e0 := eq_str x.f3 x.f3 (q + 1) (by omega) (by omega)
    simp only [laws_eqTree.f, laws_eqTreeS.f]
    simp [e0, e1]

theorem sp_texts_l (l m : List ByteArray) (he : l.length = m.length) (d : Nat) : ∀ (k n : Nat), n + d = l.length → d < k → l.length ≤ 1048576 →
    spec_l04SameTexts.l0 k l m n = some (decide (l.drop n = m.drop n)) := by
  induction d with
  | zero =>
    intro k n hn hk hl
    obtain ⟨k, rfl⟩ : ∃ m, k = m + 1 := ⟨k - 1, by omega⟩
    simp only [spec_l04SameTexts.l0]
    rw [if_neg (by omega), List.drop_of_length_le (by omega), List.drop_of_length_le (by omega)]; simp
  | succ d ih =>
    intro k n hn hk hl
    obtain ⟨k, rfl⟩ : ∃ m, k = m + 1 := ⟨k - 1, by omega⟩
    have hlt : n < l.length := by omega
    have hlt' : n < m.length := by omega
    simp only [spec_l04SameTexts.l0]
    rw [if_pos (by omega), if_pos (by omega), if_pos (by omega), rdOf_at _ l n hlt, rdOf_at _ m n hlt', wrap_succ n (by omega), drop_at l n hlt, drop_at m n hlt']
    by_cases h : (l[n]'hlt).toList = (m[n]'hlt').toList
    · rw [if_pos h, ih k (n + 1) (by omega) (by omega) hl, toList_inj h]
      congr 1
      generalize l.drop (n + 1) = a
      generalize m.drop (n + 1) = b
      generalize m[n]'hlt' = x
      simp
    · rw [if_neg h, decide_eq_false]
      intro hq; injection hq with h1 _; exact h (by rw [h1])
theorem sp_texts (l m : List ByteArray) (k : Nat) (hk : l.length < k) (hl : l.length ≤ 1048576) : spec_l04SameTexts.f k l m = some (decide (l = m)) := by
  unfold spec_l04SameTexts.f
  by_cases h : (l.length : Int) = (m.length : Int)
  · rw [if_pos h]
    have := sp_texts_l l m (by omega) l.length k 0 (by omega) hk hl
    simpa using this
  · rw [if_neg h, decide_eq_false]
    rintro rfl; exact h rfl

theorem ip_texts_l (l m : List ByteArray) (he : l.length = m.length) (d : Nat) : ∀ (k n : Nat), n + d = l.length → d < k → l.length ≤ 1048576 →
    slices_Equal_string_string.l0 k l m l.length n = some (decide (l.drop n = m.drop n)) := by
  induction d with
  | zero =>
    intro k n hn hk hl
    obtain ⟨k, rfl⟩ : ∃ m, k = m + 1 := ⟨k - 1, by omega⟩
    simp only [slices_Equal_string_string.l0]
    rw [if_neg (by omega), List.drop_of_length_le (by omega), List.drop_of_length_le (by omega)]; simp
  | succ d ih =>
    intro k n hn hk hl
    obtain ⟨k, rfl⟩ : ∃ m, k = m + 1 := ⟨k - 1, by omega⟩
    have hlt : n < l.length := by omega
    have hlt' : n < m.length := by omega
    simp only [slices_Equal_string_string.l0]
    rw [if_pos (by omega), if_pos (by omega), if_pos (by omega), if_pos (by omega), rdOf_at _ l n hlt, rdOf_at _ m n hlt', wrap_succ n (by omega), drop_at l n hlt, drop_at m n hlt']
    by_cases h : (l[n]'hlt).toList = (m[n]'hlt').toList
    · rw [if_pos h, ih k (n + 1) (by omega) (by omega) hl, toList_inj h]
      congr 1
      generalize l.drop (n + 1) = a
      generalize m.drop (n + 1) = b
      generalize m[n]'hlt' = x
      simp
    · rw [if_neg h, decide_eq_false]
      intro hq; injection hq with h1 _; exact h (by rw [h1])
theorem ip_texts (l m : List ByteArray) (k : Nat) (hk : l.length < k) (hl : l.length ≤ 1048576) : slices_Equal_string_string.f k l m = some (decide (l = m)) := by
  unfold slices_Equal_string_string.f
  by_cases h : (l.length : Int) = (m.length : Int)
  · rw [if_pos h]
    have := ip_texts_l l m (by omega) l.length k 0 (by omega) hk hl
    simpa using this
  · rw [if_neg h, decide_eq_false]
    rintro rfl; exact h rfl

def ImpSame (x y : S54) (b : Bool) : Prop := Gets (fun k => impl_SameTree.f k x.f0 x.f1 x.f2 x.f3 x.f4 y.f0 y.f1 y.f2 y.f3 y.f4) b
def SpcSame (x y : S54) (b : Bool) : Prop := Gets (fun k => spec_SameTree.f k x.f0 x.f1 x.f2 x.f3 x.f4 y.f0 y.f1 y.f2 y.f3 y.f4) b
theorem same_l (x y : S54) (L M : List S54) (hx : x.f4 = L) (hy : y.f4 = M) (he : L.length = M.length) (hL : L.length ≤ 1048576) (H : ∀ z ∈ L, ∀ v, ∃ b, SpcSame z v b ∧ ImpSame z v b) (d : Nat) : ∀ (i : Nat), i + d = L.length →
    ∃ b, Gets (fun k => spec_SameTree.l0 k i x.f0 x.f1 x.f2 x.f3 L y.f0 y.f1 y.f2 y.f3 M) b ∧ Gets (fun k => impl_Tree_w42.l0 k M L L.length i) b := by
  induction d with
  | zero =>
    intro i hi
    refine ⟨true, Gets.step1 fun k => ?_, Gets.step1 fun k => ?_⟩
    · simp only [spec_SameTree.l0]; rw [if_neg (by omega)]
    · simp only [impl_Tree_w42.l0]; rw [if_neg (by omega)]
  | succ d ih =>
    intro i hi
    have hlt : i < L.length := by omega
    have hlt' : i < M.length := by omega
    obtain ⟨b, ⟨k1, g1⟩, ⟨k2, g2⟩⟩ := H _ (List.getElem_mem hlt) (M[i]'hlt')
    obtain ⟨c, ⟨k3, g3⟩, ⟨k4, g4⟩⟩ := ih (i + 1) (by omega)
    refine ⟨if b = true then c else false, ⟨k1 + k3 + 1, fun k hk => ?_⟩, ⟨k2 + k4 + 1, fun k hk => ?_⟩⟩
    · obtain ⟨q, rfl⟩ : ∃ q, k = q + 1 := ⟨k - 1, by omega⟩
      have e1 := g1 q (by omega)
      have e3 := g3 q (by omega)
      simp only [] at e1
      simp only [spec_SameTree.l0]
      rw [if_pos (by omega), if_pos (by omega), if_pos (by omega), rdi_Tree L i hlt, rdi_Tree M i hlt', e1, wrap_succ i (by omega)]; simp only [Option.bind_some]
      cases b
      · rfl
      · exact e3
    · obtain ⟨q, rfl⟩ : ∃ q, k = q + 1 := ⟨k - 1, by omega⟩
      have e1 := g2 q (by omega)
      have e3 := g4 q (by omega)
      simp only [] at e1
      simp only [impl_Tree_w42.l0]
      rw [if_pos (by omega), if_pos (by omega), if_pos (by omega), if_pos (by omega), rdi_Tree L i hlt, rdi_Tree M i hlt', e1, wrap_succ i (by omega)]; simp only [Option.bind_some]
      cases b
      · rfl
      · exact e3
theorem spc_false (x y : S54) (h : x.f3.length ≤ 1048576) (hq : ¬ (x.f0 = y.f0 ∧ x.f1 = y.f1 ∧ x.f2.toList = y.f2.toList ∧ x.f3 = y.f3 ∧ x.f4.length = y.f4.length)) : SpcSame x y false := by
  refine ⟨x.f3.length + 5, fun k hk => ?_⟩
  obtain ⟨q, rfl⟩ : ∃ q, k = q + 2 := ⟨k - 2, by omega⟩
  simp only [spec_SameTree.f, spec_SameTree.j0]
  by_cases c0 : x.f0 = y.f0
  · by_cases c1 : x.f1 = y.f1
    · by_cases c2 : x.f2.toList = y.f2.toList
      · rw [if_pos c0, if_pos c1, if_pos c2, sp_texts _ _ (q + 1) (by omega) h]; simp only [Option.bind_some]
        by_cases c3 : x.f3 = y.f3
        · rw [if_pos (by simpa using c3), if_pos]
          simp only [bne_iff_ne, ne_eq]
          intro h4; exact hq ⟨c0, c1, c2, c3, by omega⟩
        · rw [if_neg (by simpa using c3), if_pos trivial]
      · rw [if_pos c0, if_pos c1, if_neg c2, if_pos trivial]
    · rw [if_pos c0, if_neg c1, if_pos trivial]
  · rw [if_neg c0, if_pos trivial]
theorem imp_false (x y : S54) (h : x.f3.length ≤ 1048576) (hq : ¬ (x.f0 = y.f0 ∧ x.f1 = y.f1 ∧ x.f2.toList = y.f2.toList ∧ x.f3 = y.f3 ∧ x.f4.length = y.f4.length)) : ImpSame x y false := by
  refine ⟨x.f3.length + 5, fun k hk => ?_⟩
  obtain ⟨q, rfl⟩ : ∃ q, k = q + 2 := ⟨k - 2, by omega⟩
  simp only [impl_SameTree.f, impl_Tree_w42.f]
  by_cases c0 : x.f0 = y.f0
  · by_cases c1 : x.f1 = y.f1
    · by_cases c2 : x.f2.toList = y.f2.toList
      · rw [if_pos c0, if_pos c1, if_pos c2, ip_texts _ _ (q + 1) (by omega) h]; simp only [Option.bind_some]
        by_cases c3 : x.f3 = y.f3
        · rw [if_pos (by simpa using c3), if_neg]
          · rfl
          · intro h4; exact hq ⟨c0, c1, c2, c3, by omega⟩
        · rw [if_neg (by simpa using c3)]
      · rw [if_pos c0, if_pos c1, if_neg c2]
    · rw [if_pos c0, if_neg c1]
  · rw [if_neg c0]
theorem same_T (N : Nat) : ∀ x y : S54, mT x ≤ N → mT x ≤ 1048576 → ∃ b, SpcSame x y b ∧ ImpSame x y b := by
  induction N using Nat.strongRecOn with
  | _ N ih =>
    intro x y hN hl
    have hn := mT_eq x
    by_cases hq : x.f0 = y.f0 ∧ x.f1 = y.f1 ∧ x.f2.toList = y.f2.toList ∧ x.f3 = y.f3 ∧ x.f4.length = y.f4.length
    rotate_left
    · exact ⟨false, spc_false x y (by omega) hq, imp_false x y (by omega) hq⟩
    obtain ⟨c0, c1, c2, c3, c4⟩ := hq
    obtain ⟨b, ⟨k1, g1⟩, ⟨k2, g2⟩⟩ := same_l x y x.f4 y.f4 rfl rfl c4 (by omega) (fun z hz v => ih (mT z) (by have := mT_kid x z hz; omega) z v (Nat.le_refl _) (by have := mT_kid x z hz; omega)) x.f4.length 0 (by omega)
    refine ⟨b, ⟨k1 + x.f3.length + 5, fun k hk => ?_⟩, ⟨k2 + x.f3.length + 5, fun k hk => ?_⟩⟩
    · obtain ⟨q, rfl⟩ : ∃ q, k = q + 2 := ⟨k - 2, by omega⟩
      have e1 := g1 q (by omega)
      simp only [Int.natCast_zero] at e1
      simp only [spec_SameTree.f, spec_SameTree.j0]
      rw [if_pos c0, if_pos c1, if_pos c2, sp_texts _ _ (q + 1) (by omega) (by omega)]; simp only [Option.bind_some]
      rw [if_pos (by simpa using c3), if_neg (by simp [c4])]
      exact e1
    · obtain ⟨q, rfl⟩ : ∃ q, k = q + 2 := ⟨k - 2, by omega⟩
      have e1 := g2 q (by omega)
      simp only [Int.natCast_zero] at e1
      simp only [impl_SameTree.f, impl_Tree_w42.f]
      rw [if_pos c0, if_pos c1, if_pos c2, ip_texts _ _ (q + 1) (by omega) (by omega)]; simp only [Option.bind_some]
      rw [if_pos (by simpa using c3), if_pos (by omega), e1]; rfl

theorem FnExactSameTree : laws_FnExactSameTree.Pure := by
  intro a0 a1 a2 a3 a4 b0 b1 b2 b3 b4 hg hg'
  obtain ⟨n, hg⟩ := hg
  obtain ⟨n', hg'⟩ := hg'
  generalize hx : (⟨a0, a1, a2, a3, a4⟩ : S49) = x at hg
  generalize hy : (⟨b0, b1, b2, b3, b4⟩ : S49) = y at hg'
  obtain ⟨k1, s1⟩ := szT _ x n hg (Nat.le_refl _) 1048576 (by decide) (by decide)
  by_cases c : ((nT x : Nat) : Int) ≤ 1048576
  rotate_left
  · have e := s1 k1 (Nat.le_refl _)
    refine ⟨k1, ?_⟩
    unfold laws_FnExactSameTree.f
    subst hx
    simp only [szRes, if_neg c] at e
    rw [e]; rfl
  obtain ⟨k2, s2⟩ := szT _ y n' hg' (Nat.le_refl _) (1048576 - (nT x : Int)) (by omega) (by omega)
  by_cases c2 : ((nT y : Nat) : Int) ≤ 1048576 - (nT x : Int)
  rotate_left
  · have e := s1 (k1 + k2) (by omega)
    have e' := s2 (k1 + k2) (by omega)
    refine ⟨k1 + k2, ?_⟩
    unfold laws_FnExactSameTree.f
    subst hx
    subst hy
    simp only [szRes, if_pos c] at e
    simp only [szRes, if_neg c2] at e'
    rw [e]; simp only [Option.bind_some]
    rw [if_neg (by omega), e']; rfl
  obtain ⟨k3, t1⟩ := toT _ x (Nat.le_refl _) (by omega)
  obtain ⟨k4, t2⟩ := toT _ y (Nat.le_refl _) (by omega)
  have m1 := mT_cv _ x (Nat.le_refl _)
  have m2 := mT_cv _ y (Nat.le_refl _)
  obtain ⟨b, ⟨k5, g1⟩, ⟨k6, g2⟩⟩ := same_T _ (cvT x) (cvT y) (Nat.le_refl _) (by omega)
  obtain ⟨k7, q1⟩ := eqT _ (cvT x) (Nat.le_refl _) (by omega)
  obtain ⟨k8, q2⟩ := eqT _ (cvT y) (Nat.le_refl _) (by omega)
  obtain ⟨K, hK⟩ : ∃ K, k1 + k2 + k3 + k4 + k5 + k6 + k7 + k8 = K := ⟨_, rfl⟩
  have e1 := s1 K (by omega); have e2 := s2 K (by omega); have e3 := t1 K (by omega); have e4 := t2 K (by omega); have e5 := g1 K (by omega); have e6 := g2 K (by omega); have e7 := q1 K (by omega); have e8 := q2 K (by omega)
  refine ⟨K, ?_⟩
  clear s1 s2 t1 t2 g1 g2 q1 q2
  unfold laws_FnExactSameTree.f
  subst hx
  subst hy
  simp only [szRes, if_pos c] at e1
  simp only [szRes, if_pos c2] at e2
  simp only [] at e3 e4 e5 e6 e7 e8
  rw [e1]; simp only [Option.bind_some]
  rw [if_neg (by omega), e2]; simp only [Option.bind_some]
  rw [if_neg (by omega), e3]; simp only [Option.bind_some]
  rw [e4]; simp only [Option.bind_some]
  rw [e5]; simp only [Option.bind_some]
  rw [e6]; simp only [Option.bind_some]
  rw [e7]; simp only [Option.bind_some]
  rw [e8]
  simp

end Go.Proofs.Ytoihkkkdkpllnaa.Pure
