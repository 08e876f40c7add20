/- The laws' helpers over slices: to. -/
import Derived.Test.YtpopccnnjpdmlaaVmSz
namespace Go.Proofs.Ytpopccnnjpdmlaa.Vm
open Go Go.RowKit
set_option linter.unusedVariables false
set_option linter.unusedSimpArgs false
def toS (sz byt : Nat) (z : AV) (f : Nat) : VC :=
  .seq
    (.reg false [⟨some 2, .as (.c (.sl ⟨.nl, true⟩ 1 [])), none⟩] [2])
    (.seq
      (.reg false [⟨some 5, .mv (.t 0), none⟩,
        ⟨some 6, .len false (.t 5), none⟩,
        ⟨some 7, .mks sz byt z (.t 6), none⟩,
        ⟨some 3, .as (.t 7), none⟩] [5, 6, 7])
      (.seq
        (.seq
          (.reg false [⟨some 4, .as (.c (.lit (.int .i64 0))), none⟩] [])
          (.block 0
            (.loop
              (.seq
                (.seq
                  (.reg false [⟨some 8, .mv (.t 4), none⟩,
                    ⟨some 9, .mv (.t 0), none⟩,
                    ⟨some 10, .len false (.t 9), none⟩,
                    ⟨some 11, .bin .lss 0 (.t 8) (.t 10), none⟩] [8, 9, 10])
                  (.cond (.t 11)
                    (.skip)
                    (.exit 0)))
                (.seq
                  (.block 1
                    (.reg false [⟨some 14, .mv (.t 3), none⟩,
                      ⟨some 15, .mv (.t 4), none⟩,
                      ⟨some 16, .mv (.t 0), none⟩,
                      ⟨some 17, .mv (.t 4), none⟩,
                      ⟨some 18, .ia sz (.t 16) (.t 17), none⟩,
                      ⟨some 19, .ld true sz (.t 18), none⟩,
                      ⟨some 20, .call false f [(.t 19)], none⟩,
                      ⟨some 21, .ia sz (.t 14) (.t 15), none⟩,
                      ⟨none, .st sz (.t 21) (.t 20), none⟩] [14, 15, 16, 17, 18, 19, 20, 21]))
                  (.reg false [⟨some 12, .mv (.t 4), none⟩,
                    ⟨some 13, .bin .add 0 (.t 12) (.c (.lit (.int .i64 1))), none⟩,
                    ⟨some 4, .as (.t 13), none⟩] [12, 13]))))))
        (.seq
          (.reg false [⟨some 22, .mv (.t 3), none⟩,
            ⟨some 2, .as (.t 22), none⟩] [22])
          (.ret))))
def toStr : VC :=
  .seq
    (.reg false [⟨some 2, .as (.c (.sl ⟨.nl, true⟩ 1 [])), none⟩] [2])
    (.seq
      (.reg false [⟨some 5, .mv (.t 0), none⟩,
        ⟨some 6, .len false (.t 5), none⟩,
        ⟨some 7, .mks 1 16 (.lit (.string (by8 ""))) (.t 6), none⟩,
        ⟨some 3, .as (.t 7), none⟩] [5, 6, 7])
      (.seq
        (.seq
          (.reg false [⟨some 4, .as (.c (.lit (.int .i64 0))), none⟩] [])
          (.block 0
            (.loop
              (.seq
                (.seq
                  (.reg false [⟨some 8, .mv (.t 4), none⟩,
                    ⟨some 9, .mv (.t 0), none⟩,
                    ⟨some 10, .len false (.t 9), none⟩,
                    ⟨some 11, .bin .lss 0 (.t 8) (.t 10), none⟩] [8, 9, 10])
                  (.cond (.t 11)
                    (.skip)
                    (.exit 0)))
                (.seq
                  (.block 1
                    (.reg false [⟨some 14, .mv (.t 3), none⟩,
                      ⟨some 15, .mv (.t 4), none⟩,
                      ⟨some 16, .mv (.t 0), none⟩,
                      ⟨some 17, .mv (.t 4), none⟩,
                      ⟨some 18, .ia 1 (.t 16) (.t 17), none⟩,
                      ⟨some 19, .ld false 1 (.t 18), none⟩,
                      ⟨some 20, .ia 1 (.t 14) (.t 15), none⟩,
                      ⟨none, .st 1 (.t 20) (.t 19), none⟩] [14, 15, 16, 17, 18, 19, 20]))
                  (.reg false [⟨some 12, .mv (.t 4), none⟩,
                    ⟨some 13, .bin .add 0 (.t 12) (.c (.lit (.int .i64 1))), none⟩,
                    ⟨some 4, .as (.t 13), none⟩] [12, 13]))))))
        (.seq
          (.reg false [⟨some 21, .mv (.t 3), none⟩,
            ⟨some 2, .as (.t 21), none⟩] [21])
          (.ret))))
theorem setRep {α : Type} (A : List α) (m : Nat) (z v : α) : (A ++ List.replicate (m + 1) z).set A.length v = A ++ v :: List.replicate m z := by
  rw [List.set_append_right _ _ (Nat.le_refl _), Nat.sub_self, List.replicate_succ, List.set_cons_zero]
theorem getRep {α : Type} (A : List α) (m : Nat) (z : α) : (A ++ List.replicate (m + 1) z)[A.length]? = some z := by
  rw [List.getElem?_append_right (Nat.le_refl _), Nat.sub_self, List.replicate_succ]; rfl
theorem relab_mkT (t : Nat) (b : Bool) : ∀ (a : AV), relab t b (mkF true a) = mkF true a := by
  intro a
  refine AV.rec (motive_1 := fun a => relab t b (mkF true a) = mkF true a) (motive_2 := fun l => relab.relabL t b (mkF.mkL true l) = mkF.mkL true l) ?_ ?_ ?_ ?_ ?_ ?_ ?_ ?_ ?_ ?_ ?_ ?_ ?_ a
  all_goals (intros; try rfl)
  · rename_i cs ih; simp only [mkF, relab, ih]
  · rename_i a l h1 h2; simp only [mkF.mkL, relab.relabL, h1, h2]
theorem relabL_mkT (t : Nat) (b : Bool) (l : List AV) : relab.relabL t b (mkF.mkL true l) = mkF.mkL true l := by
  induction l with
  | nil => rfl
  | cons a l ih => simp only [mkF.mkL, relab.relabL, relab_mkT, ih]
theorem frA_mkT : ∀ (a : AV), frA (mkF true a) = true := by
  intro a
  refine AV.rec (motive_1 := fun a => frA (mkF true a) = true) (motive_2 := fun l => frA.frL (mkF.mkL true l) = true) ?_ ?_ ?_ ?_ ?_ ?_ ?_ ?_ ?_ ?_ ?_ ?_ ?_ a
  all_goals (intros; try rfl)
  · rename_i cs ih; simp only [mkF, frA, ih]
  · rename_i a l h1 h2; simp only [mkF.mkL, frA.frL, h1, h2, Bool.and_self]
theorem frL_mkT (l : List AV) : frA.frL (mkF.mkL true l) = true := by
  induction l with
  | nil => rfl
  | cons a l ih => simp only [mkF.mkL, frA.frL, frA_mkT, ih, Bool.and_self]
theorem okC_mkF (b : Bool) (a : AV) (h : okC a = true) (hd : dat a = true) : okC (mkF b a) = true := by
  cases a with
  | un => cases h
  | lit => rfl
  | sl => rfl
  | agg => cases h
  | _ => cases hd
theorem allOk_mkL (b : Bool) {l : List AV} (h : l.all okC = true) (hp : PlL l) : (mkF.mkL b l).all okC = true := by
  rw [List.all_eq_true] at h ⊢
  intro c hc
  rw [mkL_map] at hc
  obtain ⟨a, ha, rfl⟩ := List.mem_map.1 hc
  exact okC_mkF b a (h a ha) (PlL_iff.1 hp a ha).dat
theorem upd_all {α : Type} {l m : List α} (h : m.length = l.length) : upd l 0 m = m := by
  unfold upd
  simp [List.drop_eq_nil_of_le (show l.length ≤ m.length by omega)]
attribute [simp] relab_mkT relabL_mkT frA_mkT frL_mkT mkL_len
/-- a row that is filled from the front -/
def row {α : Type} (F : α → AV) (z : AV) (xs : List α) (i : Nat) : List AV := (xs.take i).map F ++ List.replicate (xs.length - i) z
theorem row_len {α : Type} (F : α → AV) (z : AV) (xs : List α) (i : Nat) (h : i ≤ xs.length) : (row F z xs i).length = xs.length := by
  unfold row; simp; omega
theorem row_get {α : Type} (F : α → AV) (z : AV) (xs : List α) (i : Nat) (h : i < xs.length) : (row F z xs i)[i]? = some z := by
  unfold row
  rw [List.getElem?_append_right (by simp; omega)]
  simp [List.getElem?_replicate]; omega
theorem row_set {α : Type} (F : α → AV) (z : AV) (xs : List α) (i : Nat) (h : i < xs.length) : (row F z xs i).set i (F xs[i]) = row F z xs (i + 1) := by
  unfold row
  rw [List.set_append_right _ _ (by simp; omega)]
  rw [show xs.length - i = (xs.length - (i + 1)) + 1 by omega, List.replicate_succ]
  have hl : i - ((xs.take i).map F).length = 0 := by simp; omega
  rw [hl, List.set_cons_zero, List.take_succ_eq_append_getElem h, List.map_append, List.append_assoc]
  rfl
theorem row_all {α : Type} (F : α → AV) (z : AV) (xs : List α) : row F z xs xs.length = xs.map F := by
  unfold row; simp
theorem row_zero {α : Type} (F : α → AV) (z : AV) (xs : List α) : row F z xs 0 = List.replicate xs.length z := by
  unfold row; simp
theorem row_mem {α : Type} {F : α → AV} {z : AV} {xs : List α} {i : Nat} {c : AV} (h : c ∈ row F z xs i) : (∃ x ∈ xs, c = F x) ∨ c = z := by
  unfold row at h
  rcases List.mem_append.1 h with h | h
  · obtain ⟨x, hx, rfl⟩ := List.mem_map.1 h
    exact .inl ⟨x, List.mem_of_mem_take hx, rfl⟩
  · exact .inr (List.eq_of_mem_replicate h)
theorem row_noC {α : Type} {F : α → AV} {z : AV} {xs : List α} {i : Nat} {d : Nat} (hF : ∀ x, noC d (F x) = true) (hz : noC d z = true) : noC.noL d (row F z xs i) = true := noCL_iff.2 fun c hc => by
  rcases row_mem hc with ⟨x, _, rfl⟩ | rfl
  · exact hF x
  · exact hz
theorem le_mul_cast {a b c : Nat} (h : a * b ≤ c) : (a : Int) * (b : Int) ≤ (c : Int) := by
  rw [← Int.natCast_mul]; exact Int.ofNat_le.2 h
/-- The end, a row told as a list. -/
theorem Fin_row {rs : List VR} {r : AV} {ks : List Nat} {env : List (Nat × AV)} {bxs : List (Nat × List AV)} (t n sz len : Nat) (l : List AV) (hn : 1000 ≤ n) (h1 : look env t = some (.bs n sz len)) (h2 : look bxs n = some l) (h3 : len = l.length) (h4 : l.all (fun e => frA e && dat e) = true) {r' : AV} (h5 : resVs ⟨setL t (.sl ⟨.no, true⟩ sz (strip.stripL l)) env, bxs.filter fun p => p.1 != n⟩ rs = some [r']) (h6 : r = reC ks r') : Fin rs r ks .ret ⟨env, bxs⟩ :=
  ⟨.inr rfl, _, .frz ⟨env, bxs⟩ t n sz len l hn h1 h2 h3 h4, _, h5, h6⟩
variable {E : Env}
theorem toS_fx {n nt sz byt f : Nat} {zc : List AV} (h : Is E.P n nt (toS sz byt (.agg zc) f) [.t 2]) (hnt : 2 ≤ nt) {α : Type} {a : α → List AV} (hzl : zc.length = sz) (hzo : zc.all okC = true) (hzB : noB.noL 1007 zc = true) (hzC : noC.noL 20 zc = true) (ha : ∀ x, PlL (a x)) (hao : ∀ x, (a x).all okC = true) (hla : ∀ x, (a x).length = sz) (h0 : 0 < sz)
    (xs : List α) (hf : ∀ x ∈ xs, Fx E f [] [.agg (a x)] [] (.agg (mkF.mkL true (a x)))) (hb : xs.length * byt ≤ 70368744177664) (hxs : xs.length ≤ 1048576) : Fx E n [] [.sl ro sz (xs.map fun x => .agg (a x))] [] (.sl ⟨.no, true⟩ sz (xs.map fun x => .agg (a x))) := by
  refine h.fx [] (by simp; omega) rfl rfl ?_
  simp [toS, hzo, hzB, hzl]
  refine ⟨le_mul_cast hb, by omega, ?_⟩
  refine X_loop (τ := Nat) (fun i => ⟨[(0, .sl ro sz (xs.map fun x => .agg (a x))), (3, .bs 1007 sz xs.length), (4, .lit (.int .i64 i))], [(1007, row (fun x => .agg (mkF.mkL true (a x))) (.agg zc) xs i)]⟩) (fun i => i ≤ xs.length) (fun i => xs.length - i) 0 (by simp) (Wk.both (by simp [wkL, wkV.same]) (by simp [wkB, row_zero])) ?_
  intro i hi
  simp
  by_cases hlt : i < xs.length
  · simp [hlt, hla]
    refine vcall_go (hf xs[i] (List.getElem_mem hlt)) (by simp [hla, List.take_of_length_le, ha]) (by simp) (by simp) (by
      simp; exact row_noC (fun x => by simp) (by simpa using hzC)) ?_
    simp [hlt, hla, h0, row_get, hzl, allOk_mkL true (hao _) (ha _)]
    have hp : putElem (.agg zc) 0 (.agg (mkF.mkL true (a xs[i]))) = .agg (mkF.mkL true (a xs[i])) := by
      simp only [putElem, AV.cells]
      rw [upd_all (by simp [hla, hzl])]
    rw [hp, row_set (fun x => .agg (mkF.mkL true (a x))) (.agg zc) xs i hlt]
    refine ⟨i + 1, by omega, by omega, Wk.both (by simp [wkL, wkV.same]; rw [wrap_i64 (by omega) (by omega)]; exact wkV.same _) (by simp [wkB])⟩
  · have : i = xs.length := by omega
    subst this
    simp
    rw [row_all]
    refine Fin_row 2 1007 sz xs.length (xs.map fun x => .agg (mkF.mkL true (a x))) (by omega) rfl rfl (by simp) (by simp [frA, frL_mkT]) rfl ?_
    refine congrArg (AV.sl ⟨.no, true⟩ sz) (?_ : xs.map (fun x => .agg (a x)) = strip.stripL (xs.map fun x => .agg (mkF.mkL true (a x))))
    rw [stripL_map, List.map_map]
    exact List.map_congr_left fun x _ => by simp [ha]
theorem toStr_fx {n nt : Nat} (h : Is E.P n nt toStr [.t 2]) (hnt : 2 ≤ nt) (xs : List ByteArray) (hxs : xs.length ≤ 1048576) : Fx E n [] [.sl ro 1 (xs.map fun x => .lit (.string x))] [] (.sl ⟨.no, true⟩ 1 (xs.map fun x => .lit (.string x))) := by
  refine h.fx [] (by simp; omega) rfl rfl ?_
  simp [toStr, okC]
  refine ⟨by omega, by omega, ?_⟩
  refine X_loop (τ := Nat) (fun i => ⟨[(0, .sl ro 1 (xs.map fun x => .lit (.string x))), (3, .bs 1007 1 xs.length), (4, .lit (.int .i64 i))], [(1007, row (fun x => .lit (.string x)) (.lit (.string (by8 ""))) xs i)]⟩) (fun i => i ≤ xs.length) (fun i => xs.length - i) 0 (by simp) (Wk.both (by simp [wkL, wkV.same]) (by simp [wkB, row_zero])) ?_
  intro i hi
  simp
  by_cases hlt : i < xs.length
  · simp [hlt, mkF, row_get, okC]
    have hp : putElem (.lit (.string (by8 ""))) 0 (.lit (.string xs[i])) = .lit (.string xs[i]) := rfl
    rw [hp, row_set (fun x => .lit (.string x)) (.lit (.string (by8 ""))) xs i hlt]
    refine ⟨i + 1, by omega, by omega, Wk.both (by simp [wkL, wkV.same]; rw [wrap_i64 (by omega) (by omega)]; exact wkV.same _) (by simp [wkB])⟩
  · have : i = xs.length := by omega
    subst this
    simp
    rw [row_all]
    refine Fin_row 2 1007 1 xs.length (xs.map fun x => .lit (.string x)) (by omega) rfl rfl (by simp) (by simp [frA]) rfl ?_
    refine congrArg (AV.sl ⟨.no, true⟩ 1) (?_ : xs.map (fun x => .lit (.string x)) = strip.stripL (xs.map fun x => .lit (.string x)))
    rw [stripL_map, List.map_map]
    exact List.map_congr_left fun x _ => rfl
end Go.Proofs.Ytpopccnnjpdmlaa.Vm
