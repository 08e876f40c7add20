/- The laws' marks. -/
import Derived.Test.YticamghmcikfcaaProg
import Derived.Test.YticamghmcikfcaaVc
namespace Go.Proofs.Yticamghmcikfcaa.Vm
open Go Go.RowKit
set_option linter.unusedVariables false
set_option linter.unusedSimpArgs false
def v28 : VC := .seq (.reg false [⟨some 2, .as (.c (.lit (.string (by8 "")))), none⟩] [2]) (.seq (.seq (.reg false [⟨some 4, .mv (.t 0), none⟩, ⟨some 5, .bin .leq 0 (.t 4) (.c (.lit (.int .i64 0))), none⟩] [4]) (.cond (.t 5) (.seq (.reg false [⟨some 2, .as (.c (.lit (.string (by8 "m0")))), none⟩] []) (.ret)) (.skip))) (.seq (.reg false [⟨some 3, .as (.c (.lit (.string (by8 "")))), none⟩] []) (.seq (.block 0 (.loop (.seq (.seq (.reg false [⟨some 6, .mv (.t 0), none⟩, ⟨some 7, .bin .gtr 0 (.t 6) (.c (.lit (.int .i64 0))), none⟩] [6]) (.cond (.t 7) (.skip) (.exit 0))) (.block 1 (.seq (.reg false [⟨some 8, .mv (.t 0), none⟩, ⟨some 9, .bin .rem 0 (.t 8) (.c (.lit (.int .i64 10))), none⟩, ⟨some 10, .bin .add 0 (.c (.lit (.int .i64 48))) (.t 9), none⟩, ⟨some 11, .cvI .u8 (.t 10), none⟩, ⟨some 12, .bsl 1 [(.t 11)], none⟩, ⟨some 13, .b2s (.t 12), none⟩, ⟨some 14, .mv (.t 3), none⟩, ⟨some 15, .bin .add 0 (.t 13) (.t 14), none⟩, ⟨some 3, .as (.t 15), none⟩] [8, 9, 10, 11, 12, 13, 14, 15]) (.reg false [⟨some 16, .mv (.t 0), none⟩, ⟨some 17, .bin .quo 0 (.t 16) (.c (.lit (.int .i64 10))), none⟩, ⟨some 0, .as (.t 17), none⟩] [16, 17])))))) (.seq (.reg false [⟨some 18, .mv (.t 3), none⟩, ⟨some 19, .bin .add 0 (.c (.lit (.string (by8 "m")))) (.t 18), none⟩, ⟨some 2, .as (.t 19), none⟩] [18, 19]) (.ret)))))
theorem is28 : Is Go.Proofs.Try.prog 28 20 v28 [.t 2] := ⟨Go.Proofs.Try.f28, dl [(0, [2]), (1, [4]), (4, [6]), (5, [8, 9, 10, 11, 12, 13, 14, 15]), (6, [16, 17]), (7, [18, 19])], Go.Proofs.Try.func28, by kernel_rfl, by kernel_rfl, by kernel_rfl, by kernel_rfl⟩
def v26 : VC := .seq (.reg false [⟨some 4, .as (.c (.lit (.int .i64 0))), none⟩] [4]) (.seq (.seq (.reg false [⟨some 5, .as (.c (.lit (.int .i64 0))), none⟩] []) (.block 0 (.loop (.seq (.seq (.reg false [⟨some 6, .mv (.t 5), none⟩, ⟨some 7, .mv (.t 0), none⟩, ⟨some 8, .len false (.t 7), none⟩, ⟨some 9, .bin .lss 0 (.t 6) (.t 8), none⟩] [6, 7, 8]) (.cond (.t 9) (.skip) (.exit 0))) (.seq (.block 1 (.seq (.reg false [⟨some 12, .mv (.t 0), none⟩, ⟨some 13, .mv (.t 5), none⟩, ⟨some 14, .mv (.t 1), none⟩, ⟨some 15, .call false 28 [(.t 14)], none⟩, ⟨some 16, .ia 1 (.t 12) (.t 13), none⟩, ⟨none, .st 1 (.t 16) (.t 15), none⟩] [12, 13, 14, 15, 16]) (.reg false [⟨some 17, .mv (.t 1), none⟩, ⟨some 18, .bin .add 0 (.t 17) (.c (.lit (.int .i64 1))), none⟩, ⟨some 1, .as (.t 18), none⟩] [17, 18]))) (.reg false [⟨some 10, .mv (.t 5), none⟩, ⟨some 11, .bin .add 0 (.t 10) (.c (.lit (.int .i64 1))), none⟩, ⟨some 5, .as (.t 11), none⟩] [10, 11])))))) (.seq (.reg false [⟨some 19, .mv (.t 1), none⟩, ⟨some 4, .as (.t 19), none⟩] [19]) (.ret)))
theorem is26 : Is Go.Proofs.Try.prog 26 20 v26 [.t 4] := ⟨Go.Proofs.Try.f26, dl [(0, [4]), (2, [6, 7, 8]), (4, [12, 13, 14, 15, 16]), (5, [17, 18]), (3, [10, 11]), (6, [19])], Go.Proofs.Try.func26, by kernel_rfl, by kernel_rfl, by kernel_rfl, by kernel_rfl⟩
def v40 : VC := .seq (.reg false [⟨some 4, .as (.c (.lit (.int .i64 0))), none⟩] [4]) (.seq (.seq (.reg false [⟨some 5, .as (.c (.lit (.int .i64 0))), none⟩] []) (.block 0 (.loop (.seq (.seq (.reg false [⟨some 6, .mv (.t 5), none⟩, ⟨some 7, .mv (.t 0), none⟩, ⟨some 8, .len false (.t 7), none⟩, ⟨some 9, .bin .lss 0 (.t 6) (.t 8), none⟩] [6, 7, 8]) (.cond (.t 9) (.skip) (.exit 0))) (.seq (.block 1 (.seq (.seq (.reg true [⟨some 12, .mv (.t 0), none⟩, ⟨some 13, .mv (.t 5), none⟩, ⟨some 14, .ia 1 (.t 12) (.t 13), none⟩, ⟨some 15, .ld false 1 (.t 14), none⟩, ⟨some 16, .mv (.t 1), none⟩, ⟨some 17, .call true 28 [(.t 16)], none⟩, ⟨some 18, .bin .neq 0 (.t 15) (.t 17), none⟩] [12, 13, 14, 15, 16, 17]) (.cond (.t 18) (.seq (.reg false [⟨some 4, .as (.c (.lit (.int .i64 (-1)))), none⟩] []) (.ret)) (.skip))) (.reg false [⟨some 19, .mv (.t 1), none⟩, ⟨some 20, .bin .add 0 (.t 19) (.c (.lit (.int .i64 1))), none⟩, ⟨some 1, .as (.t 20), none⟩] [19, 20]))) (.reg false [⟨some 10, .mv (.t 5), none⟩, ⟨some 11, .bin .add 0 (.t 10) (.c (.lit (.int .i64 1))), none⟩, ⟨some 5, .as (.t 11), none⟩] [10, 11])))))) (.seq (.reg false [⟨some 21, .mv (.t 1), none⟩, ⟨some 4, .as (.t 21), none⟩] [21]) (.ret)))
theorem is40 : Is Go.Proofs.Try.prog 40 22 v40 [.t 4] := ⟨Go.Proofs.Try.f40, dl [(0, [4]), (2, [6, 7, 8]), (4, [12, 13, 14, 15, 16, 17]), (6, [19, 20]), (3, [10, 11]), (7, [21])], Go.Proofs.Try.func40, by kernel_rfl, by kernel_rfl, by kernel_rfl, by kernel_rfl⟩
theorem wrapN {i : Nat} (h : i < 9223372036854775807) : IntKind.i64.wrap ((i : Int) + 1) = ((i + 1 : Nat) : Int) := by
  rw [wrap_i64 (by omega) (by omega)]; omega
theorem wrap_u8 {x : Int} (h0 : 0 ≤ x) (h1 : x < 256) : IntKind.u8.wrap x = x := by
  simp [IntKind.wrap, IntKind.bits, IntKind.signed]; omega
/-- the digits of a number, ahead of a text -/
def digs (k : Nat) (out : ByteArray) : ByteArray := if h : k = 0 then out else digs (k / 10) (⟨#[UInt8.ofNat (48 + k % 10)]⟩ ++ out)
termination_by k
decreasing_by omega
def mkT (k : Nat) : ByteArray := by8 "m" ++ digs k (by8 "")
theorem digs_zero (out : ByteArray) : digs 0 out = out := by rw [digs]; simp
theorem digs_pos {k : Nat} (h : 0 < k) (out : ByteArray) : digs k out = digs (k / 10) (⟨#[UInt8.ofNat (48 + k % 10)]⟩ ++ out) := by rw [digs, dif_neg (by omega)]
@[simp] theorem litL_strs (l : List ByteArray) : litL (l.map fun x => AV.lit (.string x)) = true := by simp [litL, AV.cells, isLit]
@[simp] theorem argOk_hs (sz : Nat) (xs : List AV) : argOk (.hs sz xs) = true := rfl
@[simp] theorem strip_hs (sz : Nat) (xs : List AV) : strip (.hs sz xs) = .hs sz xs := rfl
@[simp] theorem ptrs_hs (sz : Nat) (xs : List AV) : ptrs (.hs sz xs) = [] := rfl
@[simp] theorem noC_hs (d sz : Nat) (xs : List AV) : noC d (.hs sz xs) = true := rfl
@[simp] theorem noB_hs (d sz : Nat) (xs : List AV) : noB d (.hs sz xs) = true := rfl
@[simp] theorem noC_hp (d : Nat) (xs : List AV) : noC d (.hp xs) = true := rfl
@[simp] theorem noB_hp (d : Nat) (xs : List AV) : noB d (.hp xs) = true := rfl
theorem Xa_b2s_go {E : EnvK} {s : AS} {d : Option Nat} {x : Od} {Q : AS → Prop} {m : Mk} {z : Nat} {xs : List AV} (l : List UInt8) (h1 : s.val x = .sl m z xs) (h2 : z = 1 ∨ xs = []) (h3 : xs = l.map (fun b : UInt8 => AV.lit (.int .u8 b.toNat))) {k : Lk Q} (hq : Q (s.putO d (.lit (.string ⟨l.toArray⟩)))) : Xa E s d (.b2s x) Q k := ⟨m, z, xs, l, h1, h2, h3, hq⟩
/-- a row of marks -/
def mkRow (k n : Nat) : List ByteArray := (List.range n).map fun i => mkT (k + i)
def rowM {α : Type} (F : Nat → α) (xs : List α) (i : Nat) : List α := (List.range i).map F ++ xs.drop i
theorem rowM_zero {α : Type} (F : Nat → α) (xs : List α) : rowM F xs 0 = xs := by simp [rowM]
theorem rowM_len {α : Type} (F : Nat → α) (xs : List α) (i : Nat) (h : i ≤ xs.length) : (rowM F xs i).length = xs.length := by simp [rowM]; omega
theorem rowM_set {α : Type} (F : Nat → α) (xs : List α) (i : Nat) (h : i < xs.length) : (rowM F xs i).set i (F i) = rowM F xs (i + 1) := by
  unfold rowM
  rw [List.drop_eq_getElem_cons h, List.set_append_right _ _ (by simp), List.range_succ]
  simp only [List.length_map, List.length_range, Nat.sub_self, List.set_cons_zero, List.map_append, List.map_cons, List.map_nil, List.append_assoc, List.cons_append, List.nil_append]
theorem rowM_get {α : Type} (F : Nat → α) (xs : List α) (i : Nat) (h : i < xs.length) : (rowM F xs i)[i]? = some xs[i] := by
  unfold rowM
  rw [List.getElem?_append_right (by simp), List.length_map, List.length_range, Nat.sub_self, List.getElem?_drop, Nat.add_zero, List.getElem?_eq_getElem h]
theorem rowM_all {α : Type} (F : Nat → α) (xs : List α) : rowM F xs xs.length = (List.range xs.length).map F := by simp [rowM]
theorem rowM_mem {α : Type} {F : Nat → α} {xs : List α} {i : Nat} {c : α} (h : c ∈ rowM F xs i) : (∃ j, c = F j) ∨ c ∈ xs := by
  unfold rowM at h
  rcases List.mem_append.1 h with h | h
  · obtain ⟨j, _, rfl⟩ := List.mem_map.1 h; exact .inl ⟨j, rfl⟩
  · exact .inr (List.mem_of_mem_drop h)
theorem Pl.res {a : AV} (h : Pl a) : resOk a = true := Pl.ind (p := fun a => resOk a = true) rfl (fun _ => rfl) (fun _ _ => rfl) (fun l ih => by
  simp only [resOk]
  induction l with
  | nil => rfl
  | cons c l il => simp only [resOk.resL, Bool.and_eq_true]; exact ⟨ih c List.mem_cons_self, il fun d hd => ih d (List.mem_cons_of_mem _ hd)⟩) a h
theorem PlL.res : ∀ {l : List AV}, PlL l → resOk.resL l = true
  | [], _ => rfl
  | c :: l, h => by
    obtain ⟨h1, h2⟩ := PlL_cons.1 h
    simp only [resOk.resL, h1.res, PlL.res h2, Bool.and_self]
theorem Pl.relab {a : AV} (h : Pl a) (t : Nat) : Vm.relab t false a = a := Pl.ind (p := fun a => Vm.relab t false a = a) rfl (fun _ => rfl) (fun _ _ => rfl) (fun l ih => by
  simp only [Vm.relab, AV.agg.injEq]
  induction l with
  | nil => rfl
  | cons c l il => simp only [relab.relabL, List.cons.injEq]; exact ⟨ih c List.mem_cons_self, il fun d hd => ih d (List.mem_cons_of_mem _ hd)⟩) a h
theorem PlL.relab {t : Nat} : ∀ {l : List AV}, PlL l → relab.relabL t false l = l
  | [], _ => rfl
  | c :: l, h => by
    obtain ⟨h1, h2⟩ := PlL_cons.1 h
    simp only [relab.relabL, h1.relab, PlL.relab h2]
theorem Pl.reC {a : AV} (h : Pl a) (ks : List Nat) : Vm.reC ks a = a := Pl.ind (p := fun a => Vm.reC ks a = a) rfl (fun _ => rfl) (fun _ _ => rfl) (fun l ih => by
  simp only [Vm.reC, AV.agg.injEq]
  induction l with
  | nil => rfl
  | cons c l il => simp only [reC.reL, List.cons.injEq]; exact ⟨ih c List.mem_cons_self, il fun d hd => ih d (List.mem_cons_of_mem _ hd)⟩) a h
theorem PlL.reC {ks : List Nat} : ∀ {l : List AV}, PlL l → reC.reL ks l = l
  | [], _ => rfl
  | c :: l, h => by
    obtain ⟨h1, h2⟩ := PlL_cons.1 h
    simp only [reC.reL, h1.reC, PlL.reC h2]
theorem PlL.noC {d : Nat} : ∀ {l : List AV}, PlL l → noC.noL d l = true
  | [], _ => rfl
  | c :: l, h => by
    obtain ⟨h1, h2⟩ := PlL_cons.1 h
    simp only [noC.noL, h1.noC, PlL.noC h2, Bool.and_self]
theorem PlL_row {F : Nat → AV} {xs : List AV} {i : Nat} (hF : ∀ j, Pl (F j)) (hx : ∀ c ∈ xs, Pl c) : PlL (rowM F xs i) := PlL_iff.2 fun c hc => by
  rcases rowM_mem hc with ⟨j, rfl⟩ | h
  · exact hF j
  · exact hx c h
theorem PlL_strs (l : List ByteArray) : PlL (l.map fun x => .lit (.string x)) := PlL_iff.2 fun c hc => by
  obtain ⟨x, _, rfl⟩ := List.mem_map.1 hc; rfl
section
variable {E : Env} (hE : E.P = Go.Proofs.Try.prog)
include hE
theorem markText_fx (k : Nat) (h0 : 0 < k) (hk : k ≤ 1152921504606846976) : Fx E 28 [] [.lit (.int .i64 k)] [] (.lit (.string (mkT k))) := by
  refine (is28.to hE).fx [] (by simp) rfl rfl ?_
  have h0' : ¬ ((k : Int) ≤ 0) := by omega
  have h0n : k ≠ 0 := by omega
  simp [v28, h0', h0n]
  refine X_loop (τ := Nat × ByteArray) (fun p => ⟨[(0, .lit (.int .i64 p.1)), (3, .lit (.string p.2))], []⟩) (fun p => digs p.1 p.2 = digs k (by8 "") ∧ p.1 + p.2.size ≤ k) (fun p => p.1) (k, by8 "") (by simp [by8]) (Wk.both (by simp [wkL, wkV.same]) trivial) ?_
  rintro ⟨j, out⟩ ⟨hd, hs⟩
  simp only at hd hs
  simp
  by_cases hj : 0 < j
  · have e0 : ((j : Int)).tmod 10 = ((j % 10 : Nat) : Int) := rfl
    have e1 : IntKind.i64.wrap (48 + ((j % 10 : Nat) : Int)) = 48 + ((j % 10 : Nat) : Int) := wrap_i64 (by omega) (by omega)
    have e2 : IntKind.u8.wrap (48 + ((j % 10 : Nat) : Int)) = 48 + ((j % 10 : Nat) : Int) := wrap_u8 (by omega) (by omega)
    have e3 : (48 + ((j % 10 : Nat) : Int)) = (((UInt8.ofNat (48 + j % 10)).toNat : Nat) : Int) := by
      have : (UInt8.ofNat (48 + j % 10)).toNat = 48 + j % 10 := by simp; omega
      rw [this]; omega
    have e5 : ((j : Int)).tdiv 10 = ((j / 10 : Nat) : Int) := rfl
    have e6 := digs_pos hj out
    generalize UInt8.ofNat (48 + j % 10) = u at e3 e6
    simp [hj]
    rw [e0, e1, e2, e3]
    refine ⟨rfl, Xa_b2s_go [u] rfl (.inl rfl) rfl ?_⟩
    have hz : (⟨#[u]⟩ : ByteArray).size = 1 := rfl
    have hz2 : ((⟨#[u]⟩ : ByteArray) ++ out).size = 1 + out.size := by rw [ByteArray.size_append, hz]
    simp
    have e7 : IntKind.i64.wrap ((j : Int) / 10) = ((j / 10 : Nat) : Int) := by rw [wrap_i64 (by omega) (by omega)]; omega
    refine ⟨by rw [hz]; omega, j / 10, _, ⟨e6.symm.trans hd, by rw [hz2]; omega⟩, by omega, Wk.both (by simp [wkL, wkV.same]; rw [e7]; exact wkV.same _) trivial⟩
  · obtain rfl : j = 0 := by omega
    simp
    rw [digs_zero] at hd
    have hm : (by8 "m").size = 1 := rfl
    refine ⟨by rw [hm]; omega, ?_⟩
    exact Fin_ret rfl (by rw [mkT, ← hd]; rfl)
/-- the texts that marks are, one behind the other -/
theorem markStr_junk (n k : Nat) (h0 : 0 < k) (hk : k + n ≤ 1152921504606846976) : Fx E 26 [] [.hs 1 (List.replicate n .un), .lit (.int .i64 k)] [] (.lit (.int .i64 ((k : Int) + n))) := by
  refine (is26.to hE).fx [] (by simp) rfl rfl ?_
  simp [v26]
  refine X_loop (τ := Nat) (fun i => ⟨[(0, .hs 1 (List.replicate n .un)), (1, .lit (.int .i64 ((k + i : Nat) : Int))), (5, .lit (.int .i64 i))], []⟩) (fun i => i ≤ n) (fun i => n - i) 0 (by simp) (Wk.both (by simp [wkL, wkV.same]) trivial) ?_
  intro i hi
  simp
  by_cases hlt : i < n
  · simp [hlt]
    refine vcall_go (markText_fx hE (k + i) (by omega) (by omega)) (by simp) (by simp) (by simp) (by simp) ?_
    simp [hlt, okC]
    have e1 : IntKind.i64.wrap ((k : Int) + i + 1) = (k : Int) + (i + 1 : Nat) := by rw [wrap_i64 (by omega) (by omega)]; omega
    rw [e1]
    exact ⟨i + 1, by omega, by omega, Wk.both (by simp [wkL, wkV.same]; rw [wrapN (by omega)]; exact wkV.same _) trivial⟩
  · obtain rfl : i = n := by omega
    simp
    exact Fin_ret rfl (by simp [reC])
theorem markStr_row (xs : List ByteArray) (k : Nat) (h0 : 0 < k) (hk : k + xs.length ≤ 1152921504606846976) : Fx E 26 [xs.map fun x => .lit (.string x)] [.bs 0 1 xs.length, .lit (.int .i64 k)] [(mkRow k xs.length).map fun x => .lit (.string x)] (.lit (.int .i64 ((k : Int) + xs.length))) := by
  refine (is26.to hE).fxb [] (by simp) rfl ⟨rfl, by simp [(PlL_strs _).res]⟩ rfl (by simp) ?_
  have hpl : ∀ i, PlL (rowM (fun i => AV.lit (.string (mkT (k + i)))) (xs.map fun x => AV.lit (.string x)) i) := fun i => PlL_row (fun _ => rfl) (PlL_iff.1 (PlL_strs xs))
  simp [v26]
  refine X_loop (τ := Nat) (fun i => ⟨[(0, .bs 0 1 xs.length), (1, .lit (.int .i64 ((k : Int) + i))), (5, .lit (.int .i64 i))], [(0, rowM (fun i => .lit (.string (mkT (k + i)))) (xs.map fun x => .lit (.string x)) i)]⟩) (fun i => i ≤ xs.length) (fun i => xs.length - i) 0 (by simp) (Wk.both (by simp [wkL, wkV.same]) (by rw [rowM_zero]; simp [wkB])) ?_
  intro i hi
  simp
  by_cases hlt : i < xs.length
  · simp [hlt]
    refine vcall_go (markText_fx hE (k + i) (by omega) (by omega)) (by simp) (by simp) (by simp) (by simp [(hpl i).noC]) ?_
    have hg := rowM_get (fun i => AV.lit (.string (mkT (k + i)))) (xs.map fun x => AV.lit (.string x)) i (by simpa using hlt)
    have hs := rowM_set (fun i => AV.lit (.string (mkT (k + i)))) (xs.map fun x => AV.lit (.string x)) i (by simpa using hlt)
    simp [hlt, okC, hg, putElem, hs]
    have e1 : IntKind.i64.wrap ((k : Int) + i + 1) = (k : Int) + (i + 1 : Nat) := by rw [wrap_i64 (by omega) (by omega)]; omega
    rw [e1]
    exact ⟨i + 1, by omega, by omega, Wk.both (by simp [wkL, wkV.same]; rw [wrapN (by omega)]; exact wkV.same _) (by simp [wkB])⟩
  · obtain rfl : i = xs.length := by omega
    simp
    have hall := rowM_all (fun i => AV.lit (.string (mkT (k + i)))) (xs.map fun x => AV.lit (.string x))
    rw [List.length_map] at hall
    rw [hall]
    have hmk : (List.range xs.length).map (fun i => AV.lit (.string (mkT (k + i)))) = (mkRow k xs.length).map fun x => AV.lit (.string x) := by simp [mkRow]
    rw [hmk]
    exact FinB_ret rfl rfl rfl (by simp [(PlL_strs _).reC])
theorem heldStr_fx (n k : Nat) (h0 : 0 < k) (hk : k + n ≤ 1152921504606846976) : Fx E 40 [] [.sl ro 1 ((mkRow k n).map fun x => .lit (.string x)), .lit (.int .i64 k)] [] (.lit (.int .i64 ((k : Int) + n))) := by
  have hl : (mkRow k n).length = n := by simp [mkRow]
  refine (is40.to hE).fx [] (by simp) rfl rfl ?_
  simp [v40]
  refine X_loop (τ := Nat) (fun i => ⟨[(0, .sl ro 1 ((mkRow k n).map fun x => .lit (.string x))), (1, .lit (.int .i64 ((k : Int) + i))), (5, .lit (.int .i64 i))], []⟩) (fun i => i ≤ n) (fun i => n - i) 0 (by simp) (Wk.both (by simp [wkL, wkV.same]) trivial) ?_
  intro i hi
  simp [hl]
  by_cases hlt : i < n
  · have hm : (mkRow k n)[i]? = some (mkT (k + i)) := by simp [mkRow, hlt]
    simp [hlt, ro, mkF, hm]
    refine vcall_go (markText_fx hE (k + i) (by omega) (by omega)) (by simp) (by simp) (by simp) (by simp) ?_
    simp
    have e1 : IntKind.i64.wrap ((k : Int) + i + 1) = (k : Int) + (i + 1 : Nat) := by rw [wrap_i64 (by omega) (by omega)]; omega
    rw [e1]
    exact ⟨i + 1, by omega, by omega, Wk.both (by simp [wkL, wkV.same, ro]; rw [wrapN (by omega)]; exact wkV.same _) trivial⟩
  · obtain rfl : i = n := by omega
    simp
    exact Fin_ret rfl (by simp [reC])
end
end Go.Proofs.Yticamghmcikfcaa.Vm
