/- The tables of a graph: the program. -/
import Derived.Test.YticamghmcikfcaaTs
import Derived.Test.YticamghmcikfcaaFe
namespace Go.Proofs.Yticamghmcikfcaa.Vm
open Go Go.RowKit
set_option linter.unusedVariables false
set_option linter.unusedSimpArgs false
def v20 : VC := .seq (.reg false [⟨some 2, .box 2 (.t 0), none⟩, ⟨some 4, .as (.c (.sl ⟨.nl, true⟩ 1 [])), none⟩] [4]) (.seq (.reg false [⟨some 8, .bsl 1 [], none⟩, ⟨some 5, .as (.t 8), none⟩] [8]) (.seq (.seq (.reg false [⟨some 9, .mv (.t 1), none⟩, ⟨some 10, .len false (.t 9), none⟩, ⟨some 11, .mv (.c (.lit (.int .i64 0))), none⟩] []) (.block 0 (.loop (.seq (.reg false [⟨some 12, .bin .lss 0 (.t 11) (.t 10), none⟩] []) (.seq (.cond (.t 12) (.skip) (.exit 0)) (.seq (.block 1 (.seq (.reg false [⟨some 13, .ia 1 (.t 9) (.t 11), none⟩, ⟨some 14, .ld false 1 (.t 13), none⟩, ⟨some 7, .as (.t 14), none⟩] [13, 14]) (.reg false [⟨some 15, .mv (.t 5), none⟩, ⟨some 16, .ld true 2 (.t 2), none⟩, ⟨some 17, .mv (.t 7), none⟩, ⟨some 18, .call false 36 [(.t 16), (.t 17)], none⟩, ⟨some 19, .bsl 1 [(.t 18)], none⟩, ⟨some 20, .app 1 16 (.t 15) (.t 19), none⟩, ⟨some 5, .as (.t 20), none⟩] [15, 16, 17, 18, 19, 20]))) (.reg false [⟨some 21, .bin .add 0 (.t 11) (.c (.lit (.int .i64 1))), none⟩, ⟨some 11, .mv (.t 21), none⟩] [21]))))))) (.seq (.reg false [⟨some 22, .mv (.t 5), none⟩, ⟨some 4, .as (.t 22), none⟩] [22]) (.ret))))
theorem is20 : Is Go.Proofs.Try.prog 20 23 v20 [.t 4] := ⟨Go.Proofs.Try.f20, dl [(0, [4]), (1, [8]), (4, [13, 14]), (5, [15, 16, 17, 18, 19, 20]), (6, [21]), (7, [22])], Go.Proofs.Try.func20, by kernel_rfl, by kernel_rfl, by kernel_rfl, by kernel_rfl⟩
def v18 : VC := .seq (.reg false [⟨some 4, .alloc (.agg [(.lit (.string (by8 ""))), (.sl ⟨.nl, true⟩ 1 [])]), none⟩] []) (.seq (.reg false [⟨some 5, .mv (.t 0), none⟩, ⟨some 6, .bld [(.lit (.string (by8 ""))), (.lit (.string (by8 ""))), (.sl ⟨.nl, true⟩ 1 []), (.lit (.bool false))] [(0, 1, (.c (.lit (.string (by8 "name"))))), (1, 1, (.t 5))], none⟩, ⟨some 7, .mv (.t 1), none⟩, ⟨some 8, .bld [(.lit (.string (by8 ""))), (.lit (.string (by8 ""))), (.sl ⟨.nl, true⟩ 1 []), (.lit (.bool false))] [(0, 1, (.c (.lit (.string (by8 "version"))))), (1, 1, (.t 7))], none⟩, ⟨some 9, .bsl 4 [(.t 6), (.t 8)], none⟩, ⟨some 10, .bld [(.lit (.string (by8 ""))), (.sl ⟨.nl, true⟩ 1 [])] [(0, 1, (.c (.lit (.string (by8 "package"))))), (1, 1, (.t 9))], none⟩, ⟨none, .st 2 (.t 4) (.t 10), none⟩] [5, 6, 7, 8, 9, 10]) (.ret))
theorem is18 : Is Go.Proofs.Try.prog 18 11 v18 [.b 4 true 2] := ⟨Go.Proofs.Try.f18, dl [(1, [5, 6, 7, 8, 9, 10])], Go.Proofs.Try.func18, by kernel_rfl, by kernel_rfl, by kernel_rfl, by kernel_rfl⟩
def v19 : VC := .seq (.reg false [⟨some 5, .mv (.t 1), none⟩, ⟨some 6, .len false (.t 5), none⟩, ⟨some 7, .bin .gtr 0 (.t 6) (.c (.lit (.int .i64 0))), none⟩] [5, 6]) (.cond (.t 7) (.reg true [⟨some 8, .mv (.t 0), none⟩, ⟨some 9, .mv (.t 0), none⟩, ⟨some 10, .fa 0 (.t 9), none⟩, ⟨some 11, .fa 1 (.t 10), none⟩, ⟨some 12, .ld false 1 (.t 11), none⟩, ⟨some 13, .ld true 2 (.t 2), none⟩, ⟨some 14, .mv (.t 1), none⟩, ⟨some 15, .call true 20 [(.t 13), (.t 14)], none⟩, ⟨some 16, .bld [(.lit (.string (by8 ""))), (.lit (.string (by8 ""))), (.sl ⟨.nl, true⟩ 1 []), (.lit (.bool false))] [(0, 1, (.c (.lit (.string (by8 "dependencies"))))), (2, 1, (.t 15)), (3, 1, (.c (.lit (.bool true))))], none⟩, ⟨some 17, .bsl 4 [(.t 16)], none⟩, ⟨some 18, .app 4 64 (.t 12) (.t 17), none⟩, ⟨some 19, .fa 0 (.t 8), none⟩, ⟨some 20, .fa 1 (.t 19), none⟩, ⟨none, .st 1 (.t 20) (.t 18), none⟩] [8, 9, 10, 11, 12, 13, 14, 15, 16, 17, 18, 19, 20]) (.skip))
theorem is19 : Is Go.Proofs.Try.prog 19 21 v19 [] := ⟨Go.Proofs.Try.f19, dl [(0, [5, 6]), (1, [8, 9, 10, 11, 12, 13, 14, 15, 16, 17, 18, 19, 20])], Go.Proofs.Try.func19, by kernel_rfl, by kernel_rfl, by kernel_rfl, by kernel_rfl⟩
def v7_b5 : VC := .reg false [⟨some 63, .mv (.t 6), none⟩, ⟨some 64, .ld true 2 (.t 9), none⟩, ⟨some 65, .bsl 2 [(.t 64)], none⟩, ⟨some 66, .app 2 40 (.t 63) (.t 65), none⟩, ⟨some 6, .as (.t 66), none⟩] [63, 64, 65, 66]
def v7_b4 : VC := .seq (.reg false [⟨some 59, .mv (.t 4), none⟩, ⟨some 60, .fa 5 (.t 8), none⟩, ⟨some 61, .ld false 1 (.t 60), none⟩, ⟨some 62, .callv false (.t 59) [(.t 9), (.t 61)], none⟩] [59, 60, 61, 62]) v7_b5
def v7_b3 : VC := .seq (.seq (.reg false [⟨some 47, .ld true 6 (.t 8), none⟩, ⟨some 48, .call false 21 [(.t 47), (.c (.lit (.string (by8 "sha256"))))], none⟩, ⟨some 10, .as (.t 48), none⟩] [47, 48]) (.seq (.reg false [⟨some 49, .mv (.t 10), none⟩, ⟨some 50, .bin .neq 0 (.t 49) (.c (.lit (.string (by8 "")))), none⟩] [49]) (.cond (.t 50) (.reg true [⟨some 51, .fa 1 (.t 9), none⟩, ⟨some 52, .ld false 1 (.t 51), none⟩, ⟨some 53, .mv (.t 10), none⟩, ⟨some 54, .call true 22 [(.t 53)], none⟩, ⟨some 55, .bld [(.lit (.string (by8 ""))), (.lit (.string (by8 ""))), (.sl ⟨.nl, true⟩ 1 []), (.lit (.bool false))] [(0, 1, (.c (.lit (.string (by8 "checksum"))))), (1, 1, (.t 54))], none⟩, ⟨some 56, .bsl 4 [(.t 55)], none⟩, ⟨some 57, .app 4 64 (.t 52) (.t 56), none⟩, ⟨some 58, .fa 1 (.t 9), none⟩, ⟨none, .st 1 (.t 58) (.t 57), none⟩] [51, 52, 53, 54, 55, 56, 57, 58]) (.skip)))) v7_b4
def v7_b2 : VC := .seq (.seq (.reg false [⟨some 36, .fa 2 (.t 8), none⟩, ⟨some 37, .ld false 1 (.t 36), none⟩, ⟨some 38, .bin .neq 0 (.t 37) (.c (.lit (.string (by8 "")))), none⟩] [36, 37]) (.cond (.t 38) (.reg false [⟨some 39, .fa 1 (.t 9), none⟩, ⟨some 40, .ld false 1 (.t 39), none⟩, ⟨some 41, .fa 2 (.t 8), none⟩, ⟨some 42, .ld false 1 (.t 41), none⟩, ⟨some 43, .bld [(.lit (.string (by8 ""))), (.lit (.string (by8 ""))), (.sl ⟨.nl, true⟩ 1 []), (.lit (.bool false))] [(0, 1, (.c (.lit (.string (by8 "source"))))), (1, 1, (.t 42))], none⟩, ⟨some 44, .bsl 4 [(.t 43)], none⟩, ⟨some 45, .app 4 64 (.t 40) (.t 44), none⟩, ⟨some 46, .fa 1 (.t 9), none⟩, ⟨none, .st 1 (.t 46) (.t 45), none⟩] [39, 40, 41, 42, 43, 44, 45, 46]) (.skip))) v7_b3
def v7_b1 : VC := .seq (.reg false [⟨some 30, .mv (.t 3), none⟩, ⟨some 31, .fa 0 (.t 8), none⟩, ⟨some 32, .ld false 1 (.t 31), none⟩, ⟨some 33, .fa 1 (.t 8), none⟩, ⟨some 34, .ld false 1 (.t 33), none⟩, ⟨some 35, .callv false (.t 30) [(.t 32), (.t 34)], none⟩, ⟨some 9, .alloc (.agg [(.lit (.string (by8 ""))), (.sl ⟨.nl, true⟩ 1 [])]), none⟩, ⟨none, .st 2 (.t 9) (.t 35), none⟩] [30, 31, 32, 33, 34, 35]) v7_b2
def v7_b : VC := .seq (.reg false [⟨some 28, .ia 6 (.t 24) (.t 26), none⟩, ⟨some 29, .ld true 6 (.t 28), none⟩, ⟨some 8, .alloc (.agg [(.lit (.string (by8 ""))), (.lit (.string (by8 ""))), (.lit (.string (by8 ""))), (.sl ⟨.nl, true⟩ 1 []), (.lit (.bool false)), (.sl ⟨.nl, true⟩ 1 [])]), none⟩, ⟨none, .st 6 (.t 8) (.t 29), none⟩] [28, 29]) v7_b1
def v7_8 : VC := .ret
def v7_7 : VC := .seq (.reg false [⟨some 68, .mv (.t 6), none⟩, ⟨some 2, .as (.t 68), none⟩] [68]) v7_8
def v7_6 : VC := .seq (.seq (.reg false [⟨some 23, .fa 1 (.t 1), none⟩, ⟨some 24, .ld false 1 (.t 23), none⟩, ⟨some 25, .len false (.t 24), none⟩, ⟨some 26, .mv (.c (.lit (.int .i64 0))), none⟩] [23]) (.block 0 (.loop (.seq (.reg false [⟨some 27, .bin .lss 0 (.t 26) (.t 25), none⟩] []) (.seq (.cond (.t 27) (.skip) (.exit 0)) (.seq (.block 1 v7_b) (.reg false [⟨some 67, .bin .add 0 (.t 26) (.c (.lit (.int .i64 1))), none⟩, ⟨some 26, .mv (.t 67), none⟩] [67]))))))) v7_7
def v7_5 : VC := .seq (.regw [⟨some 18, .bld [(.lit (.string (by8 ""))), (.lit (.string (by8 ""))), (.sl ⟨.nl, true⟩ 1 []), (.lit (.bool false))] [(0, 1, (.c (.lit (.string (by8 "version"))))), (1, 1, (.c (.lit (.string (by8 "4")))))], none⟩, ⟨some 19, .bsl 4 [(.t 18)], none⟩] [⟨some 20, .bld [(.lit (.string (by8 ""))), (.sl ⟨.nl, true⟩ 1 [])] [(1, 1, (.t 19))], none⟩, ⟨some 21, .ld true 2 (.t 5), none⟩, ⟨some 22, .bsl 2 [(.t 20), (.t 21)], none⟩, ⟨some 6, .as (.t 22), none⟩] [18, 19, 20, 21, 22, 1000002]) v7_6
def v7_4 : VC := .seq (.reg false [⟨some 14, .mv (.t 4), none⟩, ⟨some 15, .fa 0 (.t 1), none⟩, ⟨some 16, .ld false 1 (.t 15), none⟩, ⟨some 17, .callv false (.t 14) [(.t 5), (.t 16)], none⟩] [14, 15, 16, 17]) v7_5
def v7_3 : VC := .seq (.reg false [⟨some 12, .mv (.t 3), none⟩, ⟨some 13, .callv false (.t 12) [(.c (.lit (.string (by8 "root")))), (.c (.lit (.string (by8 "0.0.0"))))], none⟩, ⟨some 5, .alloc (.agg [(.lit (.string (by8 ""))), (.sl ⟨.nl, true⟩ 1 [])]), none⟩, ⟨none, .st 2 (.t 5) (.t 13), none⟩] [12, 13]) v7_4
def v7_2 : VC := .seq (.reg false [⟨some 11, .mkf 19 [(.t 1)], none⟩, ⟨some 4, .as (.t 11), none⟩] [11]) v7_3
def v7_1 : VC := .seq (.reg false [⟨some 3, .as (.c (.fn 18 [])), none⟩] []) v7_2
def v7 : VC := .seq (.reg false [⟨some 1, .box 2 (.t 0), none⟩, ⟨some 2, .as (.c (.sl ⟨.nl, true⟩ 1 [])), none⟩] [2]) v7_1
theorem is7 : Is Go.Proofs.Try.prog 7 69 v7 [.t 2] := ⟨Go.Proofs.Try.f7, dl [(0, [2]), (2, [11]), (3, [12, 13]), (4, [14, 15, 16, 17]), (5, [18, 19, 20, 21, 22, 1000002]), (6, [23]), (8, [28, 29]), (9, [30, 31, 32, 33, 34, 35]), (10, [36, 37]), (11, [39, 40, 41, 42, 43, 44, 45, 46]), (12, [47, 48]), (13, [49]), (14, [51, 52, 53, 54, 55, 56, 57, 58]), (15, [59, 60, 61, 62]), (16, [63, 64, 65, 66]), (17, [67]), (18, [68])], Go.Proofs.Try.func7, by kernel_rfl, by kernel_rfl, by kernel_rfl, by kernel_rfl⟩
theorem noIL_pks (p : Nat → Prop) (l : List Pk) : noI.noIL p (l.map fun x => AV.agg x.av) := noIL_iff.2 fun a ha => by
  obtain ⟨x, _, rfl⟩ := List.mem_map.1 ha
  refine ⟨trivial, trivial, trivial, noI_ro _ _ _ (noIL_iff.2 fun a ha => ?_), trivial, noI_ro _ _ _ (noIL_strs _ _), trivial⟩
  obtain ⟨y, _, rfl⟩ := List.mem_map.1 ha
  exact ⟨trivial, trivial, trivial⟩
theorem nil_nB {l : List Fld} (h : ∀ f ∈ l, f.list = []) : nB.nBL (flds l) = 0 := by
  induction l with
  | nil => rfl
  | cons f l ih =>
    have h1 := ih fun x hx => h x (List.mem_cons_of_mem _ hx)
    have h2 := nB_fld f
    rw [h f List.mem_cons_self] at h2
    show nB (.agg f.av) + nB.nBL (flds l) = 0
    rw [h1, h2]; rfl
theorem fldsI_nil {l : List Fld} (h : ∀ f ∈ l, f.list = []) : ∀ n, fldsI n l = flds l := by
  induction l with
  | nil => intro n; rfl
  | cons f l ih =>
    intro n
    have h1 := ih (fun x hx => h x (List.mem_cons_of_mem _ hx)) (n + nB (.agg f.av))
    unfold fldsI flds at h1 ⊢
    simp only [List.map_cons, idS.idL, idS_fld, h1]
    have h2 := h f List.mem_cons_self
    rw [show f.av = [.lit (.string f.key), .lit (.string f.text), .sl ro 1 (f.list.map fun x => .lit (.string x)), .lit (.bool f.isL)] from rfl, h2]
    rfl
/-- the field of needs, its row named -/
def depI (g : Gr) (n : Nat) (keys : List ByteArray) : AV := .agg [.lit (.string (by8 "dependencies")), .lit (.string (by8 "")), .sl ⟨.id n, false⟩ 1 ((keys.map (shortN g)).map fun x => .lit (.string x)), .lit (.bool true)]
theorem fldsI_dep {l : List Fld} (h : ∀ f ∈ l, f.list = []) (g : Gr) {keys : List ByteArray} (hne : keys ≠ []) (n : Nat) : fldsI n (l ++ [depF g keys]) = flds l ++ [depI g n keys] := by
  rw [fldsI_snoc, fldsI_nil h, nil_nB h]
  have : lsI (n + 0) (depF g keys).list = .sl ⟨.id n, false⟩ 1 ((keys.map (shortN g)).map fun x => .lit (.string x)) := by
    unfold lsI
    rw [if_neg (by simpa [depF] using hne)]
    rfl
  rw [this]
  rfl
theorem idc_one (N : Nat) (b : Bool) (vs : List AV) (l : List ByteArray) : idc (fun j => j = N) vs (.sl ⟨.id N, b⟩ 1 (l.map fun x => .lit (.string x))) :=
  ⟨fun p _ hk => ⟨fun k e => by cases e; exact hk N rfl, noIL_strs _ _⟩, fun p hp k hk => by subst hk; exact hp.1 k rfl⟩
section
variable {E : Env} (hE : E.P = Go.Proofs.Try.prog)
include hE
theorem shorts_nm (g : Gr) (keys : List ByteArray) (hg : g.packs.length ≤ 1048576) (hk : keys.length ≤ 1048576) (hs : ∀ k ∈ keys, k.size ≤ 1099511627776) (N : Nat) : FxK E (fun j => j = N) 20 [] [.agg g.av, .sl ro 1 (keys.map fun x => .lit (.string x))] [] (.sl ⟨.id N, true⟩ 1 ((keys.map (shortN g)).map fun x => .lit (.string x))) := by
  have hga : g.av = [.sl ro 1 (g.top.map fun x => .lit (.string x)), .sl ro 6 (g.packs.map fun x => .agg x.av)] := rfl
  have hro : ro.ap = .no := rfl
  obtain ⟨L, hL⟩ : ∃ L, ((keys.map (shortN g)).map fun x => AV.lit (.string x)) = L := ⟨_, rfl⟩
  have hLl : L.length = keys.length := by rw [← hL]; simp
  have hLn : noI.noIL (fun j => j = N) L := by rw [← hL]; exact noIL_strs _ _
  have hLx : ∀ i (h : i < keys.length), L.take (i + 1) = L.take i ++ [.lit (.string (shortN g keys[i]))] := by
    intro i h
    rw [List.take_add_one, List.getElem?_eq_getElem (by omega)]
    simp [← hL]
  rw [hL]
  refine (is20.to hE).fxk (fun j => j = N) [] (by simp) rfl rfl ?_
  simp [v20, hga, okC, frA.frL]
  refine X_loop (τ := Nat) (fun i => ⟨[(2, .ptr 1000000000002 0 0), (5, .sl ⟨.cl 512, true⟩ 1 (L.take i)), (9, .sl ro 1 (keys.map fun x => .lit (.string x))), (10, .lit (.int .i64 keys.length)), (11, .lit (.int .i64 i))], [(1000000000002, [.agg [.sl ro 1 (g.top.map fun x => .lit (.string x)), .sl ro 6 (g.packs.map fun x => .agg x.av)]])]⟩) (fun i => i ≤ keys.length) (fun i => keys.length - i) 0 (by simp) (Wk.both (by simp [wkL, wkV.same]) (by simp [wkB])) ?_
  rintro i hi
  simp
  by_cases hlt : i < keys.length
  · have hnx := hLx i hlt
    simp [hlt, mkF]
    refine vcall_go (implShort_fx hE g keys[i] hg (hs _ (List.getElem_mem hlt))) (by simp [hga]) (by simp) (by simp) (by simp) ?_
    simp [okC, frA, frA.frL, AS.dem, mapV, dem, dem.demL, hro]
    exact ⟨by omega, i + 1, by omega, by omega, Wk.both (by rw [hnx]; simp [wkL, wkV.same]; rw [wrapN (by omega)]; exact .inl (by simp)) (by simp [wkB])⟩
  · obtain rfl : i = keys.length := by omega
    have ht : L.take keys.length = L := List.take_of_length_le (by omega)
    simp [ht]
    exact Fin_nam 512 N rfl (by simp [AS.noI, allP, noI, noI.noIL, hLn, noIL_strs, noIL_pks, ro]) rfl rfl
theorem table_fx (name version : ByteArray) : Fx E 18 [] [.lit (.string name), .lit (.string version)] [] (.agg [.lit (.string (by8 "package")), .sl ⟨.cl 0, true⟩ 4 (flds (fld0 name version))]) := by
  refine (is18.to hE).fx [576] (by simp) rfl rfl ?_
  simp [v18, okC, putElem, upd, fill, pvals, frA, frA.frL]
  exact Fin_ret rfl rfl
omit hE in
theorem FinI_nam {E : EnvK} {s : AS} {t : Nat} {rs : List VR} {Q : AS → Prop} {s' : AS} {l : List AV} (c k : Nat) (hk : E.nk k) (hs : s'.noI fun j => j = k) (h : resVs (s'.nam c k) rs = some l) (hq : Q (AS.put ⟨backE s.env (s'.nam c k).env, backB s.bxs (s'.nam c k).bxs⟩ t (oneOr l))) : FinI E s t rs Q .normal s' := ⟨.inl rfl, _, .nam s' c k hk hs, l, h, hq⟩
omit hE in
theorem idc_lit (vs : List AV) (v : Value) : idc (fun _ => False) vs (.lit v) := ⟨fun _ _ _ => trivial, fun _ _ k hk => hk.elim⟩
omit hE in
theorem idS_tbl (n : Nat) (t : Tb) (h : t.fields ≠ []) : idS n (.agg t.av) = .agg [.lit (.string t.name), .sl ⟨.id n, false⟩ 4 (fldsI (n + 1) t.fields)] := by
  have he : (flds t.fields).isEmpty = false := by
    cases hf : t.fields with
    | nil => exact absurd hf h
    | cons a l => rfl
  have h1 : idS n (.sl ro 4 (flds t.fields)) = .sl ⟨.id n, false⟩ 4 (fldsI (n + 1) t.fields) := by simp only [idS, he]; rfl
  rw [← h1]; rfl
omit hE in
theorem nB_tbl (t : Tb) (h : t.fields ≠ []) : nB (.agg t.av) = 1 + nB.nBL (flds t.fields) := by
  have he : (flds t.fields).isEmpty = false := by
    cases hf : t.fields with
    | nil => exact absurd hf h
    | cons a l => rfl
  show 0 + ((if (flds t.fields).isEmpty = true then 0 else 1 + nB.nBL (flds t.fields)) + 0) = _
  rw [he]; simp
omit hE in
theorem hexS_nil {s : ByteArray} (h : hexS s = by8 "") : s = by8 "" := by
  have h1 := hexLs_len s.data.toList
  have h2 : s.data.toList.length = s.size := by simp
  have h3 : (hexS s).size = (hexLs s.data.toList).length := List.size_toArray
  have h4 : (by8 "").size = 0 := by decide +kernel
  rw [h, h4] at h3
  have h5 : s.size = 0 := by omega
  have h6 : by8 "" = (ByteArray.empty) := by decide +kernel
  rw [h6]
  apply ByteArray.ext
  apply Array.eq_empty_of_size_eq_zero
  exact h5
omit hE in
theorem noIL_nils (q : Nat → Prop) (l : List Fld) : noI.noIL q (flds l) := noIL_flds q l
omit hE in
theorem wfL_tbs0 (l : List Tb) : wfT.wfL (tbs l) = true := wfL_iff.2 fun a ha => by
  obtain ⟨x, _, rfl⟩ := List.mem_map.1 ha
  have h := wf_flds ro x.fields
  show ([AV.lit (.string x.name), .sl ro 4 (flds x.fields)].all okC && (wfT (.lit (.string x.name)) && (wfT (.sl ro 4 (flds x.fields)) && true))) = true
  rw [h]; rfl
set_option maxHeartbeats 8000000 in
theorem impl_b4 (g : Gr) (h3 : g.packs.length ≤ 1048576) (p : Pk) (src : ByteArray) (hk : p.needs.length ≤ 1048576) (hs : ∀ k ∈ p.needs, k.size ≤ 1099511627776) (h1 : p.sums.length ≤ 1048576) (h2 : ∀ s ∈ p.sums, s.bytes.size ≤ 1099511627) (O : List AV) (n : Nat) (hO : O.length ≤ 2097152) (hO1 : noI.noIL (fun j => j = n) O) (hO2 : noI.noIL (fun j => j = n + 1) O) (l : List Fld) (hl : l.length ≤ 100) (hll : ∀ f ∈ l, f.list = []) (a25 a26 : Int) (Q : Ex → AS → Prop) (cs : ByteArray) (b38 b50 : Bool) (hQ : Q .normal ⟨[(1, .ptr 1000000000001 0 0), (3, .fn 18 []), (4, .fn 19 [.ptr 1000000000001 0 0]), (6, .sl ⟨.cl 1408, true⟩ 2 (O ++ [.agg [.lit (.string (by8 "package")), .sl ⟨.id n, false⟩ 4 (fldsI (n + 1) (l ++ fldD g p))]])), (8, .ptr 1000000000008 0 0), (9, .ptr 1000000000009 0 0), (10, .lit (.string cs)), (24, .sl ro 6 (g.packs.map fun x => .agg x.av)), (25, .lit (.int .i64 a25)), (26, .lit (.int .i64 a26)), (27, .lit (.bool true)), (38, .lit (.bool b38)), (50, .lit (.bool b50))], [(1000000000001, [.agg [.sl ro 1 (g.top.map fun x => .lit (.string x)), .sl ro 6 (g.packs.map fun x => .agg x.av)]]), (1000000000008, [.agg [.lit (.string p.name), .lit (.string p.version), .lit (.string src), .sl ro 2 (p.sums.map fun x => .agg x.av), .lit (.bool p.dev), .sl ro 1 (p.needs.map fun x => .lit (.string x))]]), (1000000000009, [.agg [.lit (.string (by8 "package")), .sl ⟨.id n, true⟩ 4 ((fldsI (n + 1) (l ++ fldD g p)))]])]⟩) :
    Xe ⟨E, fun _ => True⟩ v7_b4 ⟨[(1, .ptr 1000000000001 0 0), (3, .fn 18 []), (4, .fn 19 [.ptr 1000000000001 0 0]), (6, .sl ⟨.cl 1408, true⟩ 2 (O)), (8, .ptr 1000000000008 0 0), (9, .ptr 1000000000009 0 0), (10, .lit (.string cs)), (24, .sl ro 6 (g.packs.map fun x => .agg x.av)), (25, .lit (.int .i64 a25)), (26, .lit (.int .i64 a26)), (27, .lit (.bool true)), (38, .lit (.bool b38)), (50, .lit (.bool b50))], [(1000000000001, [.agg [.sl ro 1 (g.top.map fun x => .lit (.string x)), .sl ro 6 (g.packs.map fun x => .agg x.av)]]), (1000000000008, [.agg [.lit (.string p.name), .lit (.string p.version), .lit (.string src), .sl ro 2 (p.sums.map fun x => .agg x.av), .lit (.bool p.dev), .sl ro 1 (p.needs.map fun x => .lit (.string x))]]), (1000000000009, [.agg [.lit (.string (by8 "package")), .sl ⟨.cl 2240, true⟩ 4 (flds l)]])]⟩ Q .mk := by
  have hro : ro.ap = .no := rfl
  have hf2 : fnOk E.P 19 = true := hE ▸ (by kernel_rfl : fnOk Go.Proofs.Try.prog 19 = true)
  have hga : g.av = [.sl ro 1 (g.top.map fun x => .lit (.string x)), .sl ro 6 (g.packs.map fun x => .agg x.av)] := rfl
  have hsm : ∀ q : Nat → Prop, noI.noIL q (p.sums.map fun x => AV.agg x.av) := fun q => noIL_iff.2 fun a ha => by
    obtain ⟨y, _, rfl⟩ := List.mem_map.1 ha
    exact ⟨trivial, trivial, trivial⟩
  simp [v7_b4, hf2]
  refine vcall_inl (is19.to hE) (by simp) ?_
  simp [v19, hidE]
  by_cases c1 : p.needs = []
  · have hp : ¬ 0 < p.needs.length := by rw [c1]; simp
    have e3 : fldD g p = [] := if_pos c1
    rw [e3, List.append_nil, fldsI_nil hll] at hQ
    simp [hp]
    refine FinI_nam 2240 n trivial (by simp [AS.noI, allP, noI, noI.noIL, noIL_strs, noIL_pks, noIL_flds, ro, hO1, hsm]) rfl ?_
    simp [AS.nam, mapV, nam, nam.namL, backE, backB, hro, oneOr, v7_b5, okC, frA, frA.frL, AS.dem, dem, dem.demL]
    refine ⟨by omega, ?_⟩
    exact hQ
  · have hp := List.length_pos_iff.2 c1
    have e3 : fldD g p = [depF g p.needs] := if_neg c1
    rw [e3, fldsI_dep hll g c1, depI, List.map_map] at hQ
    simp [hp]
    have hst : ∀ q : Nat → Prop, noI.noIL q (List.map ((fun x => AV.lit (Value.string x)) ∘ shortN g) p.needs) := fun q => by rw [← List.map_map]; exact noIL_strs _ _
    refine vcall_gn (shorts_nm hE g p.needs h3 hk hs (n + 1)) (by simp [hga]) (by simp) (by simp) (by simp) (fun _ _ => trivial) (by simp [AS.noI, allP, noI, noI.noIL, noIL_strs, noIL_pks, noIL_flds, ro, hO2, hsm]) (by simp [noI, noI.noIL, noIL_strs, noIL_pks, ro]) (idc_one _ _ _ _) ?_
    have hfl : (flds l).length = l.length := by simp [flds]
    simp [fill, upd, okC, frA, frA.frL, AS.dem, mapV, dem, dem.demL, hro, putElem]
    refine ⟨by omega, ?_⟩
    refine FinI_nam 2240 n trivial (by simp [AS.noI, allP, noI, noI.noIL, noIL_strs, noIL_pks, noIL_flds, noIL_app, ro, hst, hO1, hsm]) rfl ?_
    simp [AS.nam, mapV, nam, nam.namL, backE, backB, hro, oneOr, v7_b5, okC, frA, frA.frL, AS.dem, dem, dem.demL]
    refine ⟨by omega, ?_⟩
    exact hQ
set_option maxHeartbeats 8000000 in
theorem impl_b3 (g : Gr) (h3 : g.packs.length ≤ 1048576) (p : Pk) (src : ByteArray) (hk : p.needs.length ≤ 1048576) (hs : ∀ k ∈ p.needs, k.size ≤ 1099511627776) (h1 : p.sums.length ≤ 1048576) (h2 : ∀ s ∈ p.sums, s.bytes.size ≤ 1099511627) (O : List AV) (n : Nat) (hO : O.length ≤ 2097152) (hO1 : noI.noIL (fun j => j = n) O) (hO2 : noI.noIL (fun j => j = n + 1) O) (l : List Fld) (hl : l.length ≤ 50) (hll : ∀ f ∈ l, f.list = []) (a25 a26 : Int) (Q : Ex → AS → Prop) (b38 : Bool) (hQ : ∀ (cs : ByteArray) (b50 : Bool), Q .normal ⟨[(1, .ptr 1000000000001 0 0), (3, .fn 18 []), (4, .fn 19 [.ptr 1000000000001 0 0]), (6, .sl ⟨.cl 1408, true⟩ 2 (O ++ [.agg [.lit (.string (by8 "package")), .sl ⟨.id n, false⟩ 4 (fldsI (n + 1) (l ++ (fldC p ++ fldD g p)))]])), (8, .ptr 1000000000008 0 0), (9, .ptr 1000000000009 0 0), (10, .lit (.string cs)), (24, .sl ro 6 (g.packs.map fun x => .agg x.av)), (25, .lit (.int .i64 a25)), (26, .lit (.int .i64 a26)), (27, .lit (.bool true)), (38, .lit (.bool b38)), (50, .lit (.bool b50))], [(1000000000001, [.agg [.sl ro 1 (g.top.map fun x => .lit (.string x)), .sl ro 6 (g.packs.map fun x => .agg x.av)]]), (1000000000008, [.agg [.lit (.string p.name), .lit (.string p.version), .lit (.string src), .sl ro 2 (p.sums.map fun x => .agg x.av), .lit (.bool p.dev), .sl ro 1 (p.needs.map fun x => .lit (.string x))]]), (1000000000009, [.agg [.lit (.string (by8 "package")), .sl ⟨.id n, true⟩ 4 ((fldsI (n + 1) (l ++ (fldC p ++ fldD g p))))]])]⟩) :
    Xe ⟨E, fun _ => True⟩ v7_b3 ⟨[(1, .ptr 1000000000001 0 0), (3, .fn 18 []), (4, .fn 19 [.ptr 1000000000001 0 0]), (6, .sl ⟨.cl 1408, true⟩ 2 (O)), (8, .ptr 1000000000008 0 0), (9, .ptr 1000000000009 0 0), (24, .sl ro 6 (g.packs.map fun x => .agg x.av)), (25, .lit (.int .i64 a25)), (26, .lit (.int .i64 a26)), (27, .lit (.bool true)), (38, .lit (.bool b38))], [(1000000000001, [.agg [.sl ro 1 (g.top.map fun x => .lit (.string x)), .sl ro 6 (g.packs.map fun x => .agg x.av)]]), (1000000000008, [.agg [.lit (.string p.name), .lit (.string p.version), .lit (.string src), .sl ro 2 (p.sums.map fun x => .agg x.av), .lit (.bool p.dev), .sl ro 1 (p.needs.map fun x => .lit (.string x))]]), (1000000000009, [.agg [.lit (.string (by8 "package")), .sl ⟨.cl 2240, true⟩ 4 (flds l)]])]⟩ Q .mk := by
  have hro : ro.ap = .no := rfl
  have hga : g.av = [.sl ro 1 (g.top.map fun x => .lit (.string x)), .sl ro 6 (g.packs.map fun x => .agg x.av)] := rfl
  have hz := sumB_size h2
  have hfl : (flds l).length = l.length := by simp [flds]
  simp [v7_b3]
  refine vcall_go (implSum_fx hE ⟨p.name, p.version, src, p.sums, p.dev, p.needs⟩ h1) (by simp [Pk.av]) (by simp) (by simp) (by simp) ?_
  simp
  by_cases c2 : sumB p.sums = by8 ""
  · have e : fldC p = [] := by unfold fldC; rw [c2]; exact if_pos (by decide +kernel)
    rw [e, List.nil_append] at hQ
    simp [c2]
    exact impl_b4 hE g h3 p src hk hs h1 h2 O n hO hO1 hO2 l (by omega) hll a25 a26 Q _ b38 _ (hQ _ _)
  · have e : fldC p = [txtF (by8 "checksum") (hexS (sumB p.sums))] := by
      unfold fldC
      rw [if_neg (fun h => c2 (hexS_nil h))]
    rw [e] at hQ
    simp [c2]
    refine vcall_gn (E := ⟨E, fun _ => True⟩) (K := fun _ => False) (implHex_fx hE (sumB p.sums) hz) (by simp) (by simp) (by simp) (by simp) (fun _ h => h.elim) (noIS_not (fun _ h => h) _) (noIL_not (fun _ h => h) _) (idc_lit _ _) ?_
    simp [fill, upd, okC, frA, frA.frL, AS.dem, mapV, dem, dem.demL, hro, putElem]
    refine ⟨by omega, ?_⟩
    rw [← List.append_assoc] at hQ
    have := impl_b4 hE g h3 p src hk hs h1 h2 O n hO hO1 hO2 (l ++ [txtF (by8 "checksum") (hexS (sumB p.sums))]) (by simp; omega) (fun f hf => by rcases List.mem_append.1 hf with h | h; exact hll f h; rw [List.mem_singleton.1 h]; rfl) a25 a26 Q (sumB p.sums) b38 true (hQ _ _)
    rw [show flds (l ++ [txtF (by8 "checksum") (hexS (sumB p.sums))]) = flds l ++ [.agg [.lit (.string (by8 "checksum")), .lit (.string (hexS (sumB p.sums))), .sl ro 1 [], .lit (.bool false)]] by simp [flds, Fld.av, txtF]] at this
    exact this
set_option maxHeartbeats 8000000 in
theorem impl_b2 (g : Gr) (h3 : g.packs.length ≤ 1048576) (p : Pk) (hk : p.needs.length ≤ 1048576) (hs : ∀ k ∈ p.needs, k.size ≤ 1099511627776) (h1 : p.sums.length ≤ 1048576) (h2 : ∀ s ∈ p.sums, s.bytes.size ≤ 1099511627) (O : List AV) (n : Nat) (hO : O.length ≤ 2097152) (hO1 : noI.noIL (fun j => j = n) O) (hO2 : noI.noIL (fun j => j = n + 1) O) (l : List Fld) (hl : l.length ≤ 20) (hll : ∀ f ∈ l, f.list = []) (a25 a26 : Int) (Q : Ex → AS → Prop) (hQ : ∀ (cs : ByteArray) (b38 b50 : Bool), Q .normal ⟨[(1, .ptr 1000000000001 0 0), (3, .fn 18 []), (4, .fn 19 [.ptr 1000000000001 0 0]), (6, .sl ⟨.cl 1408, true⟩ 2 (O ++ [.agg [.lit (.string (by8 "package")), .sl ⟨.id n, false⟩ 4 (fldsI (n + 1) (l ++ (fldS p ++ (fldC p ++ fldD g p))))]])), (8, .ptr 1000000000008 0 0), (9, .ptr 1000000000009 0 0), (10, .lit (.string cs)), (24, .sl ro 6 (g.packs.map fun x => .agg x.av)), (25, .lit (.int .i64 a25)), (26, .lit (.int .i64 a26)), (27, .lit (.bool true)), (38, .lit (.bool b38)), (50, .lit (.bool b50))], [(1000000000001, [.agg [.sl ro 1 (g.top.map fun x => .lit (.string x)), .sl ro 6 (g.packs.map fun x => .agg x.av)]]), (1000000000008, [.agg [.lit (.string p.name), .lit (.string p.version), .lit (.string p.source), .sl ro 2 (p.sums.map fun x => .agg x.av), .lit (.bool p.dev), .sl ro 1 (p.needs.map fun x => .lit (.string x))]]), (1000000000009, [.agg [.lit (.string (by8 "package")), .sl ⟨.id n, true⟩ 4 ((fldsI (n + 1) (l ++ (fldS p ++ (fldC p ++ fldD g p)))))]])]⟩) :
    Xe ⟨E, fun _ => True⟩ v7_b2 ⟨[(1, .ptr 1000000000001 0 0), (3, .fn 18 []), (4, .fn 19 [.ptr 1000000000001 0 0]), (6, .sl ⟨.cl 1408, true⟩ 2 (O)), (8, .ptr 1000000000008 0 0), (9, .ptr 1000000000009 0 0), (24, .sl ro 6 (g.packs.map fun x => .agg x.av)), (25, .lit (.int .i64 a25)), (26, .lit (.int .i64 a26)), (27, .lit (.bool true))], [(1000000000001, [.agg [.sl ro 1 (g.top.map fun x => .lit (.string x)), .sl ro 6 (g.packs.map fun x => .agg x.av)]]), (1000000000008, [.agg [.lit (.string p.name), .lit (.string p.version), .lit (.string p.source), .sl ro 2 (p.sums.map fun x => .agg x.av), .lit (.bool p.dev), .sl ro 1 (p.needs.map fun x => .lit (.string x))]]), (1000000000009, [.agg [.lit (.string (by8 "package")), .sl ⟨.cl 2240, true⟩ 4 (flds l)]])]⟩ Q .mk := by
  have hro : ro.ap = .no := rfl
  have hfl : (flds l).length = l.length := by simp [flds]
  simp [v7_b2]
  by_cases c2 : p.source = by8 ""
  · have e : fldS p = [] := if_pos c2
    rw [e, List.nil_append] at hQ
    simp [c2]
    have := impl_b3 hE g h3 p p.source hk hs h1 h2 O n hO hO1 hO2 l (by omega) hll a25 a26 Q false (fun cs b => hQ cs _ b)
    rw [c2] at this
    exact this
  · have e : fldS p = [txtF (by8 "source") p.source] := if_neg c2
    rw [e] at hQ
    simp [c2, fill, upd, okC, frA, frA.frL, AS.dem, mapV, dem, dem.demL, hro, putElem]
    refine ⟨by omega, ?_⟩
    rw [← List.append_assoc] at hQ
    have := impl_b3 hE g h3 p p.source hk hs h1 h2 O n hO hO1 hO2 (l ++ [txtF (by8 "source") p.source]) (by simp; omega) (fun f hf => by rcases List.mem_append.1 hf with h | h; exact hll f h; rw [List.mem_singleton.1 h]; rfl) a25 a26 Q true (fun cs b => hQ cs _ b)
    rw [show flds (l ++ [txtF (by8 "source") p.source]) = flds l ++ [.agg [.lit (.string (by8 "source")), .lit (.string p.source), .sl ro 1 [], .lit (.bool false)]] by simp [flds, Fld.av, txtF]] at this
    exact this
set_option maxHeartbeats 8000000 in
theorem implTables_fx (g : Gr) (h : g.small) : FxK E (fun _ => True) 7 [] [.agg g.av] [] (.sl ⟨.id 0, true⟩ 2 (idS.idL 1 (tbs (tbsG g g.packs.length)))) := by
  obtain ⟨⟨s1, s2⟩, s3, s4⟩ := h
  have hga : g.av = [.sl ro 1 (g.top.map fun x => .lit (.string x)), .sl ro 6 (g.packs.map fun x => .agg x.av)] := rfl
  have hro : ro.ap = .no := rfl
  have hf1 : fnOk E.P 18 = true := hE ▸ (by kernel_rfl : fnOk Go.Proofs.Try.prog 18 = true)
  have hf2 : fnOk E.P 19 = true := hE ▸ (by kernel_rfl : fnOk Go.Proofs.Try.prog 19 = true)
  refine (is7.to hE).fxk (fun _ => True) [] (by simp) rfl rfl ?_
  -- behind the second table
  have tail : ∀ A0 : AV, A0 = .agg [.sl ro 1 (g.top.map fun x => .lit (.string x)), .sl ro 6 (g.packs.map fun x => .agg x.av)] → Xe ⟨E, fun _ => True⟩ v7_5 ⟨[(0, A0), (1, .ptr 1000000000001 0 0), (3, .fn 18 []), (4, .fn 19 [.ptr 1000000000001 0 0]), (5, .ptr 1000000000005 0 0)], [(1000000000001, [.agg [.sl ro 1 (g.top.map fun x => .lit (.string x)), .sl ro 6 (g.packs.map fun x => .agg x.av)]]), (1000000000005, [.agg [.lit (.string (by8 "package")), .sl ⟨.id 2, true⟩ 4 (fldsI 3 (fldsP g (by8 "root") (by8 "0.0.0") (rootP g)))]])]⟩ (FinK (fun x => True) [VR.t 2] (.sl ⟨.id 0, true⟩ 2 (idS.idL 1 (tbs (tbsG g g.packs.length)))) []) .mk := by
    rintro A0 rfl
    simp [v7_5, fill, upd, okC, frA, frA.frL]
    refine Xw_of (.nam _ 1216 1 trivial (by simp [AS.noI, allP, noI, noI.noIL, noIL_strs, noIL_pks, ro]; exact noIL_idL (wfL_flds _) 3 fun k h1 h2 e => by omega)) ?_
    simp [AS.nam, mapV, nam, nam.namL, hro, fill, upd, okC, frA, frA.frL, v7_6]
    have hO0 : idS.idL 1 (tbs (tbsG g 0)) = [.agg [.lit (.string (by8 "")), .sl ⟨.id 1, false⟩ 4 [.agg [.lit (.string (by8 "version")), .lit (.string (by8 "4")), .sl ro 1 [], .lit (.bool false)]]], .agg [.lit (.string (by8 "package")), .sl ⟨.id 2, false⟩ 4 (fldsI 3 (fldsP g (by8 "root") (by8 "0.0.0") (rootP g)))]] := by
      have h1 : tb0.fields ≠ [] := by simp [tb0]
      have h2 : (tbP g (by8 "root") (by8 "0.0.0") (rootP g)).fields ≠ [] := by simp [tbP, fldsP, fld0]
      show idS.idL 1 [.agg tb0.av, .agg (tbP g (by8 "root") (by8 "0.0.0") (rootP g)).av] = _
      simp only [idS.idL]
      rw [idS_tbl _ _ h1, idS_tbl _ _ h2, nB_tbl _ h1, nil_nB (l := tb0.fields) (by simp [tb0, txtF]), fldsI_nil (l := tb0.fields) (by simp [tb0, txtF])]
      rfl
    refine X_loop (τ := Nat) (fun i => ⟨[(1, .ptr 1000000000001 0 0), (3, .fn 18 []), (4, .fn 19 [.ptr 1000000000001 0 0]), (6, .sl ⟨.cl 1408, true⟩ 2 (idS.idL 1 (tbs (tbsG g i)))), (24, .sl ro 6 (g.packs.map fun x => .agg x.av)), (25, .lit (.int .i64 g.packs.length)), (26, .lit (.int .i64 i))], [(1000000000001, [.agg [.sl ro 1 (g.top.map fun x => .lit (.string x)), .sl ro 6 (g.packs.map fun x => .agg x.av)]])]⟩) (fun i => i ≤ g.packs.length) (fun i => g.packs.length - i) 0 (by simp) (Wk.both (by rw [hO0]; simp [wkL, wkV.same]) (by simp [wkB])) ?_
    rintro i hi
    have hOl : (idS.idL 1 (tbs (tbsG g i))).length = i + 2 := by rw [idL_len]; exact tbs_len g hi
    simp
    by_cases hlt : i < g.packs.length
    · have hav : g.packs[i].av = [.lit (.string g.packs[i].name), .lit (.string g.packs[i].version), .lit (.string g.packs[i].source), .sl ro 2 (g.packs[i].sums.map fun x => .agg x.av), .lit (.bool g.packs[i].dev), .sl ro 1 (g.packs[i].needs.map fun x => .lit (.string x))] := rfl
      obtain ⟨q1, q2, q3, ⟨q4, q5⟩, _, q6, q7⟩ := s4 _ (List.getElem_mem hlt)
      simp [hlt, v7_b, v7_b1, hav, mkF, mkF.mkL, okC, putElem, upd, hf1]
      refine vcall_go (table_fx hE g.packs[i].name g.packs[i].version) (by simp) (by simp) (by simp) (by simp) ?_
      simp [okC, putElem, upd]
      have hO1 : ∀ q, 1 + nB.nBL (tbs (tbsG g i)) ≤ q → noI.noIL (fun j => j = q) (idS.idL 1 (tbs (tbsG g i))) := fun q hq => noIL_idL (wfL_tbs0 _) 1 fun k h1 h2 e => by omega
      refine impl_b2 hE g s3 g.packs[i] q6 (fun k hk => by have := q7 k hk; omega) q4 (fun s hs => by have := (q5 s hs).2; omega) (idS.idL 1 (tbs (tbsG g i))) (1 + nB.nBL (tbs (tbsG g i))) (by omega) (hO1 _ (by omega)) (hO1 _ (by omega)) (fld0 g.packs[i].name g.packs[i].version) (by show 2 ≤ 20; omega) (fun x hx => by
        simp only [fld0, List.mem_cons, List.not_mem_nil, or_false] at hx
        rcases hx with rfl | rfl <;> rfl) _ _ _ ?_
      intro cs b38 b50
      have hnx : idS.idL 1 (tbs (tbsG g (i + 1))) = idS.idL 1 (tbs (tbsG g i)) ++ [.agg [.lit (.string (by8 "package")), .sl ⟨.id (1 + nB.nBL (tbs (tbsG g i))), false⟩ 4 (fldsI (1 + nB.nBL (tbs (tbsG g i)) + 1) (fld0 g.packs[i].name g.packs[i].version ++ (fldS g.packs[i] ++ (fldC g.packs[i] ++ fldD g g.packs[i]))))]] := by
        rw [tbsG_next hlt, tbs_app, idL_app]
        have h2 : (tbP g g.packs[i].name g.packs[i].version g.packs[i]).fields ≠ [] := by simp [tbP, fldsP, fld0]
        have h3 := idS_tbl (1 + nB.nBL (tbs (tbsG g i))) _ h2
        show _ ++ [idS (1 + nB.nBL (tbs (tbsG g i))) (.agg (tbP g g.packs[i].name g.packs[i].version g.packs[i]).av)] = _
        rw [h3]
        simp only [tbP, fldsP, List.append_assoc]
      rw [← hnx]
      simp
      refine ⟨i + 1, by omega, by omega, Wk.both (by simp [wkL, wkV.same]; rw [wrapN (by omega)]; exact wkV.same _) (by simp [wkB])⟩
    · obtain rfl : i = g.packs.length := by omega
      simp [v7_7, v7_8]
      exact Fin_nam 1408 0 trivial (by simp [AS.noI, allP, noI, noI.noIL, noIL_strs, noIL_pks, ro]; exact noIL_idL (wfL_tbs0 _) 1 fun k h1 h2 e => by omega) rfl rfl
  simp [v7, v7_1, v7_2, v7_3, hga, okC, hf1]
  refine vcall_go (table_fx hE (by8 "root") (by8 "0.0.0")) (by simp) (by simp) (by simp) (by simp) ?_
  simp [okC, putElem, upd, v7_4, hf2]
  have n0 : ∀ f ∈ fld0 (by8 "root") (by8 "0.0.0"), f.list = [] := by
    intro x hx
    simp only [fld0, List.mem_cons, List.not_mem_nil, or_false] at hx
    rcases hx with rfl | rfl <;> rfl
  have e1 : fldS (rootP g) = [] := if_pos rfl
  have e2 : fldC (rootP g) = [] := if_pos (by show hexS (by8 "") = by8 ""; decide +kernel)
  refine vcall_inl (is19.to hE) (by simp) ?_
  simp [v19, hidE]
  by_cases c1 : g.top = []
  · have hp : ¬ 0 < g.top.length := by rw [c1]; simp
    have e3 : fldD g (rootP g) = [] := if_pos c1
    simp [hp]
    refine FinI_nam 832 2 trivial (by simp [AS.noI, allP, noI, noI.noIL, noIL_strs, noIL_pks, noIL_flds, ro]) rfl ?_
    simp [AS.nam, mapV, nam, nam.namL, backE, backB, hro, oneOr]
    rw [← fldsI_nil n0 3]
    have := tail _ rfl
    rw [fldsP, e1, e2, e3, List.append_nil, List.append_nil, List.append_nil] at this
    exact this
  · have hp := List.length_pos_iff.2 c1
    have e3 : fldD g (rootP g) = [depF g g.top] := if_neg c1
    simp [hp]
    refine vcall_gn (shorts_nm hE g g.top s3 s1 (fun k hk => by have := s2 k hk; omega) 3) (by simp [hga]) (by simp) (by simp) (by simp) (fun _ _ => trivial) (by simp [AS.noI, allP, noI, noI.noIL, noIL_strs, noIL_pks, noIL_flds, ro]) (by simp [noI, noI.noIL, noIL_strs, noIL_pks, ro]) (idc_one _ _ _ _) ?_
    simp [fill, upd, okC, frA, frA.frL, AS.dem, mapV, dem, dem.demL, hro, putElem]
    refine ⟨by show (2 + 1) * 64 ≤ 70368744177664; omega, ?_⟩
    have hst : ∀ p : Nat → Prop, noI.noIL p (List.map ((fun x => AV.lit (Value.string x)) ∘ shortN g) g.top) := fun p => by rw [← List.map_map]; exact noIL_strs _ _
    refine FinI_nam 832 2 trivial (by simp [AS.noI, allP, noI, noI.noIL, noIL_strs, noIL_pks, noIL_flds, noIL_app, ro, hst]) rfl ?_
    simp [AS.nam, mapV, nam, nam.namL, backE, backB, hro, oneOr]
    have := tail _ rfl
    rw [fldsP, e1, e2, e3, List.append_nil, List.append_nil, fldsI_dep n0 g c1, depI, List.map_map] at this
    exact this
end
end Go.Proofs.Yticamghmcikfcaa.Vm
