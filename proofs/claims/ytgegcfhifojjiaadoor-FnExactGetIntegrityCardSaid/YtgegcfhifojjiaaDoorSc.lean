/- Texts cut at a byte: spec's side; the library's. -/
import Derived.Test.YtgegcfhifojjiaaDoorSq
namespace Go.Proofs.YtgegcfhifojjiaaDoor.Vm
open Go Go.RowKit
set_option linter.unusedVariables false
set_option linter.unusedSimpArgs false
def v39 : VC := .seq (.reg false [⟨some 4, .as (.c (.sl ⟨.nl, true⟩ 1 [])), none⟩] [4]) (.seq (.reg false [⟨some 8, .bsl 1 [], none⟩, ⟨some 5, .as (.t 8), none⟩] [8]) (.seq (.reg false [⟨some 6, .as (.c (.lit (.int .i64 0))), none⟩] []) (.seq (.seq (.reg false [⟨some 7, .as (.c (.lit (.int .i64 0))), none⟩] []) (.block 0 (.loop (.seq (.seq (.reg false [⟨some 9, .mv (.t 7), none⟩, ⟨some 10, .mv (.t 0), none⟩, ⟨some 11, .len true (.t 10), none⟩, ⟨some 12, .bin .lss 0 (.t 9) (.t 11), none⟩] [9, 10, 11]) (.cond (.t 12) (.skip) (.exit 0))) (.seq (.block 1 (.seq (.reg false [⟨some 15, .mv (.t 0), none⟩, ⟨some 16, .mv (.t 7), none⟩, ⟨some 17, .idx (.t 15) (.t 16), none⟩, ⟨some 18, .mv (.t 1), none⟩, ⟨some 19, .bin .eql 0 (.t 17) (.t 18), none⟩] [15, 16, 17, 18]) (.cond (.t 19) (.seq (.reg false [⟨some 20, .mv (.t 5), none⟩, ⟨some 21, .mv (.t 0), none⟩, ⟨some 22, .mv (.t 6), none⟩, ⟨some 23, .mv (.t 7), none⟩, ⟨some 24, .slS (.t 21) (some (.t 22)) (some (.t 23)), none⟩, ⟨some 25, .bsl 1 [(.t 24)], none⟩, ⟨some 26, .app 1 16 (.t 20) (.t 25), none⟩, ⟨some 5, .as (.t 26), none⟩] [20, 21, 22, 23, 24, 25, 26]) (.reg false [⟨some 27, .mv (.t 7), none⟩, ⟨some 28, .bin .add 0 (.t 27) (.c (.lit (.int .i64 1))), none⟩, ⟨some 6, .as (.t 28), none⟩] [27, 28])) (.skip)))) (.reg false [⟨some 13, .mv (.t 7), none⟩, ⟨some 14, .bin .add 0 (.t 13) (.c (.lit (.int .i64 1))), none⟩, ⟨some 7, .as (.t 14), none⟩] [13, 14])))))) (.seq (.reg false [⟨some 29, .mv (.t 5), none⟩, ⟨some 30, .mv (.t 0), none⟩, ⟨some 31, .mv (.t 6), none⟩, ⟨some 32, .slS (.t 30) (some (.t 31)) none, none⟩, ⟨some 33, .bsl 1 [(.t 32)], none⟩, ⟨some 34, .app 1 16 (.t 29) (.t 33), none⟩, ⟨some 4, .as (.t 34), none⟩] [29, 30, 31, 32, 33, 34]) (.ret)))))
theorem is39 : Is Go.Proofs.Tryd.prog 39 35 v39 [.t 4] := ⟨Go.Proofs.Tryd.f39, dl [(0, [4]), (1, [8]), (4, [9, 10, 11]), (6, [15, 16, 17, 18]), (7, [20, 21, 22, 23, 24, 25, 26]), (8, [27, 28]), (5, [13, 14]), (9, [29, 30, 31, 32, 33, 34])], Go.Proofs.Tryd.func39, by kernel_rfl, by kernel_rfl, by kernel_rfl, by kernel_rfl⟩
def v16 : VC := .seq (.reg false [⟨some 4, .as (.c (.lit (.int .i64 0))), none⟩] [4]) (.seq (.seq (.reg false [⟨some 5, .as (.c (.lit (.int .i64 0))), none⟩] []) (.block 0 (.loop (.seq (.seq (.reg false [⟨some 6, .mv (.t 5), none⟩, ⟨some 7, .mv (.t 0), none⟩, ⟨some 8, .len true (.t 7), none⟩, ⟨some 9, .bin .lss 0 (.t 6) (.t 8), none⟩] [6, 7, 8]) (.cond (.t 9) (.skip) (.exit 0))) (.seq (.block 1 (.seq (.reg false [⟨some 12, .mv (.t 0), none⟩, ⟨some 13, .mv (.t 5), none⟩, ⟨some 14, .idx (.t 12) (.t 13), none⟩, ⟨some 15, .mv (.t 1), none⟩, ⟨some 16, .bin .eql 0 (.t 14) (.t 15), none⟩] [12, 13, 14, 15]) (.cond (.t 16) (.seq (.reg false [⟨some 17, .mv (.t 5), none⟩, ⟨some 4, .as (.t 17), none⟩] [17]) (.ret)) (.skip)))) (.reg false [⟨some 10, .mv (.t 5), none⟩, ⟨some 11, .bin .add 0 (.t 10) (.c (.lit (.int .i64 1))), none⟩, ⟨some 5, .as (.t 11), none⟩] [10, 11])))))) (.seq (.reg false [⟨some 4, .as (.c (.lit (.int .i64 (-1)))), none⟩] []) (.ret)))
theorem is16 : Is Go.Proofs.Tryd.prog 16 18 v16 [.t 4] := ⟨Go.Proofs.Tryd.f16, dl [(0, [4]), (2, [6, 7, 8]), (4, [12, 13, 14, 15]), (5, [17]), (3, [10, 11])], Go.Proofs.Tryd.func16, by kernel_rfl, by kernel_rfl, by kernel_rfl, by kernel_rfl⟩
theorem u8_eq {a b : UInt8} : ((a.toNat : Int) = b.toNat) ↔ a = b := by
  constructor
  · intro h; exact UInt8.toNat_inj.1 (by omega)
  · rintro rfl; rfl
section
variable {E : Env} (hE : E.P = Go.Proofs.Tryd.prog)
include hE
theorem l01At_fx (s : ByteArray) (c : UInt8) (hs : s.size ≤ 9223372036854775806) : Fx E 16 [] [.lit (.string s), .lit (.int .u8 c.toNat)] [] (.lit (.int .i64 (Lib.indexB s (one c)))) := by
  refine (is16.to hE).fx [] (by simp) rfl rfl ?_
  simp [v16]
  refine X_loop (τ := Nat) (fun i => ⟨[(0, .lit (.string s)), (1, .lit (.int .u8 c.toNat)), (5, .lit (.int .i64 i))], []⟩) (fun i => i ≤ s.size ∧ ∀ j, j < i → bt s j ≠ c) (fun i => s.size - i) 0 (by simp) (Wk.both (by simp [wkL, wkV.same]) trivial) ?_
  rintro i ⟨hi, hall⟩
  simp
  by_cases hlt : i < s.size
  · simp [hlt]
    by_cases c1 : bt s i = c
    · simp [c1]
      exact Fin_ret rfl (by rw [idx_hit hlt c1 hall]; rfl)
    · have c1' : ¬ ((bt s i).toNat : Int) = c.toNat := fun e => c1 (u8_eq.1 e)
      simp [c1']
      refine ⟨i + 1, ⟨by omega, fun k hk => ?_⟩, by omega, Wk.both (by simp [wkL, wkV.same]; rw [wrapN (by omega)]; exact wkV.same _) trivial⟩
      rcases Nat.lt_succ_iff_lt_or_eq.1 hk with h | rfl
      · exact hall k h
      · exact c1
  · simp [hlt]
    exact Fin_ret rfl (by rw [idx_miss fun j hj => hall j (by omega)]; rfl)
set_option maxHeartbeats 1000000 in
theorem l01Cut_fx (s : ByteArray) (c : UInt8) (hs : s.size ≤ 4294967280) : Fx E 39 [] [.lit (.string s), .lit (.int .u8 c.toNat)] [] (.sl ⟨.no, true⟩ 1 ((spl c s).map fun x => .lit (.string x))) := by
  refine (is39.to hE).fx [] (by simp) rfl rfl ?_
  simp [v39]
  refine X_loop (τ := Nat × List ByteArray × Nat) (fun p => ⟨[(0, .lit (.string s)), (1, .lit (.int .u8 c.toNat)), (5, .sl ⟨.cl 512, true⟩ 1 (p.2.1.map fun x => .lit (.string x))), (6, .lit (.int .i64 p.2.2)), (7, .lit (.int .i64 p.1))], []⟩) (fun p => p.1 ≤ s.size ∧ p.2.2 ≤ p.1 ∧ p.2.1.length ≤ p.1 ∧ spl c s = p.2.1 ++ spl c (s.extract p.2.2 s.size) ∧ ∀ j, p.2.2 ≤ j → j < p.1 → bt s j ≠ c) (fun p => s.size - p.1) (0, [], 0) (by simp [ext_all]) (Wk.both (by simp [wkL, wkV.same, frA.frL]) trivial) ?_
  rintro ⟨i, out, a⟩ ⟨hi, ha, hlen, hsp, hall⟩
  simp only at hi ha hlen hsp hall
  simp
  by_cases hlt : i < s.size
  · simp [hlt]
    by_cases c1 : bt s i = c
    · simp [c1]
      refine wh_ll (l := a) (h := i) rfl rfl (by omega) (by omega) (by omega) ?_
      simp [okC, frA, frA.frL, AS.dem, mapV, dem, dem.demL]
      have hx := spl_hit (s := s.extract a s.size) (c := c) (i := i - a) (by rw [ext_size]; omega) (by rw [bt_ext (by omega), show a + (i - a) = i by omega]; exact c1) (fun j hj => by rw [bt_ext (by omega)]; exact hall _ (by omega) (by omega))
      rw [ext_ext, ext_ext, ext_size, show a + 0 = a by omega, show min (a + (i - a)) s.size = i by omega, show a + (i - a + 1) = i + 1 by omega, show min (a + (min s.size s.size - a)) s.size = s.size by omega] at hx
      refine ⟨by omega, i + 1, out ++ [s.extract a i], i + 1, ⟨by omega, by omega, by simp; omega, by rw [hsp, hx]; simp, fun j h1 h2 => by omega⟩, by omega, Wk.both (by simp [wkL, wkV.same]; rw [wrapN (by omega)]; exact wkV.same _) trivial⟩
    · have c1' : ¬ ((bt s i).toNat : Int) = c.toNat := fun e => c1 (u8_eq.1 e)
      simp [c1']
      refine ⟨i + 1, out, a, ⟨by omega, by omega, by omega, hsp, fun j h1 h2 => ?_⟩, by omega, Wk.both (by simp [wkL, wkV.same]; rw [wrapN (by omega)]; exact wkV.same _) trivial⟩
      rcases Nat.lt_succ_iff_lt_or_eq.1 h2 with h | rfl
      · exact hall j h1 h
      · exact c1
  · simp [hlt]
    refine wh_l (l := a) rfl (by omega) (by omega) ?_
    simp [okC, frA, frA.frL, AS.dem, mapV, dem, dem.demL]
    have hx := spl_none (s := s.extract a s.size) (c := c) (fun j hj => by rw [ext_size] at hj; rw [bt_ext (by omega)]; exact hall _ (by omega) (by omega))
    refine ⟨by omega, Fin_ret rfl ?_⟩
    rw [hsp, hx]
    simp [reC]
end
/-- A contract that makes a row of texts, told as a list. -/
theorem Fx_strs {E : Env} {f : Nat} {args : List Value} {xs : List ByteArray} {ty : Nat} (h : ∀ w, E.K w → Calls E.P f args.toArray w fun e w' => e = .returned (.slice (some ⟨w.heap.size, 0, none⟩) xs.length xs.length) ∧ w' = w.alloc (.cells (xs.map Value.string).toArray ty)) : Fx E f [] (args.map .lit) [] (.sl ⟨.no, true⟩ 1 (xs.map fun x => .lit (.string x))) := by
  refine ⟨rfl, rfl, fun x w vs hK htl hng hj hvs hargs hag hbx hinj => ?_⟩
  obtain rfl := args_lit (by simpa using hvs) hargs
  refine (h w hK).mono ?_
  rintro e w' ⟨rfl, rfl⟩
  have hnew : (w.alloc (.cells (xs.map Value.string).toArray ty)).heap[w.heap.size]? = some (.cells (xs.map Value.string).toArray ty (0, 0)) := alloc_new
  have hold : ∀ b, b < w.heap.size → (w.alloc (.cells (xs.map Value.string).toArray ty)).heap[b]? = w.heap[b]? := fun b hb => alloc_old hb
  let G' : Gh := fun b o => if b = w.heap.size then (xs.map Value.string)[o]? else x.G b o
  have hG : ∀ b o v, G' b o = some v → (b = w.heap.size ∧ (xs.map Value.string)[o]? = some v) ∨ (b ≠ w.heap.size ∧ x.G b o = some v) := by
    intro b o v hv
    by_cases hb : b = w.heap.size
    · exact .inl ⟨hb, by simpa [G', hb] using hv⟩
    · exact .inr ⟨hb, by simpa [G', hb] using hv⟩
  have hrep : ∀ base, base ≤ w.heap.size → RepD (G'.from base) (.slice (some ⟨w.heap.size, 0, none⟩) xs.length xs.length) (.sl ⟨.no, true⟩ 1 (xs.map fun x => .lit (.string x))) := by
    intro base hb
    refine .sl _ _ _ _ _ _ w.heap.size 0 (fun i _ => ((xs.map Value.string)[i]?).getD undef) (by simp) (Nat.le_refl _) (fun _ => rfl) (fun i y hy => ?_) (fun i y j c hy hc => ?_) (fun i y j c hy hc => ?_)
    · rw [List.getElem?_map] at hy
      obtain ⟨z, _, rfl⟩ := Option.map_eq_some_iff.1 hy
      rfl
    · rw [List.getElem?_map] at hy
      obtain ⟨z, hz, rfl⟩ := Option.map_eq_some_iff.1 hy
      cases j with
      | succ j => simp [AV.cells] at hc
      | zero =>
        refine ⟨?_, by simp [hz]; rfl⟩
        unfold Gh.from
        rw [if_pos hb]
        simp [G', hz]
    · rw [List.getElem?_map] at hy
      obtain ⟨z, hz, rfl⟩ := Option.map_eq_some_iff.1 hy
      cases j with
      | succ j => simp [AV.cells] at hc
      | zero =>
        obtain rfl : AV.lit (.string z) = c := Option.some.inj hc
        rw [show ((xs.map Value.string)[i]?).getD undef = .string z by simp [hz]]
        exact .lit _ rfl
  have hle : x.G.le G' := by
    intro b o v hv
    have := agree_lt hag hv
    simp only [G', if_neg (show b ≠ w.heap.size by omega)]
    exact hv
  refine ⟨_, { x with G := G' }, rfl, .sl _ _ _ _ ((hrep 0 (Nat.zero_le _)).mono fun b o v hv => (by unfold Gh.from at hv; rw [if_pos (Nat.zero_le _)] at hv; exact hv)) (fun _ => hrep _ (Nat.le_refl _)) trivial, hle, fun b o v hv hb => ?_, fun b o v hv => ?_, ⟨rfl, rfl, rfl, by simp, fun k hk _ => hold k hk⟩, fun n hn => ⟨rfl, rfl⟩, fun n l hl => (by simp at hl), ⟨fun c b e t ht => (by change x.tl c = _ at ht; rw [htl] at ht; cases ht), fun c c' b e t e' t' ht => (by change x.tl c = _ at ht; rw [htl] at ht; cases ht)⟩, fun b o ho => ?_, fun b o v c ty' fz hb hv hh => ?_⟩
  · rcases hG b o v hv with ⟨h1, _⟩ | ⟨_, h2⟩
    · omega
    · exact h2
  · rcases hG b o v hv with ⟨rfl, h1⟩ | ⟨_, h2⟩
    · exact ⟨_, _, _, hnew, by simpa using h1⟩
    · obtain ⟨c, ty', fz, e1, e2⟩ := hag b o v h2
      exact ⟨c, ty', fz, (hold b (agree_lt hag h2)).trans e1, e2⟩
  · obtain ⟨vs', ty', q1, q2⟩ := hj.1 b o ho
    exact ⟨vs', ty', (hold b (Array.getElem?_eq_some_iff.1 q1).1).trans q1, q2⟩
  · rcases hG b o v hv with ⟨rfl, h1⟩ | ⟨_, h2⟩
    · rw [hnew] at hh
      injection hh with hh; injection hh with _ _ e3; exact e3.symm
    · have := agree_lt hag h2; omega
section
variable {E : Env} (hE : E.P = Go.Proofs.Tryd.prog) (hZ : ∀ w, E.K w → KZ w)
include hE hZ
omit hZ in
theorem splitM_calls (hM : ∀ w, E.K w → KM w) (s sep : ByteArray) (hs : s.size < 4294967281) (h1 : 1 ≤ sep.size) : ∀ w, E.K w → Calls E.P 44 [Value.string s, .string sep].toArray w fun e w' => e = .returned (.slice (some ⟨w.heap.size, 0, none⟩) (spB sep s).length (spB sep s).length) ∧ w' = w.alloc (.cells ((spB sep s).map Value.string).toArray 9) := by
  intro w hw
  rw [hE]
  obtain ⟨m, hm⟩ := hM w hw
  refine (Go.Proofs.Tryd.strings_Split s sep m w hs hm h1).mono ?_
  rintro e w' ⟨rfl, rfl⟩
  rw [spB_len h1]
  exact ⟨rfl, rfl⟩
omit hZ in
theorem splitM_fx (hM : ∀ w, E.K w → KM w) (s sep : ByteArray) (hs : s.size < 4294967281) (h1 : 1 ≤ sep.size) : Fx E 44 [] [.lit (.string s), .lit (.string sep)] [] (.sl ⟨.no, true⟩ 1 ((spB sep s).map fun x => .lit (.string x))) :=
  Fx_strs (args := [.string s, .string sep]) (splitM_calls hE hM s sep hs h1)
theorem split_calls (s sep : ByteArray) (hs : s.size < 4294967281) (h1 : 1 ≤ sep.size) : ∀ w, E.K w → Calls E.P 44 [Value.string s, .string sep].toArray w fun e w' => e = .returned (.slice (some ⟨w.heap.size, 0, none⟩) (spB sep s).length (spB sep s).length) ∧ w' = w.alloc (.cells ((spB sep s).map Value.string).toArray 9) := splitM_calls hE (fun w h => (hZ w h).km) s sep hs h1
theorem split_fx (s sep : ByteArray) (hs : s.size < 4294967281) (h1 : 1 ≤ sep.size) : Fx E 44 [] [.lit (.string s), .lit (.string sep)] [] (.sl ⟨.no, true⟩ 1 ((spB sep s).map fun x => .lit (.string x))) := splitM_fx hE (fun w h => (hZ w h).km) s sep hs h1
/-- the texts put together -/
def joinB (xs : List ByteArray) (sep : ByteArray) : ByteArray := ⟨(Lib.join (xs.map (·.data.toList)) sep.data.toList).toArray⟩
omit hZ in
theorem join_fx (xs : List ByteArray) (sep : ByteArray) (hn : xs.length ≤ 140737488355328) (hl : (joinB xs sep).size ≤ 140737488355328) : Fx E 50 [] [.sl ro 1 (xs.map fun x => .lit (.string x)), .lit (.string sep)] [] (.lit (.string (joinB xs sep))) := by
  refine Fx_row (args := [.string sep]) rfl (fun A cap w hw hx => ?_) (fun b o cap w hw hb hc hcell => ?_)
  · subst hx
    rw [hE]
    refine (Go.Proofs.Tryd.strings_Join_none A cap sep w).mono ?_
    rintro e w' ⟨rfl, rfl⟩
    exact ⟨rfl, Below.refl _ _⟩
  · rw [hE]
    refine (Go.Proofs.Tryd.strings_Join b o cap xs sep w hcell hb hn hc (by rw [show (Lib.join (xs.map (·.data.toList)) sep.data.toList).length = (joinB xs sep).size from List.size_toArray.symm]; exact hl)).mono ?_
    rintro e w' ⟨rfl, hb⟩
    exact ⟨rfl, hb⟩
omit hZ in
theorem join_bx (xs : List ByteArray) (sep : ByteArray) (hn : xs.length ≤ 140737488355328) (hl : (joinB xs sep).size ≤ 140737488355328) : Fx E 50 [xs.map fun x => .lit (.string x)] [.bs 0 1 xs.length, .lit (.string sep)] [xs.map fun x => .lit (.string x)] (.lit (.string (joinB xs sep))) := by
  refine Fx_rowb (args := [.string sep]) rfl (fun A cap w hw hx => ?_) (fun b o cap w hw hb hc hcell => ?_)
  · subst hx
    rw [hE]
    refine (Go.Proofs.Tryd.strings_Join_none A cap sep w).mono ?_
    rintro e w' ⟨rfl, rfl⟩
    exact ⟨rfl, Below.refl _ _⟩
  · rw [hE]
    refine (Go.Proofs.Tryd.strings_Join b o cap xs sep w hcell hb hn hc (by rw [show (Lib.join (xs.map (·.data.toList)) sep.data.toList).length = (joinB xs sep).size from List.size_toArray.symm]; exact hl)).mono ?_
    rintro e w' ⟨rfl, hb⟩
    exact ⟨rfl, hb⟩
end
end Go.Proofs.YtgegcfhifojjiaaDoor.Vm
