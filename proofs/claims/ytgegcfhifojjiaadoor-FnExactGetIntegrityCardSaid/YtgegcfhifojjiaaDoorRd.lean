/- Decimal numerals: impl's side. -/
import Derived.Test.YtgegcfhifojjiaaDoorDc
import Derived.WalkKit
import Derived.BigCall
import Derived.Lib.AppendIntMem
import Derived.Lib.AtoiErrMem
namespace Go.Proofs.YtgegcfhifojjiaaDoor.Vm
open Go Go.RowKit
set_option linter.unusedVariables false
set_option linter.unusedSimpArgs false
/-- From a contract of values to its calls. -/
theorem lit_calls {E : Env} {f : Nat} {args : List Value} {r : Value} (hF : Fx E f [] (args.map .lit) [] (.lit r)) (ha : ∀ v ∈ args, v.oneCell' = true) {w : World} (hK : E.K w) : Calls E.P f args.toArray w fun e w' => e = .returned r ∧ Below w.heap.size w w' := by
  let x : X := ⟨fun _ _ => none, fun _ => 0, fun _ => (1, 0), fun _ => none, fun _ _ => False, fun _ _ => False, fun _ => none⟩
  refine (hF.2.2 x w args.toArray hK (fun _ => rfl) (fun n hn => by simp at hn) ⟨fun b o h => h.elim, fun b o h => h.elim, fun _ _ h => h⟩ (by simp) (fun i v c hv hc => ?_) (fun b o v hv => by cases hv) (fun n l hl => by simp at hl) (fun n m hn => by simp at hn)).mono ?_
  · rw [List.getElem?_map] at hc
    obtain ⟨u, hu, rfl⟩ := Option.map_eq_some_iff.1 hc
    obtain rfl : v = u := by simpa [hu] using hv.symm
    exact .lit _ (ha _ (List.mem_of_getElem? hu))
  rintro e w' ⟨v, x', rfl, h1, _, _, _, h5, _⟩
  have := h1.lit_inv
  subst this
  exact ⟨rfl, ⟨h5.1, h5.2.1, h5.2.2.1, h5.2.2.2.1, fun k hk => h5.2.2.2.2 k hk (by rintro (⟨n, hn, _⟩ | ⟨_, h⟩); simp at hn; exact h)⟩⟩
section
variable {E : Env} (hE : E.P = Go.Proofs.Tryd.prog) (hZ : ∀ w, E.K w → KZ w)
include hE hZ
theorem itoa_fx (n : Nat) (hn : n ≤ 9223372036854775807) : Fx E 111 [] [.lit (.int .i64 n)] [] (.lit (.string (decT n))) := by
  refine Fx_lit (args := [.int .i64 n]) rfl fun w hw => ?_
  rw [hE]
  refine (Go.Proofs.Tryd.strconv_Itoa n (by omega) (by omega) w (hZ w hw).pow).mono ?_
  rintro e w' ⟨rfl, k, os, rfl⟩
  rw [itoa_decT]
  exact ⟨rfl, Lib.below_grow _ _ (Nat.le_refl _) _ _⟩
theorem implDec_fx (n : Nat) (hn : n ≤ 9223372036854775807) : Fx E 86 [] [.lit (.int .i64 n)] [] (.lit (.string (decT n))) := by
  refine (is86.to hE).fx [] (by simp) rfl rfl ?_
  simp [v86]
  refine vcall_go (itoa_fx hE hZ n hn) (by simp) (by simp) (by simp) (by simp) ?_
  simp
  exact Fin_ret rfl rfl
end
noncomputable def EZ : Env := ⟨Go.Proofs.Tryd.prog, KZ, 5 + 1, fun _ _ _ hk h => h.keep hk, fun _ h => h.size, by kernel_rfl⟩
theorem within_calls (x a b : Int) (w : World) (hK : KZ w) : Calls Go.Proofs.Tryd.prog 85 #[.int .i64 x, .int .i64 a, .int .i64 b] w fun e w' => e = .returned (.bool (inR x a b)) ∧ Below w.heap.size w w' :=
  lit_calls (E := EZ) (args := [.int .i64 x, .int .i64 a, .int .i64 b]) (within_fx rfl x a b) (by simp [Value.oneCell']) hK
theorem implDec_calls (n : Nat) (hn : n ≤ 9223372036854775807) (w : World) (hK : KZ w) : Calls Go.Proofs.Tryd.prog 86 #[.int .i64 n] w fun e w' => e = .returned (.string (decT n)) ∧ Below w.heap.size w w' :=
  lit_calls (E := EZ) (args := [.int .i64 n]) (implDec_fx rfl (fun _ h => h) n hn) (by simp [Value.oneCell']) hK
set_option maxRecDepth 100000 in
theorem readDec_calls (s : ByteArray) (hlim : s.size ≤ 281474976710656) (w : World) (hK : KZ w) : Calls Go.Proofs.Tryd.prog 62 #[.string s] w fun e w' => e = .returned (.int .i64 (readDec s)) ∧ Below w.heap.size w w' := by
  have bel : ∀ {a b : World}, Below w.heap.size w a → Below a.heap.size a b → Below w.heap.size w b := fun h1 h2 => h1.trans (h2.mono h1.size)
  have nx : (∀ n, n ≤ 999999999 → decT n ≠ s) → readDec s = -1 := readDec_none
  rcases h : Lib.atoiAll s.data.toList with v | _ | _
  · skip
    have hat : ∀ W, KZ W → Calls Go.Proofs.Tryd.prog 84 #[.string s] W fun e w' => e = .returned (.tuple #[.int .i64 v, .nilIface]) ∧ Below W.heap.size W w' := fun W hW => (Go.Proofs.Tryd.strconv_Atoi_ok s (by omega) v h W).mono fun e w' ⟨he, hw⟩ => ⟨he, by
      rcases hw with rfl | ⟨t, rfl⟩
      · exact Below.refl _ _
      · exact Lib.bytesWorld_below _ _ _⟩
    by_cases c1 : inR v 0 999999999 = true
    · obtain ⟨n, rfl⟩ : ∃ n : Nat, v = n := ⟨v.toNat, by simp [inR] at c1; omega⟩
      have hn : n ≤ 999999999 := by simp [inR] at c1; omega
      have hwi : ∀ W, KZ W → Calls Go.Proofs.Tryd.prog 85 #[.int .i64 n, .int .i64 0, .int .i64 999999999] W fun e w' => e = .returned (.bool true) ∧ Below W.heap.size W w' := fun W hW => by
        have := within_calls n 0 999999999 W hW
        rwa [c1] at this
      have hde := implDec_calls n (by omega)
      by_cases c2 : decT n = s
      · have hr : readDec s = n := by rw [← c2]; exact readDec_some hn
        rw [hr]
        rw [c2] at hde
        go_enter Go.Proofs.Tryd.func62, Go.Proofs.Tryd.ntmps62
        go_wp2_with (first
          | (go_at_call 84; refine (hat w hK).mono ?_; rintro e w1 ⟨rfl, hb1⟩)
          | (go_at_call 85; refine (hwi _ (hK.below hb1)).mono ?_; rintro e w2 ⟨rfl, hb2⟩)
          | (go_at_call 86; refine (hde _ ((hK.below hb1).below hb2)).mono ?_; rintro e w3 ⟨rfl, hb3⟩))
        go_ret
        exact ⟨rfl, bel (bel hb1 hb2) hb3⟩
      · have hr : readDec s = -1 := nx fun m h1 h2 => c2 (by
          subst h2
          rw [decT_list, atoi_dec m h1] at h
          injection h with h
          rw [show n = m by omega])
        rw [hr]
        go_enter Go.Proofs.Tryd.func62, Go.Proofs.Tryd.ntmps62
        go_wp2_with (first
          | (go_at_call 84; refine (hat w hK).mono ?_; rintro e w1 ⟨rfl, hb1⟩)
          | (go_at_call 85; refine (hwi _ (hK.below hb1)).mono ?_; rintro e w2 ⟨rfl, hb2⟩)
          | (go_at_call 86; refine (hde _ ((hK.below hb1).below hb2)).mono ?_; rintro e w3 ⟨rfl, hb3⟩))
        · go_ret
          exact ⟨rfl, bel (bel hb1 hb2) hb3⟩
        · rename_i hq
          exfalso
          exact c2 (toList_inj.1 (by simpa using hq))
    · have hr : readDec s = -1 := nx fun m h1 h2 => c1 (by
        subst h2
        rw [decT_list, atoi_dec m h1] at h
        injection h with h
        simp [inR]; omega)
      rw [hr]
      have hwi : ∀ W, KZ W → Calls Go.Proofs.Tryd.prog 85 #[.int .i64 v, .int .i64 0, .int .i64 999999999] W fun e w' => e = .returned (.bool false) ∧ Below W.heap.size W w' := fun W hW => by
        have := within_calls v 0 999999999 W hW
        rwa [Bool.eq_false_iff.2 c1] at this
      go_enter Go.Proofs.Tryd.func62, Go.Proofs.Tryd.ntmps62
      go_wp2_with (first
          | (go_at_call 84; refine (hat w hK).mono ?_; rintro e w1 ⟨rfl, hb1⟩)
          | (go_at_call 85; refine (hwi _ (hK.below hb1)).mono ?_; rintro e w2 ⟨rfl, hb2⟩))
      go_ret
      exact ⟨rfl, bel hb1 hb2⟩
  · skip
    have hr : readDec s = -1 := nx fun m h1 h2 => by
      subst h2
      rw [decT_list, atoi_dec m h1] at h
      cases h
    rw [hr]
    obtain ⟨te, pe, hv⟩ := hK.esyn
    go_enter Go.Proofs.Tryd.func62, Go.Proofs.Tryd.ntmps62
    go_wp2_with (go_at_call 84; refine (Any.strconv_Atoi_syntax Go.Proofs.Tryd.laysC172 s hlim h _ _ hv (.inr ⟨te, pe, rfl⟩)).mono ?_)
    rintro e w1 ⟨N, rfl, -, -, hb⟩
    go_wp2
    go_ret
    exact ⟨rfl, hb⟩
  · skip
    have hr : readDec s = -1 := nx fun m h1 h2 => by
      subst h2
      rw [decT_list, atoi_dec m h1] at h
      cases h
    rw [hr]
    obtain ⟨te, pe, hv⟩ := hK.erng
    go_enter Go.Proofs.Tryd.func62, Go.Proofs.Tryd.ntmps62
    go_wp2_with (go_at_call 84; refine (Go.Proofs.Tryd.strconv_Atoi_range s hlim h _ _ hv (.inr ⟨te, pe, rfl⟩)).mono ?_)
    rintro e w1 ⟨N, rfl, -, -, hb⟩
    go_wp2
    go_ret
    exact ⟨rfl, hb⟩
section
variable {E : Env} (hE : E.P = Go.Proofs.Tryd.prog) (hZ : ∀ w, E.K w → KZ w)
include hE hZ
theorem implReadDec_fx (s : ByteArray) (hlim : s.size ≤ 281474976710656) : Fx E 62 [] [.lit (.string s)] [] (.lit (.int .i64 (readDec s))) :=
  Fx_lit (args := [.string s]) rfl fun w hw => by rw [hE]; exact readDec_calls s hlim w (hZ w hw)
end
end Go.Proofs.YtgegcfhifojjiaaDoor.Vm
