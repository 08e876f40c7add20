/- An abstract machine over values: calls. -/
import Derived.Test.YtpopccnnjpdmlaaVmJ
namespace Go.Proofs.Ytpopccnnjpdmlaa.Vm
open Go Go.RowKit
set_option linter.unusedVariables false
set_option linter.unusedSimpArgs false
theorem dd_mem {m : Nat} : ∀ {ns : List Nat}, m ∈ dd ns ↔ m ∈ ns
  | [] => Iff.rfl
  | n :: ns => by
    simp only [dd, List.mem_cons, List.mem_filter, dd_mem (ns := ns), bne_iff_ne]
    by_cases h : m = n <;> simp [h]
theorem dd_nodup : ∀ (ns : List Nat), (dd ns).Nodup
  | [] => List.nodup_nil
  | n :: ns => by
    simp only [dd, List.nodup_cons, List.mem_filter, bne_iff_ne]
    exact ⟨fun h => h.2 rfl, (dd_nodup ns).filter _⟩
theorem renL_get (ns : List Nat) : ∀ (cs : List AV) (j : Nat), (ren.renL ns cs)[j]? = (cs[j]?).map (ren ns)
  | [], j => by simp [ren.renL]
  | c :: cs, 0 => by simp [ren.renL]
  | c :: cs, j + 1 => by simp [ren.renL, renL_get ns cs j]
theorem renL_len (ns : List Nat) : ∀ (cs : List AV), (ren.renL ns cs).length = cs.length
  | [] => rfl
  | c :: cs => by simp [ren.renL, renL_len ns cs]
theorem relabL_get (d : Nat) (b : Bool) : ∀ (cs : List AV) (j : Nat), (relab.relabL d b cs)[j]? = (cs[j]?).map (relab d b)
  | [], j => by simp [relab.relabL]
  | c :: cs, 0 => by simp [relab.relabL]
  | c :: cs, j + 1 => by simp [relab.relabL, relabL_get d b cs j]
theorem relabL_len (d : Nat) (b : Bool) : ∀ (cs : List AV), (relab.relabL d b cs).length = cs.length
  | [] => rfl
  | c :: cs => by simp [relab.relabL, relabL_len d b cs]
theorem argL_get : ∀ {cs : List AV} {j : Nat} {c : AV}, argOk.argL cs = true → cs[j]? = some c → argOk c = true
  | [], _, _, _, h => by simp at h
  | y :: cs, 0, c, h, hc => by
    obtain rfl : y = c := by simpa using hc
    simp [argOk.argL] at h; exact h.1
  | y :: cs, j + 1, c, h, hc => by
    simp [argOk.argL] at h
    exact argL_get h.2 (by simpa using hc)
theorem resL_get : ∀ {cs : List AV} {j : Nat} {c : AV}, resOk.resL cs = true → cs[j]? = some c → resOk c = true
  | [], _, _, _, h => by simp at h
  | y :: cs, 0, c, h, hc => by
    obtain rfl : y = c := by simpa using hc
    simp [resOk.resL] at h; exact h.1
  | y :: cs, j + 1, c, h, hc => by
    simp [resOk.resL] at h
    exact resL_get h.2 (by simpa using hc)
theorem ptrsL_get : ∀ {cs : List AV} {j : Nat} {c : AV}, cs[j]? = some c → ∀ n ∈ ptrs c, n ∈ ptrs.ptrsL cs
  | [], _, _, h => by simp at h
  | y :: cs, 0, c, hc => by
    obtain rfl : y = c := by simpa using hc
    intro n hn
    simp [ptrs.ptrsL, hn]
  | y :: cs, j + 1, c, hc => by
    intro n hn
    have := ptrsL_get (cs := cs) (by simpa using hc) n hn
    simp [ptrs.ptrsL, this]
theorem renB_get {ns : List Nat} {n : Nat} (h : n ∈ ns) : renB ns n < ns.length ∧ ns[renB ns n]? = some n := by
  have hlt : ns.findIdx (· == n) < ns.length := List.findIdx_lt_length_of_exists ⟨n, h, by simp⟩
  refine ⟨hlt, ?_⟩
  have := List.findIdx_getElem (w := hlt)
  simp at this
  unfold renB
  rw [List.getElem?_eq_getElem hlt, this]
/-- A value of data read through less of the memory. -/
theorem rel_dat {x x' : X} {base base' : Nat} {v : Value} {c : AV} (r : Rel x base v c) (hd : dat c = true) (hG : ∀ u y, RepD x.G u y → (frA c = true → RepD (x.G.from base) u y) → RepD x'.G u y) : Rel x' base' v (strip c) := by
  induction r with
  | un v => exact .un v
  | lit v h => exact .lit v h
  | sl v m sz xs h1 h2 h3 => exact .sl _ _ _ _ (hG _ _ h1.mark fun hf => (h2 hf).mark) (fun hf => by cases hf) trivial
  | agg vs cs hs hr ih =>
    refine .agg _ _ (by rw [stripL_len]; exact hs) fun j v d hv hdd => ?_
    rw [stripL_get] at hdd
    obtain ⟨e, he, rfl⟩ := Option.map_eq_some_iff.1 hdd
    exact ih j v e hv he (datL_get hd he) fun u y h1 h2 => hG u y h1 fun hf => h2 (frL_get hf he)
  | tup => cases hd
  | ptr => cases hd
  | ep => cases hd
  | fn => cases hd
  | bs => cases hd
  | hs => cases hd
  | hp => cases hd
theorem ren_dat (ns : List Nat) : ∀ (c : AV), dat c = true → ren ns c = c := by
  intro c
  refine AV.rec (motive_1 := fun c => dat c = true → ren ns c = c) (motive_2 := fun cs => dat.datL cs = true → ren.renL ns cs = cs) ?_ ?_ ?_ ?_ ?_ ?_ ?_ ?_ ?_ ?_ ?_ ?_ ?_ c
  all_goals (intros; first | rfl | skip)
  · rename_i cs ih h; simp only [ren]; rw [ih (by simpa [dat] using h)]
  · rename_i h; simp [dat] at h
  · rename_i h; simp [dat] at h
  · rename_i h; simp [dat] at h
  · rename_i c cs ih1 ih2 h
    simp [dat.datL] at h
    simp [ren.renL, ih1 h.1, ih2 h.2]
theorem dat_strip : ∀ (c : AV), dat c = true → dat (strip c) = true := by
  intro c
  refine AV.rec (motive_1 := fun c => dat c = true → dat (strip c) = true) (motive_2 := fun cs => dat.datL cs = true → dat.datL (strip.stripL cs) = true) ?_ ?_ ?_ ?_ ?_ ?_ ?_ ?_ ?_ ?_ ?_ ?_ ?_ c
  all_goals (intros; first | rfl | skip)
  · rename_i cs ih h; simp only [strip, dat]; exact ih (by simpa [dat] using h)
  all_goals first
    | (rename_i h; simp [dat] at h; done)
    | (rename_i c cs ih1 ih2 h; simp [dat.datL] at h; simp [strip.stripL, dat.datL, ih1 h.1, ih2 h.2])
theorem dat_argOk : ∀ (c : AV), dat c = true → argOk c = true := by
  intro c
  refine AV.rec (motive_1 := fun c => dat c = true → argOk c = true) (motive_2 := fun cs => dat.datL cs = true → argOk.argL cs = true) ?_ ?_ ?_ ?_ ?_ ?_ ?_ ?_ ?_ ?_ ?_ ?_ ?_ c
  all_goals (intros; first | rfl | skip)
  · rename_i cs ih h; simp only [dat] at h; simp [argOk, h]
  all_goals first
    | (rename_i h; simp [dat] at h; done)
    | (rename_i c cs ih1 ih2 h; simp [dat.datL] at h; simp [argOk.argL, ih1 h.1, ih2 h.2])
theorem datL_argL : ∀ {cs : List AV}, dat.datL cs = true → argOk.argL cs = true
  | [], _ => rfl
  | c :: cs, h => by
    simp [dat.datL] at h
    simp [argOk.argL, dat_argOk c h.1, datL_argL h.2]
theorem argOk_agg' {cs : List AV} (h : argOk (.agg cs) = true) : argOk.argL cs = true := by
  simp only [argOk, Bool.or_eq_true] at h
  rcases h with h | h
  · exact datL_argL h
  · exact h
/-- An argument, as the callee sees it. -/
theorem rel_arg {x x' : X} {base base' : Nat} {ns : List Nat} {v : Value} {c : AV} (r : Rel x base v c) : argOk c = true → (∀ n ∈ ptrs c, n ∈ ns) → (∀ n k, ns[k]? = some n → x'.bx k = x.bx n ∧ x'.bz k = x.bz n) →
    (∀ u y, RepD x.G u y → (frA c = true → RepD (x.G.from base) u y) → RepD x'.G u y) → (∀ u y, RepH x.G x.J u y → frA c = false → RepH x'.G x'.J u y) → Rel x' base' v (ren ns (strip c)) := by
  induction r with
  | un v => exact fun _ _ _ _ _ => .un v
  | lit v h => exact fun _ _ _ _ _ => .lit v h
  | sl v m sz xs h1 h2 h3 => exact fun _ _ _ hG _ => .sl _ _ _ _ (hG _ _ h1.mark fun hf => (h2 hf).mark) (fun hf => by cases hf) trivial
  | agg vs cs hs hr ih =>
    intro ha hp hb hG hH
    replace ha := argOk_agg' ha
    simp only [strip, ren]
    refine .agg _ _ (by rw [renL_len, stripL_len]; exact hs) fun j v d hv hdd => ?_
    rw [renL_get, stripL_get, Option.map_map] at hdd
    obtain ⟨e, he, rfl⟩ := Option.map_eq_some_iff.1 hdd
    refine ih j v e hv he (argL_get ha he) (fun n hn => hp n (by simp only [ptrs]; exact ptrsL_get he n hn)) hb (fun u y h1 h2 => hG u y h1 fun hf => h2 (frL_get hf he)) fun u y h1 h2 => hH u y h1 ?_
    cases hf : frA (.agg cs) with
    | false => rfl
    | true => rw [frL_get (cs := cs) hf he] at h2; cases h2
  | tup => intro ha; cases ha
  | ptr n i off =>
    intro ha hp hb hG _
    have hn := hp n (by simp [ptrs])
    obtain ⟨h1, h2⟩ := renB_get hn
    obtain ⟨e1, e2⟩ := hb n _ h2
    simp only [strip, ren]
    rw [← e1, ← e2]
    exact .ptr _ i off
  | ep => intro ha; cases ha
  | fn f vs cs hs hr ih =>
    intro ha hp hb hG hH
    simp only [strip, ren]
    refine .fn f _ _ (by rw [renL_len, stripL_len]; exact hs) fun j v d hv hdd => ?_
    rw [renL_get, stripL_get, Option.map_map] at hdd
    obtain ⟨e, he, rfl⟩ := Option.map_eq_some_iff.1 hdd
    exact ih j v e hv he (argL_get ha he) (fun n hn => hp n (by simp only [ptrs]; exact ptrsL_get he n hn)) hb (fun u y h1 h2 => hG u y h1 fun hf => by simp [frA] at hf) fun u y h1 h2 => hH u y h1 rfl
  | bs n sz len cap h hl =>
    intro ha hp hb hG _
    have hn := hp n (by simp [ptrs])
    obtain ⟨h1, h2⟩ := renB_get hn
    obtain ⟨e1, e2⟩ := hb n _ h2
    simp only [strip, ren]
    rw [← e1, ← e2]
    exact .bs _ sz len cap (by rw [e2]; exact h) hl
  | hs v sz xs h => exact fun _ _ _ _ hH => .hs v sz xs (hH _ _ h rfl)
  | hp => intro ha; cases ha
theorem bxsOf_get {s : AS} : ∀ {ns : List Nat} {bs : List (List AV)}, bxsOf s ns = some bs → bs.length = ns.length ∧ ∀ (k : Nat) (l : List AV), bs[k]? = some l → ∃ n, ns[k]? = some n ∧ look s.bxs n = some l
  | [], bs, h => by obtain rfl := Option.some.inj h; simp
  | n :: ns, bs, h => by
    simp only [bxsOf] at h
    obtain ⟨l, hl, h⟩ := Option.bind_eq_some_iff.1 h
    obtain ⟨r, hr, h⟩ := Option.bind_eq_some_iff.1 h
    obtain rfl := Option.some.inj h
    obtain ⟨i1, i2⟩ := bxsOf_get hr
    refine ⟨by simp [i1], fun k l' hk => ?_⟩
    cases k with
    | zero =>
      obtain rfl : l = l' := by simpa using hk
      exact ⟨n, rfl, hl⟩
    | succ k => exact i2 k l' (by simpa using hk)
theorem setBs_env (s : AS) : ∀ (ns : List Nat) (ls : List (List AV)), (setBs s ns ls).env = s.env
  | [], ls => by cases ls <;> rfl
  | n :: ns, [] => rfl
  | n :: ns, l :: ls => by simp only [setBs]; rw [setBs_env]; rfl
theorem setBs_get (u : Nat) (s : AS) (ns : List Nat) (ls : List (List AV)) : (setBs s ns ls).get u = s.get u := by
  unfold AS.get; rw [setBs_env]
theorem setBs_look : ∀ (ns : List Nat) (ls : List (List AV)) (s : AS) (n : Nat) (l : List AV), ns.length = ls.length → ns.Nodup → look (setBs s ns ls).bxs n = some l → (∃ k : Nat, ns[k]? = some n ∧ ls[k]? = some l) ∨ (n ∉ ns ∧ look s.bxs n = some l)
  | [], [], s, n, l, _, _, h => .inr ⟨by simp, h⟩
  | m :: ns, q :: ls, s, n, l, hlen, hnd, h => by
    simp only [setBs] at h
    rw [List.nodup_cons] at hnd
    rcases setBs_look ns ls _ n l (by simpa using hlen) hnd.2 h with ⟨k, h1, h2⟩ | ⟨h1, h2⟩
    · exact .inl ⟨k + 1, by simpa using h1, by simpa using h2⟩
    · rw [look_setB] at h2
      by_cases hn : n = m
      · rw [if_pos hn] at h2
        exact .inl ⟨0, by rw [hn]; rfl, by simpa using h2⟩
      · rw [if_neg hn] at h2
        exact .inr ⟨by simp [hn, h1], h2⟩
end Go.Proofs.Ytpopccnnjpdmlaa.Vm
