/- An abstract machine over values: functions with a box. -/
import Derived.Test.YtpopccnnjpdmlaaVmTo
namespace Go.Proofs.Ytpopccnnjpdmlaa.Vm
open Go Go.RowKit
set_option linter.unusedVariables false
set_option linter.unusedSimpArgs false
def FinB (rs : List VR) (r : AV) (bx' : List (List AV)) (ks : List Nat) (e : Ex) (s : AS) : Prop := (e = .normal ∨ e = .ret) ∧ ∃ s1, Wk s1 s ∧ ∃ l, resVs s1 rs = some l ∧ r = reC ks (oneOr l) ∧ ∃ bs, bxsOf s1 (List.range bx'.length) = some bs ∧ bx' = bs.map (reC.reL ks)
theorem FinB_ret {rs : List VR} {r r' : AV} {bx' bs : List (List AV)} {ks : List Nat} {s : AS} (h : resVs s rs = some [r']) (h2 : r = reC ks r') (h3 : bxsOf s (List.range bx'.length) = some bs) (h4 : bx' = bs.map (reC.reL ks)) : FinB rs r bx' ks .ret s := ⟨.inr rfl, s, .refl s, _, h, h2, bs, h3, h4⟩
theorem Is.fxb {E : Env} {f nt : Nat} {vc : VC} {rs : List VR} (h : Is E.P f nt vc rs) {args : List AV} {r : AV} {bx bx' : List (List AV)} (ks : List Nat) (hlen : args.length ≤ nt) (hks : dd ks = ks) (hres : resOk r = true ∧ bx'.all resOk.resL = true) (hbl : bx'.length = bx.length) (hb : bx.length ≤ 1000) (hv : Xe E vc ⟨enum 0 args, enum 0 bx⟩ (FinB rs r bx' ks) .mk) : Fx E f bx args bx' r := by
  obtain ⟨fn, dr, h1, h2, h3, h4, h5⟩ := h.ex
  refine Fx.of h1 h2 h3 h4 ks (by rw [h5]; exact hlen) hb hks ⟨hres.1, hres.2, hbl⟩ (vx_mono _ _ _ _ hv ?_)
  rintro e s ⟨he, s1, hw, l, g1, g2, bs, g3, g4⟩
  exact ⟨he, s1, hw, l, g1, g2, bs, by rw [← hbl]; exact g3, g4⟩
/-- A call with one box, whose cells stay as they are told. -/
theorem vcall_box {E : Env} {q : Bool} {s : AS} {t f n : Nat} {vs ws : List AV} {Q : AS → Prop} {r : AV} {lb lb' : List AV} (hF : Fx E f [lb] ws [lb'] r) (hq : q = false) (hw : ren.renL [n] (strip.stripL vs) = ws) (h1 : argOk.argL vs = true) (h2 : dd (ptrs.ptrsL vs) = [n]) (h3 : (s.putO (some t) .un).noC t = true) {l0 : List AV} (hb : look s.bxs n = some l0) (hb1 : strip.stripL l0 = lb) (hb2 : dat.datL l0 = true) (hb3 : resOk.resL lb' = true ∧ dat.datL lb' = true) {l : Lk Q} (h4 : Q ((s.setB n (relab.relabL t false lb')).put t (relab t (frA.frL vs) r))) : Xc E q s (some t) f vs Q l := by
  refine .inl ⟨h1, fun e => (by rw [hq] at e; cases e), t, rfl, h3, [l0], by rw [h2]; simp [bxsOf, hb], by simp [hb2], [lb'], r, ?_, by simp [hb3], by rw [h2]; exact h4⟩
  rw [h2]
  simp only [List.map_cons, List.map_nil, hb1, hw]
  exact hF
end Go.Proofs.Ytpopccnnjpdmlaa.Vm
