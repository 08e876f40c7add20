/- An abstract machine over values: operations that only compute. -/
import Derived.Test.YtpopccnnjpdmlaaVmC
import Derived.Laws.Cells
import Derived.Laws.Append
import Derived.Laws.IdiomCopy
import Derived.Laws.Strings
import Derived.WideShapes
namespace Go.Proofs.Ytpopccnnjpdmlaa.Vm
open Go Go.RowKit
set_option linter.unusedVariables false
set_option linter.unusedSimpArgs false
section
variable {P : Program}
theorem run_szOf {t n : Nat} (h : szOf P t = some n) (w : World) : (sizeOf t).run P w = .ok n w := by
  unfold szOf at h
  obtain ⟨i, hi, rfl⟩ := Option.map_eq_some_iff.1 h
  simp [sizeOf, typeInfo, hi]
theorem run_agOf {t : Nat} {g : Bool} (h : agOf P t = some g) (w : World) : (isAgg t).run P w = .ok g w := by
  unfold agOf at h
  obtain ⟨d, hd, hg⟩ := Option.map_eq_some_iff.1 h
  unfold isAgg
  rw [Sem.run_bind, run_underlying hd w]
  subst hg
  cases d <;> simp
theorem elOf_spec {t e : Nat} (h : elOf P t = some e) : P.underlying t = some (.slice e) := by
  unfold elOf at h
  obtain ⟨d, hd, hg⟩ := Option.bind_eq_some_iff.1 h
  cases d <;> simp at hg
  subst hg
  exact hd
theorem strT_spec {t : Nat} (h : strT P t = true) : P.underlying t = some .string := by
  unfold strT at h
  split at h
  · assumption
  · cases h
theorem wpv {o : Oper} {a : Act} {w w' : World} {K : Act → World → Prop} {Q : Exit → Act → World → Prop} {v : Value} (h : (execOp a.eval o).run P w = .ok (.value v) w') (hk : K (a.put o.dst v) w') : o.wp P a w K Q := by
  unfold Oper.wp
  rw [h]
  exact hk
theorem binI_run {op : BinOp} {k k' : IntKind} {a b : Int} {u : Value} (h : binI op k a k' b = some u) (t : TypeId) (w : World) : (binOp op t (.int k a) (.int k' b)).run P w = .ok u w ∧ u.oneCell' = true := by
  unfold binI at h
  cases op <;> simp only at h <;> (try (split at h <;> first | (cases h; done) | skip)) <;> (try (split at h <;> first | (cases h; done) | skip)) <;> (try subst_vars) <;> (try (obtain rfl := Option.some.inj h)) <;> (try (cases h; done)) <;>
    first
    | (refine ⟨?_, rfl⟩; simp [binOp, Op.intArith, Op.intDiv, Op.intBits, Op.intCmp, Op.shift, *]; done)
    | (refine ⟨?_, rfl⟩; simp only [binOp, Op.intArith, Op.intDiv, Op.intBits, Op.intCmp, Op.shift, ne_eq, not_true_eq_false, if_false, Sem.run_ite, Sem.run_pure, beq_iff_eq, *]; simp [*]; done)
    | (refine ⟨?_, rfl⟩; simp only [binOp, ne_eq, not_true_eq_false, if_false, Op.intCmp, Sem.run_ite, ite_false]; rfl)
    | (refine ⟨?_, rfl⟩; simp only [binOp, ne_eq, not_true_eq_false, if_false, Op.intCmp, bne, decide_not]; rfl)
    | skip
theorem ba_beq (a b : ByteArray) : (a == b) = decide (a = b) := by
  cases a with | mk x =>
  cases b with | mk y =>
  show (x == y) = _
  rw [Bool.eq_iff_iff]
  simp
theorem toList_inj {a b : ByteArray} : a.toList = b.toList ↔ a = b := by
  rw [ByteArray.toList_eq, ByteArray.toList_eq]
  exact ⟨fun h => Go.WideShapes.bytes_inj h, fun h => by rw [h]⟩
theorem toList_beq (a b : ByteArray) : (a.toList == b.toList) = decide (a = b) := by
  rw [Bool.eq_iff_iff]
  simp [toList_inj]
theorem binS_run {op : BinOp} {a b : ByteArray} {u : Value} (h : binS op a b = some u) (t : TypeId) (w : World) : (binOp op t (.string a) (.string b)).run P w = .ok u w ∧ u.oneCell' = true := by
  unfold binS at h
  cases op <;> simp only at h <;> (try (cases h; done))
  case add =>
    split at h
    · obtain rfl := Option.some.inj h
      refine ⟨?_, rfl⟩
      have hs : ¬ ((a.size + b.size : Nat) : Int) > IntKind.i64.max := by simp [IntKind.max, IntKind.signed, IntKind.bits]; omega
      simp only [binOp, Op.stringOp]
      rw [if_neg hs]
      rfl
    · cases h
  all_goals
    obtain rfl := Option.some.inj h
    refine ⟨?_, rfl⟩
    simp [binOp, Op.stringOp, toList_beq, slt]
theorem get2 {vs : Array Value} {x : X} {base : Nat} {p q : Value} (r : Rel x base (.agg vs) (.agg [.lit p, .lit q])) : vs = #[p, q] ∧ p.oneCell' = true ∧ q.oneCell' = true := by
  cases r with
  | agg _ _ hs h =>
    obtain ⟨l⟩ := vs
    match l, hs with
    | [u, v], _ =>
      have h0 := h 0 u (.lit p) rfl rfl
      have h1 := h 1 v (.lit q) rfl rfl
      cases h0 with
      | lit _ o0 => cases h1 with
        | lit _ o1 => exact ⟨rfl, o0, o1⟩
theorem part_run {t off : Nat} {cs : Array Value} {v : Value} (w : World) (h : P.underlying t = some .string) (hc : cs[off]? = some v) : (part t cs off).run P w = .ok v w := by
  unfold part
  have ha : (isAgg t).run P w = .ok false w := by unfold isAgg; rw [Sem.run_bind, run_underlying h w]; rfl
  simp only [Sem.run_bind, ha, Result.andThen_ok, Bool.false_eq_true, if_false, hc]
  rfl
theorem eqS_run {d t : Nat} {a b : ByteArray} (w : World) (h : P.underlying t = some .string) : (Op.equalIn (d + 1) t (.string a) (.string b)).run P w = .ok (a == b) w := by
  unfold Op.equalIn
  rw [Sem.run_bind, run_underlying h w]
  rfl
theorem two_run {t : Nat} (h : twoStr P t = true) (a b c d : ByteArray) (w : World) : (Op.equal t (.agg #[.string a, .string b]) (.agg #[.string c, .string d])).run P w = .ok (decide (a = c) && decide (b = d)) w ∧ P.eqGuardType P.depth t = false := by
  unfold twoStr at h
  split at h
  · rename_i fs hu
    split at h
    · rename_i f g hfs
      simp only [Bool.and_eq_true, Bool.not_eq_true', beq_iff_eq, bne_iff_ne, ne_eq] at h
      obtain ⟨⟨⟨⟨⟨⟨h1, h2⟩, h3⟩, h4⟩, h5⟩, h6⟩, h7⟩ := h
      split at h5
      · rename_i e1 e2
        refine ⟨?_, h7⟩
        unfold Op.equal Op.maxDepth
        show (Op.equalIn (9999 + 1) t _ _).run P w = _
        unfold Op.equalIn
        rw [Sem.run_bind, run_underlying hu w]
        obtain ⟨l⟩ := fs
        simp only at hfs
        subst hfs
        have p1 := part_run (P := P) (off := f.offset) (cs := #[.string a, .string b]) (v := .string a) w e1 (by rw [h1]; rfl)
        have p2 := part_run (P := P) (off := f.offset) (cs := #[.string c, .string d]) (v := .string c) w e1 (by rw [h1]; rfl)
        have p3 := part_run (P := P) (off := g.offset) (cs := #[.string a, .string b]) (v := .string b) w e2 (by rw [h2]; rfl)
        have p4 := part_run (P := P) (off := g.offset) (cs := #[.string c, .string d]) (v := .string d) w e2 (by rw [h2]; rfl)
        have q1 := eqS_run (P := P) (d := 9998) (a := a) (b := c) w e1
        have q2 := eqS_run (P := P) (d := 9998) (a := b) (b := d) w e2
        simp only [Result.andThen_ok, Sem.run_bind, run_program, h6, Bool.false_eq_true, if_false]
        simp [h3, h4, p1, p2, p3, p4, q1, q2]
        simp only [ba_beq]
        by_cases h1 : a = c <;> by_cases h2 : b = d <;> simp [h1, h2]
      · cases h5
    · cases h
  · cases h
theorem binV_run {op : BinOp} {t ty : Nat} (h2 : ty = 1 → twoStr P t = true) (h3 : ty = 2 → boolT P t = true) {x : X} {base : Nat} {u v : Value} {A B : AV} {r : Value} (ru : Rel x base u A) (rv : Rel x base v B) (h : binV op ty A B = some r) (a b : Operand) (w : World) :
    (do eqGuard op t a b u v; binOp op t u v).run P w = .ok r w ∧ r.oneCell' = true := by
  unfold binV at h
  split at h
  · cases ru; cases rv
    obtain ⟨h1, h3⟩ := binI_run h t w (P := P)
    refine ⟨?_, h3⟩
    rw [Sem.run_bind, show (eqGuard op t a b (.int _ _) (.int _ _)).run P w = .ok () w by cases op <;> rfl]
    exact h1
  · cases ru; cases rv
    obtain ⟨h1, h3⟩ := binS_run h t w (P := P)
    refine ⟨?_, h3⟩
    rw [Sem.run_bind, show (eqGuard op t a b (.string _) (.string _)).run P w = .ok () w by cases op <;> rfl]
    exact h1
  · cases ru; cases rv
    split at h
    · rename_i p q o1 o2 htwo
      have hb := h3 htwo
      unfold boolT at hb
      split at hb
      · rename_i hu
        have he : (Op.equal t (.bool p) (.bool q)).run P w = .ok (p == q) w := by
          unfold Op.equal Op.maxDepth
          show (Op.equalIn (9999 + 1) t _ _).run P w = _
          unfold Op.equalIn
          rw [Sem.run_bind, run_underlying hu w]
          rfl
        cases op <;> simp only at h <;> (try (cases h; done))
        all_goals
          obtain rfl := Option.some.inj h
          refine ⟨?_, rfl⟩
          rw [Sem.run_bind, show (eqGuard _ t a b (.bool p) (.bool q)).run P w = .ok () w by rfl]
          simp [binOp, he]
      · cases hb
    · cases h
  · split at h
    · rename_i p q p' q' htwo
      obtain ⟨us, rfl⟩ : ∃ us, u = .agg us := by cases ru; exact ⟨_, rfl⟩
      obtain ⟨vs, rfl⟩ : ∃ vs, v = .agg vs := by cases rv; exact ⟨_, rfl⟩
      obtain ⟨rfl, _, _⟩ := get2 ru
      obtain ⟨rfl, _, _⟩ := get2 rv
      have h3 := h2 htwo
      obtain ⟨e1, e2⟩ := two_run h3 p q p' q' w
      cases op <;> simp only at h <;> (try (cases h; done))
      all_goals
        obtain rfl := Option.some.inj h
        refine ⟨?_, rfl⟩
        rw [Sem.run_bind, show (eqGuard _ t a b (.agg #[.string p, .string q]) (.agg #[.string p', .string q'])).run P w = .ok () w by simp [eqGuard, e2]]
        simp [binOp, e1]
    · cases h
  · cases h
theorem unV_run {op : UnOp} {x : X} {base : Nat} {u : Value} {A : AV} {r : Value} (ru : Rel x base u A) (h : unV op A = some r) (w : World) : (Op.unary op u).run P w = .ok r w ∧ r.oneCell' = true := by
  unfold unV at h
  split at h
  · cases ru
    cases op <;> simp only at h <;> (try (cases h; done))
    obtain rfl := Option.some.inj h
    exact ⟨rfl, rfl⟩
  · cases ru
    cases op <;> simp only at h <;> (try (cases h; done))
    obtain rfl := Option.some.inj h
    exact ⟨rfl, rfl⟩
  · cases h
theorem add0 (b o n : Nat) : (⟨b, o, none⟩ : Addr).add n = ⟨b, o + n, none⟩ := by
  unfold Addr.add
  split
  · simp [*]
  · rfl
theorem run_len_str {t ty : Nat} (h : P.underlying t = some .string) (s : ByteArray) (w : World) : (Builtin.len_ #[t] ty #[.string s]).run P w = .ok (.int .i64 s.size) w := by
  simp [Builtin.len_, run_underlying h, goInt]
theorem run_len_sl {t ty e : Nat} (h : P.underlying t = some (.slice e)) (A : Option Addr) (n c : Nat) (w : World) : (Builtin.len_ #[t] ty #[.slice A n c]).run P w = .ok (.int .i64 n) w := by
  simp [Builtin.len_, run_underlying h, goInt]
theorem run_index_str {t : Nat} (h : P.underlying t = some .string) (s : ByteArray) (k : IntKind) (i : Int) (h0 : 0 ≤ i) (h1 : i < s.size) (w : World) : (Instr.index t (.string s) (.int k i)).run P w = .ok (.int .u8 (bt s i.toNat).toNat) w := by
  have hs : i.toNat < s.size := by omega
  have e : s[i.toNat]? = some s[i.toNat] := by simp [hs]
  have e2 : bt s i.toNat = s[i.toNat] := by
    unfold bt
    have : i.toNat < s.data.toList.length := by simpa using hs
    simp [List.getD, List.getElem?_eq_getElem this]
    rfl
  simp [Instr.index, asIntOf, run_underlying h, h0, hs, e2]
theorem run_indexAt {t e sz : Nat} (h : P.underlying t = some (.slice e)) (hz : szOf P e = some sz) (b o n c : Nat) (k : IntKind) (i : Int) (h0 : 0 ≤ i) (h1 : i < n) (w : World) : (Instr.indexAt t (.slice (some ⟨b, o, none⟩) n c) (.int k i)).run P w = .ok (.pointer (some ⟨b, o + i.toNat * sz, none⟩)) w := by
  simp [Instr.indexAt, asIntOf, run_underlying h, h0, h1, run_szOf hz, add0]
theorem run_fieldAt {t : Nat} {fs : Array Field} {f : Field} {i z : Nat} (h : P.underlying t = some (.struct fs)) (hf : fs[i]? = some f) (hz : szOf P f.type = some z) (h0 : z ≠ 0) (b o : Nat) (w : World) : (Instr.fieldAt t (.pointer (some ⟨b, o, none⟩)) i).run P w = .ok (.pointer (some ⟨b, o + f.offset, none⟩)) w := by
  simp [Instr.fieldAt, run_underlying h, hf, Instr.sureAddr, fieldPlace, run_szOf hz, h0, add0]
end
end Go.Proofs.Ytpopccnnjpdmlaa.Vm
