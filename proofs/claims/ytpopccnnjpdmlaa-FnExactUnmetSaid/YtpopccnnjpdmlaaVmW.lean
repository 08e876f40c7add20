/- An abstract machine over values: a region with drawn orders. -/
import Derived.Test.YtpopccnnjpdmlaaVmV
namespace Go.Proofs.Ytpopccnnjpdmlaa.Vm
open Go Go.RowKit
set_option linter.unusedVariables false
set_option linter.unusedSimpArgs false
/-- i comes behind j -/
def anc (ops : Array Oper) : Nat → Nat → Nat → Bool
  | 0, _, _ => false
  | f + 1, i, j => match ops[i]? with
    | some o => o.after.any fun e => Region.binds .any e && (e.on == j || anc ops f e.on j)
    | none => false
def VK.late : VK → Bool
  | .as _ | .st _ _ _ => true
  | _ => false
def apartD (A B : VO) : Bool := (match A.d, B.d with | some a, some b => a != b | _, _ => true) || (A.k.late && B.k.late)
def chkR (ops : Array Oper) (os : List VO) : Bool :=
  (List.range os.length).all fun i => match ops[i]?, os[i]? with
    | some o, some B => (o.after.all fun e => !Region.binds .any e || decide (e.on < i)) && (List.range i).all fun j => match os[j]? with
      | some A => apartD A B && (anc ops ops.size i j || comm A B)
      | none => false
    | _, _ => false
def vL (E : Env) (os : List VO) : List Nat → AS → (AS → Prop) → Prop
  | [], s, Q => Q s
  | i :: L, s, Q => ∃ o, os[i]? = some o ∧ vop E o s fun s' => vL E os L s' Q
section
variable {E : Env} {x0 x : X} {w0 w : World} {pb nt : Nat} {a : Act} {s : AS} {os : List VO} {ops : Array Oper}
theorem vL_of : ∀ (l : List VO) (k : Nat) (s : AS) (Q : AS → Prop), os.drop k = l → vops E l s Q → vL E os (List.range' k l.length) s Q
  | [], k, s, Q, _, h => h
  | o :: l, k, s, Q, hd, h => by
    simp only [List.length_cons, List.range'_succ, vL]
    have h0 : os[k]? = some o := by
      have := congrArg (·[0]?) hd
      simpa using this
    refine ⟨o, h0, vop_mono h fun s' hs' _ => vL_of l (k + 1) s' Q ?_ hs'⟩
    rw [← List.drop_drop, hd]
    rfl
theorem apartD_late {A B : VO} (h : apartD A B = true) {s s' : AS} (hk : Keep s s' A.d) (hB : tmpOk s B = true) : tmpOk s' B = true := by
  have core : ∀ t, B.d = some t → B.k.late = false → (isUn (s.get t) && isNone (look s.bxs (1000 + t))) = true → (isUn (s'.get t) && isNone (look s'.bxs (1000 + t))) = true := by
    intro t hd hnl hB
    simp only [Bool.and_eq_true] at hB ⊢
    have hne : A.d ≠ some t := by
      intro e
      unfold apartD at h
      rw [e, hd, hnl] at h
      simp at h
    refine ⟨?_, ?_⟩
    · have h1 : s.get t = .un := by
        have := hB.1
        cases hs : s.get t <;> rw [hs] at this <;> first | rfl | cases this
      rw [hk.1 t hne h1]; rfl
    · have h1 : look s.bxs (1000 + t) = none := by
        have := hB.2
        cases hs : look s.bxs (1000 + t) <;> rw [hs] at this <;> first | rfl | cases this
      rw [hk.2 t hne h1]; rfl
  obtain ⟨d, k, g⟩ := B
  unfold tmpOk at hB ⊢
  cases k with
  | as x => rfl
  | st sz a x => rfl
  | _ =>
    cases d with
    | none => rfl
    | some t => exact core t rfl rfl hB
theorem front {i : Nat} {B : VO} (hB : os[i]? = some B) : ∀ (L1 L2 : List Nat) (s : AS) (Q : AS → Prop), vL E os (L1 ++ i :: L2) s Q → (∀ j ∈ L1, ∀ A, os[j]? = some A → comm A B = true) → (∀ j ∈ L1, ∀ A, os[j]? = some A → tmpOk s A = true) → (L1.Pairwise fun j k => ∀ A C, os[j]? = some A → os[k]? = some C → apartD A C = true) → vop E B s fun s' => vL E os (L1 ++ L2) s' Q
  | [], L2, s, Q, h, _, _, _ => by
    obtain ⟨o, ho, h⟩ := h
    rw [hB] at ho
    obtain rfl := Option.some.inj ho
    exact h
  | j :: L1, L2, s, Q, h, hc, ht, hp => by
    obtain ⟨A, hA, h⟩ := h
    rw [List.pairwise_cons] at hp
    have h2 : vop E A s fun s1 => vop E B s1 fun s2 => vL E os (L1 ++ L2) s2 Q := vop_mono h fun s1 h1 hk => front hB L1 L2 s1 Q h1 (fun k hk => hc k (List.mem_cons_of_mem _ hk)) (fun k hkm C hC => apartD_late (hp.1 k hkm A C hA hC) hk (ht k (List.mem_cons_of_mem _ hkm) C hC)) hp.2
    exact vop_mono (swap (hc j List.mem_cons_self A hA) (ht j List.mem_cons_self A hA) h2) fun s' h' _ => ⟨A, hA, h'⟩
def Closed (ops : Array Oper) (listed : Array Bool) : Prop := ∀ (i : Nat) (o : Oper), listed.getD i false = true → ops[i]? = some o → ∀ e ∈ o.after, Region.binds .any e = true → listed.getD e.on false = true
theorem anc_listed {listed : Array Bool} (hc : Closed ops listed) : ∀ (f i j : Nat), (∀ o, ops[i]? = some o → ∀ e ∈ o.after, Region.binds .any e = true → listed.getD e.on false = true) → anc ops f i j = true → listed.getD j false = true
  | 0, _, _, _, h => by cases h
  | f + 1, i, j, hi, h => by
    simp only [anc] at h
    cases ho : ops[i]? with
    | none => rw [ho] at h; cases h
    | some o =>
      rw [ho] at h
      obtain ⟨e, he, hb⟩ := Array.any_eq_true'.1 h
      simp only [Bool.and_eq_true, Bool.or_eq_true, beq_iff_eq] at hb
      have hl := hi o ho e he hb.1
      rcases hb.2 with e' | e'
      · rw [← e']; exact hl
      · exact anc_listed hc f e.on j (fun o' ho' => hc e.on o' hl ho') e'
theorem getD_tf {listed : Array Bool} {j : Nat} (hj : j < listed.size) : listed.getD j true = listed.getD j false := by
  simp [Array.getD, hj]
theorem St.drew (h : St E x0 w0 pb nt x a w s) (n : Nat) : St E x0 w0 pb nt x a { w with drawn := n } s :=
  { h with fr := h.fr, ag := h.ag, bxs := h.bxs, tl := h.tl }
theorem any_sound (hK : ∀ n, n < pb → E.ng ≤ x0.bx n) (hops : cReg E.P true nt ops ops.toList = some os) (hchk : chkR ops os = true) {Q : AS → Prop} {QQ : Exit → Act → World → Prop} (hQ : ∀ a w, Next2 E x0 w0 pb nt Q a w → QQ .normal a w) :
    ∀ (fuel : Nat) (listed : Array Bool) (L : List Nat) (x : X) (a : Act) (w : World) (s : AS), listed.size = ops.size → L = (List.range ops.size).filter (fun i => !listed.getD i true) → L.length ≤ fuel → Closed ops listed → vL E os L s Q → (∀ i ∈ L, ∀ o, os[i]? = some o → tmpOk s o = true) → St E x0 w0 pb nt x a w s → wpAny E.P .any ops QQ fuel listed a w := by
  obtain ⟨hlen, hspec⟩ := cReg_spec hops
  have hlen' : os.length = ops.size := by rw [hlen]; simp
  have chk : ∀ (i : Nat) (o : Oper) (B : VO), ops[i]? = some o → os[i]? = some B → (∀ e ∈ o.after, Region.binds .any e = true → e.on < i) ∧ ∀ j, j < i → ∀ A, os[j]? = some A → apartD A B = true ∧ (anc ops ops.size i j = true ∨ comm A B = true) := by
    intro i o B ho hB
    have hlt : i < os.length := (List.getElem?_eq_some_iff.1 hB).1
    have h := List.all_eq_true.1 hchk i (List.mem_range.2 hlt)
    rw [ho, hB] at h
    simp only [Bool.and_eq_true] at h
    refine ⟨fun e he hb => ?_, fun j hj A hA => ?_⟩
    · have := Array.all_eq_true_iff_forall_mem.1 h.1 e he
      rw [hb] at this
      simpa using this
    · have := List.all_eq_true.1 h.2 j (List.mem_range.2 hj)
      rw [hA] at this
      simpa only [Bool.and_eq_true, Bool.or_eq_true] using this
  have inL : ∀ (listed : Array Bool) (i : Nat), i ∈ (List.range ops.size).filter (fun i => !listed.getD i true) ↔ i < ops.size ∧ listed.getD i true = false := by
    intro listed i; rw [List.mem_filter, List.mem_range]; simp
  have main : ∀ (fuel : Nat) (listed : Array Bool) (L : List Nat) (x : X) (a : Act) (w : World) (s : AS), listed.size = ops.size → L = (List.range ops.size).filter (fun i => !listed.getD i true) → L.length ≤ fuel → Closed ops listed → vL E os L s Q → (∀ i ∈ L, ∀ o, os[i]? = some o → tmpOk s o = true) → St E x0 w0 pb nt x a w s → (Region.ready .any ops listed = [] → L = []) ∧ ∀ i ∈ Region.ready .any ops listed, ∃ L', wpOp E.P ops QQ i (fun a' w' => ∃ x' s', vL E os L' s' Q ∧ (∀ i ∈ L', ∀ o, os[i]? = some o → tmpOk s' o = true) ∧ St E x0 w0 pb nt x' a' w' s') a w ∧ L' = (List.range ops.size).filter (fun k => !(listed.setIfInBounds i true).getD k true) ∧ L'.length + 1 = L.length ∧ Closed ops (listed.setIfInBounds i true) := by
    intro fuel listed L x a w s hsz hL hfu hcl hv ht h
    have hsort : L.Pairwise (· < ·) := by rw [hL]; exact List.Pairwise.filter _ List.pairwise_lt_range
    have hmem : ∀ i, i ∈ L ↔ i < ops.size ∧ listed.getD i true = false := fun i => by rw [hL]; exact inL listed i
    refine ⟨fun hr => ?_, fun i hi => ?_⟩
    · cases L with
      | nil => rfl
      | cons m L' =>
        exfalso
        have hm := (hmem m).1 List.mem_cons_self
        have ho : ops[m]? = some ops[m] := Array.getElem?_eq_getElem hm.1
        obtain ⟨B, hB⟩ : ∃ B, os[m]? = some B := ⟨_, List.getElem?_eq_getElem (by omega)⟩
        have hin : m ∈ Region.ready .any ops listed := by
          rw [mem_ready]
          refine ⟨hm.2, _, ho, fun e he hb => ?_⟩
          have hlt := (chk m _ B ho hB).1 e he hb
          cases hd : listed.getD e.on true with
          | true => rw [← getD_tf (by omega)]; exact hd
          | false =>
            have hin : e.on ∈ m :: L' := (hmem e.on).2 ⟨by omega, hd⟩
            rw [List.pairwise_cons] at hsort
            rcases List.mem_cons.1 hin with e1 | e1
            · omega
            · have := hsort.1 _ e1; omega
        rw [hr] at hin; cases hin
    · obtain ⟨hun, o, ho, haft⟩ := mem_ready.1 hi
      have hisz : i < ops.size := (Array.getElem?_eq_some_iff.1 ho).1
      obtain ⟨B, hB⟩ : ∃ B, os[i]? = some B := ⟨_, List.getElem?_eq_getElem (by omega)⟩
      have hiL : i ∈ L := (hmem i).2 ⟨hisz, hun⟩
      obtain ⟨L1, L2, hsplit⟩ := List.append_of_mem hiL
      have hbefore : ∀ j ∈ L1, j < i := by
        intro j hj
        rw [hsplit, List.pairwise_append] at hsort
        exact hsort.2.2 j hj i List.mem_cons_self
      have hafter : ∀ j ∈ L2, i < j := by
        intro j hj
        rw [hsplit, List.pairwise_append, List.pairwise_cons] at hsort
        exact hsort.2.1.1 j hj
      have hcomm : ∀ j ∈ L1, ∀ A, os[j]? = some A → comm A B = true := by
        intro j hj A hA
        rcases ((chk i o B ho hB).2 j (hbefore j hj) A hA).2 with e | e
        · exfalso
          have hl := anc_listed hcl ops.size i j (fun o' ho' => by rw [ho] at ho'; obtain rfl := Option.some.inj ho'; exact haft) e
          have hjL := (hmem j).1 (by rw [hsplit]; exact List.mem_append_left _ hj)
          rw [getD_tf (by omega), hl] at hjL
          cases hjL.2
        · exact e
      have hpw : L.Pairwise fun j k => ∀ A C, os[j]? = some A → os[k]? = some C → apartD A C = true := by
        refine hsort.imp ?_
        intro j k hjk A C hA hC
        have hk : k < os.length := (List.getElem?_eq_some_iff.1 hC).1
        exact ((chk k ops[k] C (Array.getElem?_eq_getElem (by omega)) hC).2 j hjk A hA).1
      have hfront := front (E := E) hB L1 L2 s Q (by rw [← hsplit]; exact hv) hcomm (fun j hj A hA => ht j (by rw [hsplit]; exact List.mem_append_left _ hj) A hA) (by rw [hsplit, List.pairwise_append] at hpw; exact hpw.1)
      have his : IsOp E.P true nt ops o B := hspec i o B (by rw [Array.getElem?_toList]; exact ho) hB
      refine ⟨L1 ++ L2, ?_, ?_, by rw [hsplit]; simp; omega, ?_⟩
      · have hk : vop E B s fun s' => vL E os (L1 ++ L2) s' Q ∧ ∀ i ∈ L1 ++ L2, ∀ o, os[i]? = some o → tmpOk s' o = true := by
          refine vop_mono hfront fun s' hs' hkeep => ⟨hs', fun k hk C hC => ?_⟩
          have hkL : k ∈ L := by
            rw [hsplit]
            rcases List.mem_append.1 hk with e | e
            · exact List.mem_append_left _ e
            · exact List.mem_append_right _ (List.mem_cons_of_mem _ e)
          have hap : apartD B C = true := by
            rcases List.mem_append.1 hk with e | e
            · have h1 := ((chk i o B ho hB).2 k (hbefore k e) C hC).1
              unfold apartD at h1 ⊢
              cases hB' : B.d <;> cases hC' : C.d <;> rw [hB', hC'] at h1 <;> simp only [Bool.true_or, Bool.or_eq_true, bne_iff_ne, ne_eq, Bool.and_eq_true] at h1 ⊢
              rcases h1 with h1 | h1
              · exact .inl fun e => h1 e.symm
              · exact .inr ⟨h1.2, h1.1⟩
            · have hk' : k < os.length := (List.getElem?_eq_some_iff.1 hC).1
              exact ((chk k ops[k] C (Array.getElem?_eq_getElem (by omega)) hC).2 i (hafter k e) B hB).1
          exact apartD_late hap hkeep (ht k hkL C hC)
        refine wpOp_mono (fun a' w' hn => ?_) (vop_sound h hK ho his hk)
        obtain ⟨x', s', ⟨h1, h2⟩, h3⟩ := hn
        exact ⟨x', s', h1, h2, h3⟩
      · have h1 : (List.range ops.size).filter (fun k => !(listed.setIfInBounds i true).getD k true) = L.filter fun k => k != i := by
          rw [hL, List.filter_filter]
          refine List.filter_congr fun k hk => ?_
          by_cases e : i = k
          · subst e
            simp [Array.getD, hsz, hisz]
          · rw [getD_set_ne true e]
            have : (k != i) = true := by simpa using fun e' => e e'.symm
            rw [this, Bool.true_and]
        rw [h1, hsplit, List.filter_append, List.filter_cons_of_neg (by simp)]
        rw [List.filter_eq_self.2 (fun k hk => by have := hbefore k hk; simp; omega), List.filter_eq_self.2 (fun k hk => by have := hafter k hk; simp; omega)]
      · intro k ok hk hok e he hb
        by_cases eik : i = k
        · subst eik
          rw [ho] at hok
          obtain rfl := Option.some.inj hok
          exact getD_set_true (haft e he hb)
        · rw [getD_set_ne false eik] at hk
          exact getD_set_true (hcl k ok hk hok e he hb)
  intro fuel
  induction fuel with
  | zero =>
    intro listed L x a w s hsz hL hfu hcl hv ht h
    have hnil : L = [] := List.eq_nil_of_length_eq_zero (by omega)
    have hr : Region.ready .any ops listed = [] := by
      cases hr : Region.ready .any ops listed with
      | nil => rfl
      | cons i r =>
        exfalso
        obtain ⟨hun, o, ho, _⟩ := mem_ready.1 (show i ∈ Region.ready .any ops listed by rw [hr]; exact List.mem_cons_self)
        have : i ∈ L := by rw [hL]; exact (inL listed i).2 ⟨(Array.getElem?_eq_some_iff.1 ho).1, hun⟩
        rw [hnil] at this; cases this
    subst hnil
    exact ⟨hr, hQ a w ⟨x, s, hv, h⟩⟩
  | succ fuel ih =>
    intro listed L x a w s hsz hL hfu hcl hv ht h
    obtain ⟨m1, m2⟩ := main (fuel + 1) listed L x a w s hsz hL hfu hcl hv ht h
    refine ⟨fun hr => ?_, fun i hi => ?_⟩
    · have := m1 hr
      subst this
      exact hQ a w ⟨x, s, hv, h⟩
    · obtain ⟨L', h1, h2, h3, h4⟩ := m2 i hi
      refine wpOp_mono (fun a' w' hn => ?_) h1
      obtain ⟨x', s', g1, g2, g3⟩ := hn
      exact ih _ L' x' a' w' s' (by simpa using hsz) h2 (by omega) h4 g1 g2 g3
theorem draw_sound (hK : ∀ n, n < pb → E.ng ≤ x0.bx n) (id : Nat) (ops : Array Oper) (os : List VO) (Q : AS → Prop) (x : X) (a : Act) (w : World) (s : AS) (hops : cReg E.P true nt ops ops.toList = some os) (hchk : chkR ops os = true) (ht : os.all (tmpOk s) = true) (hv : vops E os s Q) (h : St E x0 w0 pb nt x a w s) : (Code.region id ops true).wp E.P (CQ E x0 w0 pb nt fun e s => e = .normal ∧ Q s) a w := by
  obtain ⟨hlen, _⟩ := cReg_spec hops
  have hlen' : os.length = ops.size := by rw [hlen]; simp
  refine wp_region_any E.mixed ?_
  have hno : ∀ k, k < ops.size → (Array.replicate ops.size false).getD k true = false := fun k hk => by simp [Array.getD, hk]
  refine any_sound (Q := Q) hK hops hchk (fun a w hn => ?_) ops.size _ (List.range ops.size) x a _ s (by simp) ?_ (by simp) ?_ ?_ ?_ (h.drew _)
  · obtain ⟨x', s', h1, h2⟩ := hn
    exact ⟨x', s', ⟨rfl, h1⟩, h2⟩
  · exact (List.filter_eq_self.2 fun k hk => by rw [hno k (List.mem_range.1 hk)]; rfl).symm
  · intro i o hi ho
    rw [Array.getD_eq_getD_getElem?, Array.getElem?_replicate] at hi
    split at hi <;> cases hi
  · have := vL_of (E := E) (os := os) os 0 s Q rfl hv
    rw [hlen', ← List.range_eq_range'] at this
    exact this
  · intro i hi o ho
    exact List.all_eq_true.1 ht o (List.mem_of_getElem? ho)
end
end Go.Proofs.Ytpopccnnjpdmlaa.Vm
