/- The walks and laws of this claim: Rz Re. -/
import Derived.Test.YticockdhfglolaaGreatDoorRows
import Derived.Test.YticockdhfglolaaGreatDoorTie
import Derived.Test.YticockdhfglolaaGreatDoorCards
import Derived.Lib.LaidU8
import Derived.LaidLaws
import Derived.LaidMore
import Derived.Lay
import Derived.Handed
import Derived.WalkKit
import Derived.ProofKit
import Derived.OpenShut
import Derived.ShutString
import Derived.ChangeOld
import Derived.ChangeMaps
import Derived.ChangeMaps5
import Derived.SevenTiedAt
import Derived.Stop.Joined
import Derived.Test.YticockdhfglolaaGreatDoorPa7
namespace Go.Proofs.YticockdhfglolaaGreatDoor.Vm
open Go Go.RowKit Go.ChangeShapes Go.WideShapes
set_option linter.unusedVariables false
/-- The kit's builder, the memory's shape handed on. -/
theorem returnsIn_shape {H : Type} {enc : TypeId × Value → H} {a : Assume} {C : Checked} {os : Os} {f : FuncId} {fn : Func} {s : ChangeSpec} {conds : List PathCond} {apart fresh handsOn again : Bool} {X : World → Array Value → Prop}
    (hX : ∀ (w w' : World) (args : Array Value), w.heap = w'.heap → X w args → X w' args)
    (own : ownKnob C.prog.godebug = none) (started : os.Started) (noInit : C.prog.inits.idxOf? f = none) (hfn : C.prog.funcs[f]? = some fn)
    (witness : ∃ (w : World) (tape : Tape) (i : Input), w.os = os ∧ (w.forCall tape i).Shaped C.prog ∧ i.vars = [] ∧ Input.okWide C.prog (w.forCall tape i) .any w.heap.size f i ∧
      ((s.pre enc C.prog fn conds apart (w.forCall tape i).memory i.args ∧ X (w.forCall tape i).memory i.args) ∧ sizedMet enc C.prog fn (OpenSpec.ofChange s) apart (w.forCall tape i).memory i.args) ∧ a.holds C.prog (lone (Frame.enter C.prog f i.args .normal) [] (w.forCall tape i)))
    (contract : ∀ (W : World) (base : Nat) (args : Array Value) (ds gs : List (DataW H)) (before : List MemPlace),
      (∀ (j : Nat) t v, fn.params[j]? = some t → args[j]? = some v → Value.okWide C.prog W .any base t v) →
      DataW.Whole enc C.prog fn.params.toList s.vars apart W args.toList ds gs before →
      X W args → W.ShapedOpen C.prog →
      Calls C.prog f args W fun e W' => ∃ v, e = .returned v ∧ s.post enc C.prog fn apart fresh handsOn again W args v W') :
    ReturnsInHanded a C os f .any (fun w args => (s.pre enc C.prog fn conds apart w args ∧ X w args) ∧ sizedMet enc C.prog fn (OpenSpec.ofChange s) apart w args) (s.post enc C.prog fn apart fresh handsOn again) := by
  refine returnsInHanded_of_calls own started noInit witness ?_
  intro w tape i _ hsh _ hok hpre hholds
  obtain ⟨_, _, _, fn', hfn', _, _, _, _, hval⟩ := hok
  have e : fn' = fn := Option.some.inj (hfn'.symm.trans hfn)
  subst e
  obtain ⟨⟨⟨ds, gs, before, hw, hc⟩, hx⟩, hz⟩ := hpre
  have hw' := DataW.Whole.of_heap (w' := w.forCall tape i) (by rfl) hw
  refine (contract (w.forCall tape i) w.heap.size i.args ds gs before hval hw' (hX _ _ _ (by rfl) hx) hsh).mono fun e W' ⟨v, he, hp⟩ => ?_
  subst he
  exact ChangeSpec.post_blind hp
theorem own : ownKnob Go.Proofs.Tryz.prog.godebug = none := by kernel_rfl
theorem laidOut : laidOutB Go.Proofs.Tryz.prog = true := by kernel_rfl
/-- the world as it was when the call began -/
noncomputable def EW (W : World) : Env := ⟨Go.Proofs.Tryz.prog, fun w => W.heap.size ≤ w.heap.size ∧ ∀ k, k < W.heap.size → w.heap[k]? = W.heap[k]?, W.heap.size, fun w w' h1 h2 h3 => ⟨Nat.le_trans h3.1 h1, fun k hk => (h2 k hk).trans (h3.2 k hk)⟩, fun w h => h.1, by kernel_rfl⟩
theorem EW_self (W : World) : (EW W).K W := ⟨Nat.le_refl _, fun _ _ => rfl⟩
set_option maxRecDepth 100000 in
theorem beg0 : (((begin Go.Proofs.Tryz.prog (fun _ _ => 0) default).world.heap[0]?).bind Obj.row?) = some (#[.int .i64 0], 3) := by kernel_rfl
set_option linter.constructorNameAsVariable false in
theorem maxl_of_shape {W : World} (h : W.ShapedOpen Go.Proofs.Tryz.prog) : ∃ m, W.cell? ⟨0, 0, none⟩ = some (.int .i64 m) := by
  obtain ⟨cs, h1, h2, h3⟩ := h.1 0 _ _ (of_decide_eq_true (by kernel_rfl)) beg0
  obtain ⟨ts, t1, ⟨n, t2⟩, t3⟩ := h3 (by kernel_rfl)
  have hz : cs.size = 1 := h2
  obtain ⟨u, u1, u2⟩ := t3 0 cs[0] (Array.getElem?_eq_getElem (by omega))
  have hts : Go.Proofs.Tryz.prog.cellTypes Go.Proofs.Tryz.prog.depth 3 = some [3] := by kernel_rfl
  obtain rfl := Option.some.inj (hts.symm.trans t1)
  have hu : u = 3 := by simpa using u1.symm
  subst hu
  have hun : Go.Proofs.Tryz.prog.underlying 3 = some (.int .i64) := by kernel_rfl
  unfold Cell.ok at u2
  rw [hun] at u2
  have hc : W.cell? ⟨0, 0, none⟩ = some cs[0] := by
    simp [World.cell?, h1, Array.getElem?_eq_getElem (show 0 < cs.size by omega)]
  rw [hc]
  generalize cs[0] = v at u2
  cases v <;> simp at u2
  obtain ⟨rfl, _⟩ := u2
  exact ⟨_, rfl⟩
theorem pow_of_reads {W : World} (h : Lib.VarReads Go.Proofs.Tryz.prog W "internal/strconv.uint64pow10" Rows.laid_internal_strconv_uint64pow10) : Lib.TabIs Go.Proofs.Tryz.prog W "internal/strconv.uint64pow10" .u64 Lib.pow10Tab := by
  obtain ⟨g, t, cs, fuel, p, hg, ht, hv, hd⟩ := h
  obtain rfl := Option.some.inj (gPow.symm.trans hg)
  obtain rfl := Option.some.inj ((show (Go.Proofs.Tryz.prog.globals[5]?).map (·.type) = some 247 by kernel_rfl).symm.trans ht)
  have hu : Go.Proofs.Tryz.prog.underlying 247 = some (.array 20 150) := by kernel_rfl
  have he : Go.Proofs.Tryz.prog.underlying 150 = some (.int .u64) := by kernel_rfl
  have hce : Go.Proofs.Tryz.prog.cellsOf 150 = 1 := by kernel_rfl
  have hct : Go.Proofs.Tryz.prog.cellsOf 247 = 20 := by kernel_rfl
  have hl : Rows.laid_internal_strconv_uint64pow10 = (Lib.tabData .u64 Lib.pow10Tab : DataW Unit) := by rfl
  rw [hl] at hd
  have := Lib.cells_of_tab hu he hce hct hd
  unfold Lib.TabIs
  rw [hv, ← this]
theorem err_of_reads {W : World} {name s : String} {d : DataW Unit} {g : Nat} (h : Lib.VarReads Go.Proofs.Tryz.prog W name (.iface s d)) (hg : Go.Proofs.Tryz.prog.globalNamed name = some g) (ht : (Go.Proofs.Tryz.prog.globals[g]?).map (·.type) = some 121) : ∃ t p, W.cell? ⟨g, 0, none⟩ = some (.iface t p) := by
  obtain ⟨g', t, cs, fuel, p, hg', ht', hv, hd⟩ := h
  obtain rfl := Option.some.inj (hg.symm.trans hg')
  obtain rfl := Option.some.inj (ht.symm.trans ht')
  have hu : Go.Proofs.Tryz.prog.underlying 121 = some (.interface #[("Error", 74)]) := by kernel_rfl
  obtain ⟨_, u, v, hcs, _⟩ := iface_of_trod hu hd
  refine ⟨u, v, ?_⟩
  rw [World.var?_cell hg hv 0, ← Array.getElem?_toList, hcs]
  rfl
theorem KZ_of {W : World} {l : List (String × DataW Unit)} (hL : laidMet Go.Proofs.Tryz.prog l W) (hS : W.ShapedOpen Go.Proofs.Tryz.prog) (h1 : ("internal/strconv.uint64pow10", Rows.laid_internal_strconv_uint64pow10) ∈ l) (h2 : ("strconv.ErrRange", Rows.laid_strconv_ErrRange) ∈ l) (h3 : ("strconv.ErrSyntax", Rows.laid_strconv_ErrSyntax) ∈ l) : KZ W :=
  ⟨pow_of_reads (Lib.laidMet.reads hL h1), maxl_of_shape hS, err_of_reads (Lib.laidMet.reads hL h3) (by kernel_rfl) (by kernel_rfl), err_of_reads (Lib.laidMet.reads hL h2) (by kernel_rfl) (by kernel_rfl)⟩
theorem KZ_EW {W : World} (h : KZ W) : ∀ w, (EW W).K w → KZ w := fun w hw => h.keep fun k hk => hw.2 k (by have := h.size; omega)
end Go.Proofs.YticockdhfglolaaGreatDoor.Vm
namespace Go.Proofs.YticockdhfglolaaGreatDoor.Vm
open Go Go.RowKit Go.ChangeShapes Go.WideShapes
set_option linter.unusedVariables false
theorem opStr {B : Nat} : OpA B Go.Proofs.Tryz.prog 9 1 (fun s : ByteArray => .lit (.string s)) (fun s => s.size ≤ 9223372036854775807) := OpA.string Go.Proofs.Tryz.underlying9 (by kernel_rfl)
theorem opNeed {B : Nat} : OpA B Go.Proofs.Tryz.prog 152 2 (fun x : Nd => .agg x.av) Nd.good := by
  have seg := OpSeg.cons (B := B) (P := Go.Proofs.Tryz.prog) (f := ⟨ "Name", 9, 0, false, "", "", 0⟩) rfl opStr (OpSeg.one (f := ⟨ "Range", 9, 1, false, "", "", 16⟩) rfl opStr)
  exact (OpA.struct (B := B) (n := 2) (av := Nd.av) (G := Nd.good) Go.Proofs.Tryz.underlying152 (by kernel_rfl) (fun p : ByteArray × ByteArray => (⟨p.1, p.2⟩ : Nd)) (fun _ => rfl) (fun p h => ⟨h.1, h.2⟩) (fun _ => rfl) seg).less (Nat.le_succ _)
theorem opNeeds {B : Nat} : OpA B Go.Proofs.Tryz.prog 62 1 (fun xs : List Nd => .sl ro 2 (xs.map fun x => .agg x.av)) (GoodL Nd.good) := OpA.slice Go.Proofs.Tryz.underlying62 (by kernel_rfl) opNeed (by decide)
theorem opEntry {B : Nat} : OpA B Go.Proofs.Tryz.prog 64 5 (fun x : En => .agg x.av) En.good := by
  have seg := OpSeg.cons (B := B) (P := Go.Proofs.Tryz.prog) (f := ⟨ "Heads", 62, 0, false, "", "", 0⟩) rfl opNeeds (OpSeg.cons (f := ⟨ "Version", 9, 1, false, "", "", 24⟩) rfl opStr (OpSeg.cons (f := ⟨ "Resolved", 9, 2, false, "", "", 40⟩) rfl opStr (OpSeg.cons (f := ⟨ "Integrity", 9, 3, false, "", "", 56⟩) rfl opStr (OpSeg.one (f := ⟨ "Needs", 62, 4, false, "", "", 72⟩) rfl opNeeds))))
  exact (OpA.struct (B := B) (n := 5) (av := En.av) (G := En.good) Go.Proofs.Tryz.underlying64 (by kernel_rfl) (fun p : List Nd × ByteArray × ByteArray × ByteArray × List Nd => (⟨p.1, p.2.1, p.2.2.1, p.2.2.2.1, p.2.2.2.2⟩ : En)) (fun _ => rfl) (fun p h => ⟨⟨h.1.1, h.1.2⟩, h.2.1, h.2.2.1, h.2.2.2.1, h.2.2.2.2.1, h.2.2.2.2.2⟩) (fun _ => rfl) seg).less (Nat.le_succ _)
theorem opEntries {B : Nat} : OpA B Go.Proofs.Tryz.prog 40 1 (fun xs : List En => .sl ro 5 (xs.map fun x => .agg x.av)) (GoodL En.good) := OpA.slice Go.Proofs.Tryz.underlying40 (by kernel_rfl) opEntry (by decide)
end Go.Proofs.YticockdhfglolaaGreatDoor.Vm
