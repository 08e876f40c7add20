/- Rows of a door seat: graphs, opened. -/
import Derived.Test.YtgegcfhifojjiaaGreatDoorRz
import Derived.Test.YtgegcfhifojjiaaGreatDoorGd
namespace Go.Proofs.YtgegcfhifojjiaaGreatDoor.Vm
open Go Go.RowKit Go.ChangeShapes Go.WideShapes
set_option linter.unusedVariables false
theorem opStr {B : Nat} : OpA B Go.Proofs.Tryz.prog 9 1 (fun s : ByteArray => .lit (.string s)) (fun s => s.size ≤ 9223372036854775807) := OpA.string Go.Proofs.Tryz.underlying9 (by kernel_rfl)
theorem opBool {B : Nat} : OpA B Go.Proofs.Tryz.prog 4 1 (fun b : Bool => .lit (.bool b)) (fun _ => True) := OpA.bool Go.Proofs.Tryz.underlying4 (by kernel_rfl)
theorem opStrs {B : Nat} : OpA B Go.Proofs.Tryz.prog 32 1 (fun xs : List ByteArray => .sl ro 1 (xs.map fun s => .lit (.string s))) (GoodL fun s => s.size ≤ 9223372036854775807) := OpA.slice Go.Proofs.Tryz.underlying32 (by kernel_rfl) opStr (by decide)
theorem opSum {B : Nat} : OpA B Go.Proofs.Tryz.prog 185 2 (fun x : Sm => .agg x.av) Sm.good := by
  have seg := OpSeg.cons (B := B) (P := Go.Proofs.Tryz.prog) (f := ⟨ "Alg", 9, 0, false, "", "", 0⟩) rfl opStr (OpSeg.one (f := ⟨ "Bytes", 9, 1, false, "", "", 16⟩) rfl opStr)
  exact (OpA.struct (B := B) (n := 2) (av := Sm.av) (G := Sm.good) Go.Proofs.Tryz.underlying185 (by kernel_rfl) (fun p : ByteArray × ByteArray => (⟨p.1, p.2⟩ : Sm)) (fun _ => rfl) (fun p h => ⟨h.1, h.2⟩) (fun _ => rfl) seg).less (Nat.le_succ _)
theorem opSums {B : Nat} : OpA B Go.Proofs.Tryz.prog 131 1 (fun xs : List Sm => .sl ro 2 (xs.map fun x => .agg x.av)) (GoodL Sm.good) := OpA.slice Go.Proofs.Tryz.underlying131 (by kernel_rfl) opSum (by decide)
theorem opPack {B : Nat} : OpA B Go.Proofs.Tryz.prog 133 6 (fun x : Pk => .agg x.av) Pk.good := by
  have seg := OpSeg.cons (B := B) (P := Go.Proofs.Tryz.prog) (f := ⟨ "Name", 9, 0, false, "", "", 0⟩) rfl opStr (OpSeg.cons (f := ⟨ "Version", 9, 1, false, "", "", 16⟩) rfl opStr (OpSeg.cons (f := ⟨ "Source", 9, 2, false, "", "", 32⟩) rfl opStr (OpSeg.cons (f := ⟨ "Sums", 131, 3, false, "", "", 48⟩) rfl opSums (OpSeg.cons (f := ⟨ "Dev", 4, 4, false, "", "", 72⟩) rfl opBool (OpSeg.one (f := ⟨ "Needs", 32, 5, false, "", "", 80⟩) rfl opStrs)))))
  exact (OpA.struct (B := B) (n := 6) (av := Pk.av) (G := Pk.good) Go.Proofs.Tryz.underlying133 (by kernel_rfl) (fun p : ByteArray × ByteArray × ByteArray × List Sm × Bool × List ByteArray => (⟨p.1, p.2.1, p.2.2.1, p.2.2.2.1, p.2.2.2.2.1, p.2.2.2.2.2⟩ : Pk)) (fun _ => rfl) (fun p h => ⟨h.1, h.2.1, h.2.2.1, ⟨h.2.2.2.1.1, h.2.2.2.1.2⟩, trivial, ⟨h.2.2.2.2.2.1, h.2.2.2.2.2.2⟩⟩) (fun _ => rfl) seg).less (Nat.le_succ _)
theorem opPacks {B : Nat} : OpA B Go.Proofs.Tryz.prog 33 1 (fun xs : List Pk => .sl ro 6 (xs.map fun x => .agg x.av)) (GoodL Pk.good) := OpA.slice Go.Proofs.Tryz.underlying33 (by kernel_rfl) opPack (by decide)
theorem opGraph {B : Nat} : OpA B Go.Proofs.Tryz.prog 35 2 (fun x : Gr => .agg x.av) Gr.good := by
  have seg := OpSeg.cons (B := B) (P := Go.Proofs.Tryz.prog) (f := ⟨ "Top", 32, 0, false, "", "", 0⟩) rfl opStrs (OpSeg.one (f := ⟨ "Packs", 33, 1, false, "", "", 24⟩) rfl opPacks)
  exact (OpA.struct (B := B) (n := 2) (av := Gr.av) (G := Gr.good) Go.Proofs.Tryz.underlying35 (by kernel_rfl) (fun p : List ByteArray × List Pk => (⟨p.1, p.2⟩ : Gr)) (fun _ => rfl) (fun p h => ⟨⟨h.1.1, h.1.2⟩, h.2.1, h.2.2⟩) (fun _ => rfl) seg).less (Nat.le_succ _)
end Go.Proofs.YtgegcfhifojjiaaGreatDoor.Vm
