/- An abstract machine over values: its code, read off the program's, and what the code asks. -/
import Derived.Test.YtpopccnnjpdmlaaVmA
namespace Go.Proofs.Ytpopccnnjpdmlaa.Vm
open Go Go.RowKit
set_option linter.unusedVariables false
set_option linter.unusedSimpArgs false
inductive Od where
  | t (n : Nat)
  | c (x : AV)
inductive VK where
  | mv (x : Od)
  | as (x : Od)
  | pick (c a b : Od)
  | bin (op : BinOp) (ty : Nat) (x y : Od)
  | un (op : UnOp) (x : Od)
  | len (str : Bool) (x : Od)
  | idx (x i : Od)
  | ia (sz : Nat) (x i : Od)
  | fa (off : Nat) (x : Od)
  | ld (ag : Bool) (sz : Nat) (x : Od)
  | st (sz : Nat) (a x : Od)
  | box (sz : Nat) (x : Od)
  | alloc (z : AV)
  | bld (z : List AV) (ps : List (Nat × Nat × Od))
  | bsl (sz : Nat) (xs : List Od)
  | slS (x : Od) (lo hi : Option Od)
  | slL (sz : Nat) (x : Od) (lo hi : Option Od)
  | app (sz : Nat) (byt : Nat) (x y : Od)
  | mks (sz : Nat) (byt : Nat) (z : AV) (n : Od)
  | ext (x : Od) (i : Nat)
  | call (q : Bool) (f : Nat) (as : List Od)
  | callv (q : Bool) (x : Od) (as : List Od)
  | mkf (f : Nat) (as : List Od)
  | cvI (k : IntKind) (x : Od)
  | b2s (x : Od)
  | cvS (x : Od)
  | isn (neg : Bool) (x : Od)
  | slM (sz : Nat) (x : Od)
structure VO where
  d : Option Nat
  k : VK
  g : Option (Nat × Bool)
inductive VC where
  | skip
  | ret
  | exit (n : Nat)
  | seq (a b : VC)
  | cond (c : Od) (a b : VC)
  | block (n : Nat) (c : VC)
  | loop (c : VC)
  | reg (drw : Bool) (os : List VO) (dr : List Nat)
inductive VR where
  | t (n : Nat)
  | b (n : Nat) (ag : Bool) (sz : Nat)
structure VF where
  nt : Nat
  body : VC
  rs : List VR
def AV.ofC : Value → AV
  | .slice none 0 0 => .sl ⟨.nl, true⟩ 1 []
  | v => if v.oneCell' then .lit v else .un
def AV.ofV : Value → AV
  | .agg cs => .agg (cs.toList.map AV.ofC)
  | v => AV.ofC v
def od : Operand → Option Od
  | .tmp t => some (.t t)
  | .const v => some (.c (AV.ofV v))
  | .func f => some (.c (.fn f []))
  | .global _ => none
def ods : List Operand → Option (List Od)
  | [] => some []
  | x :: l => (od x).bind fun a => (ods l).bind fun r => some (a :: r)
def szOf (P : Program) (t : TypeId) : Option Nat := (P.info? t).map (·.size)
def agOf (P : Program) (t : TypeId) : Option Bool := (P.underlying t).map fun | .struct _ => true | .array _ _ => true | _ => false
def elOf (P : Program) (t : TypeId) : Option TypeId := (P.underlying t).bind fun | .slice e => some e | _ => none
def zeroOf (P : Program) (t : TypeId) : Option Value := (P.info? t).bind (·.zero)
def twoStr (P : Program) (t : TypeId) : Bool := match P.underlying t with
  | some (.struct fs) => match fs.toList with
    | [a, b] => (a.offset == 0) && (b.offset == 1) && a.name != "_" && b.name != "_" && (match P.underlying a.type, P.underlying b.type with | some .string, some .string => true | _, _ => false) && !P.stoodInHeld t && !P.eqGuardType P.depth t
    | _ => false
  | _ => false
def boolT (P : Program) (t : TypeId) : Bool := match P.underlying t with | some .bool => true | _ => false
def places (P : Program) : List Field → Option (List (Nat × Nat))
  | [] => some []
  | f :: l => (szOf P f.type).bind fun s => (places P l).bind fun r => some ((f.offset, s) :: r)
def bparts (pl : List (Nat × Nat)) : List (Nat × Operand) → Option (List (Nat × Nat × Od))
  | [] => some []
  | (i, x) :: l => (pl[i]?).bind fun p => (od x).bind fun a => (bparts pl l).bind fun r => some ((p.1, p.2, a) :: r)
def sparts (i : Nat) : List (Nat × Operand) → Option (List Od)
  | [] => some []
  | (j, x) :: l => if j = i then (od x).bind fun a => (sparts (i + 1) l).bind fun r => some (a :: r) else none
def oo : Option Operand → Option (Option Od)
  | none => some none
  | some x => (od x).bind fun a => some (some a)
def strT (P : Program) (t : TypeId) : Bool := match P.underlying t with | some .string => true | _ => false
def fnOk (P : Program) (f : Nat) : Bool := ((P.funcs[f]?).map fun fn => fn.body.isSome && fn.name != "runtime.NumGoroutine").getD false
/-- a slice is compared with nil: 'true' for 'is not' -/
def nilC (P : Program) (op : BinOp) (t : TypeId) : Operand → Option Bool
  | .const (.slice none 0 0) => if (elOf P t).isSome then (match op with | .eql => some false | .neq => some true | _ => none) else none
  | _ => none
def cOp (P : Program) (q : Bool) : Op → Option VK
  | .move x => (od x).bind fun a => some (.mv a)
  | .assign x => (od x).bind fun a => some (.as a)
  | .pick c a b => (od c).bind fun c => (od a).bind fun a => (od b).bind fun b => some (.pick c a b)
  | .binOp op t x y _ => (nilC P op t y).elim ((od x).bind fun x => (od y).bind fun y => some (.bin op (if twoStr P t then 1 else if boolT P t then 2 else 0) x y)) fun neg => (od x).bind fun x => some (.isn neg x)
  | .unOp op _ x => (od x).bind fun x => some (.un op x)
  | .index t x i => if strT P t then (od x).bind fun x => (od i).bind fun i => some (.idx x i) else none
  | .indexAddr t x i => (elOf P t).bind fun e => (szOf P e).bind fun s => (od x).bind fun x => (od i).bind fun i => some (.ia s x i)
  | .fieldAddr t x f => match P.underlying t with
    | some (.struct fs) => (fs[f]?).bind fun f => (szOf P f.type).bind fun z => if z = 0 then none else (od x).bind fun x => some (.fa f.offset x)
    | _ => none
  | .nilCheck x => (od x).bind fun x => some (.fa 0 x)
  | .load t x => (agOf P t).bind fun a => (szOf P t).bind fun s => (od x).bind fun x => some (.ld a s x)
  | .store t a x => (szOf P t).bind fun s => (od a).bind fun a => (od x).bind fun x => some (.st s a x)
  | .box t x => (szOf P t).bind fun s => (od x).bind fun x => some (.box s x)
  | .alloc t => (zeroOf P t).bind fun z => some (.alloc (AV.ofV z))
  | .build t ps => match P.underlying t with
    | some (.struct fs) => (zeroOf P t).bind fun z => (places P fs.toList).bind fun pl => (bparts pl ps.toList).bind fun ps => some (.bld (AV.ofV z).cells ps)
    | _ => none
  | .buildSlice t n ps => (elOf P t).bind fun e => (szOf P e).bind fun s => (sparts 0 ps.toList).bind fun xs => if xs.length = n ∧ n ≤ 64 ∧ 0 < s ∧ s ≤ 1024 ∧ (zeroOf P e).isSome = true then some (.bsl s xs) else none
  | .slice t x lo hi mx => match mx with
    | some _ => none
    | none => (od x).bind fun x => (oo lo).bind fun lo => (oo hi).bind fun hi => match P.underlying t with
      | some .string => some (.slS x lo hi)
      | some (.slice e) => (szOf P e).bind fun s => some (.slL s x lo hi)
      | _ => none
  | .makeSlice t n c => match n, c with
    | .tmp i, .tmp j => if i = j then (elOf P t).bind fun e => (P.info? e).bind fun i' => (i'.zero).bind fun z => if z.cells.size = i'.size ∧ 0 < i'.size then some (.mks i'.size i'.bytes (AV.ofV z) (.t i)) else none else none
    | _, _ => none
  | .extract x i => (od x).bind fun x => some (.ext x i)
  | .makeFunc fn first cap => match fn, first.toList with
    | .func f, [] => (ods cap.toList).bind fun l => some (.mkf f l)
    | _, _ => none
  | .convert s t x => (od x).bind fun x => match P.underlying s, P.underlying t with
    | some (.int _), some (.int k) => some (.cvI k x)
    | some .string, some .string => some (.cvS x)
    | some (.slice e), some .string => match P.underlying e with
      | some (.int .u8) => some (.b2s x)
      | _ => none
    | _, _ => none
  | .call c => match c.callee with
    | .builtin .len => match c.args.toList with
      | [x] => (c.argTypes[0]?).bind fun t => (od x).bind fun x => if strT P t then some (.len true x) else if (elOf P t).isSome then some (.len false x) else none
      | _ => none
    | .builtin .append => match c.args.toList with
      | [x, y] => (c.argTypes[0]?).bind fun t => (c.argTypes[1]?).bind fun t2 => (elOf P t).bind fun e => (P.info? e).bind fun i => (i.zero).bind fun z => (od x).bind fun x => (od y).bind fun y =>
        if z.cells.size = i.size ∧ 0 < i.size ∧ 0 < i.bytes ∧ (elOf P t2).isSome then some (.app i.size i.bytes x y) else none
      | _ => none
    | .value (.func f) => if fnOk P f then (ods c.args.toList).bind fun l => some (.call q f l) else none
    | .value x => (od x).bind fun x => (ods c.args.toList).bind fun l => some (.callv q x l)
    | _ => none
  | _ => none
def dOk (nt : Nat) : Option Nat → Bool
  | some d => decide (d < nt)
  | none => true
def cReg (P : Program) (q : Bool) (nt : Nat) (ops : Array Oper) : List Oper → Option (List VO)
  | [] => some []
  | o :: l => (cOp P q o.op).bind fun k => (cReg P q nt ops l).bind fun r =>
    if dOk nt o.dst = true then
      match o.guard with
      | none => some (⟨o.dst, k, none⟩ :: r)
      | some (j, w) => match (ops[j]?).bind (·.dst) with
        | some t => some (⟨o.dst, k, some (t, w)⟩ :: r)
        | none => none
    else none
/-- the temporaries that an operation looks at -/
def odT : Od → List Nat
  | .t n => [n]
  | .c _ => []
def VK.looks : VK → List Nat
  | .mv x | .as x | .un _ x | .len _ x | .fa _ x | .ld _ _ x | .box _ x | .mks _ _ _ x | .ext x _ | .cvI _ x | .b2s x | .cvS x | .isn _ x | .slM _ x => odT x
  | .pick c a b => odT c ++ odT a ++ odT b
  | .bin _ _ x y | .idx x y | .ia _ x y | .st _ x y | .app _ _ x y => odT x ++ odT y
  | .alloc _ => []
  | .bld _ ps => ps.flatMap fun p => odT p.2.2
  | .bsl _ xs | .call _ _ xs | .mkf _ xs => xs.flatMap odT
  | .callv _ x xs => odT x ++ xs.flatMap odT
  | .slS x lo hi | .slL _ x lo hi => odT x ++ (lo.toList.flatMap odT) ++ (hi.toList.flatMap odT)
def cCode (P : Program) (nt : Nat) (chk : Array Oper → List VO → Bool) (dr : Nat → List Nat) : Code → Option VC
  | .skip => some .skip
  | .ret => some .ret
  | .exit n => some (.exit n)
  | .seq a b => (cCode P nt chk dr a).bind fun a => (cCode P nt chk dr b).bind fun b => some (.seq a b)
  | .cond c a b => (od c).bind fun c => (cCode P nt chk dr a).bind fun a => (cCode P nt chk dr b).bind fun b => some (.cond c a b)
  | .block n c => (cCode P nt chk dr c).bind fun c => some (.block n c)
  | .loop c => (cCode P nt chk dr c).bind fun c => some (.loop c)
  | .region id ops draw => (cReg P draw nt ops ops.toList).bind fun os => if draw = false ∨ chk ops os = true then some (.reg draw os (dr id)) else none
  | _ => none
def cRes (P : Program) : List ResultVar → Option (List VR)
  | [] => some []
  | .tmp t :: l => (cRes P l).bind fun r => some (.t t :: r)
  | .cell a t :: l => (agOf P t).bind fun g => (szOf P t).bind fun s => (cRes P l).bind fun r => some (.b a g s :: r)
/-! what the code asks -/
structure Env where
  P : Program
  K : World → Prop
  ng : Nat
  hK : ∀ w w', w.heap.size ≤ w'.heap.size → (∀ k, k < ng → w'.heap[k]? = w.heap[k]?) → K w → K w'
  hg : ∀ w, K w → ng ≤ w.heap.size
  mixed : P.follows .mixedOrders = true
def Fr (base : Nat) (S : Nat → Prop) (w w' : World) : Prop :=
  w'.os = w.os ∧ w'.tape = w.tape ∧ w'.output = w.output ∧ w.heap.size ≤ w'.heap.size ∧ ∀ k, k < base → ¬ S k → w'.heap[k]? = w.heap[k]?
def Agree (G : Gh) (w : World) : Prop := ∀ b o v, G b o = some v → ∃ c ty fz, w.heap[b]? = some (.cells c ty fz) ∧ c[o]? = some v
def BoxAt (x : X) (base : Nat) (w : World) (n : Nat) (l : List AV) : Prop :=
  ∃ vals ty, w.heap[x.bx n]? = some (.cells vals ty (0, 0)) ∧ (x.bz n).2 + l.length * (x.bz n).1 ≤ vals.size ∧ 0 < (x.bz n).1 ∧
    ∀ i e, l[i]? = some e → e.cells.length = (x.bz n).1 ∧ ∀ j c, e.cells[j]? = some c → okC c = true ∧ ∃ v, vals[(x.bz n).2 + i * (x.bz n).1 + j]? = some v ∧ v.oneCell' = true ∧ Rel x base v c
def Tails (x : X) (base : Nat) (w : World) : Prop :=
  (∀ c b e t, x.tl c = some (b, e, t) → base ≤ b ∧ (∃ vals ty, w.heap[b]? = some (.cells vals ty (0, 0)) ∧ t ≤ vals.size) ∧ ∀ o, e ≤ o → x.G b o = none) ∧
  ∀ c c' b e t e' t', x.tl c = some (b, e, t) → x.tl c' = some (b, e', t') → c = c'
def JOk (J : Nat → Nat → Prop) (w : World) : Prop := ∀ b o, J b o → ∃ vals ty, w.heap[b]? = some (.cells vals ty (0, 0)) ∧ o < vals.size
/-- blocks made since then were never shut -/
def New00 (base : Nat) (w : World) : Prop := ∀ b c ty fz, base ≤ b → w.heap[b]? = some (.cells c ty fz) → fz = (0, 0)
/-- the blocks that a function may write: its boxes and the junk -/
def SBx (pb : Nat) (x : X) (k : Nat) : Prop := (∃ n, n < pb ∧ k = x.bx n) ∨ ∃ o, x.J k o
def JPre (ng pb : Nat) (x : X) (w : World) : Prop := JOk x.J w ∧ (∀ b o, x.J b o → ng ≤ b ∧ x.G b o = none ∧ ∀ n, n < pb → x.bx n ≠ b) ∧ ∀ t b, ¬ x.rg t b
/-- A function's contract: called with these values (and these boxes), it returns that (and leaves the boxes so). -/
def Fx (E : Env) (f : Nat) (bx : List (List AV)) (args : List AV) (bx' : List (List AV)) (r : AV) : Prop :=
  bx'.length = bx.length ∧ resOk r = true ∧
  ∀ (x : X) (w : World) (vs : Array Value), E.K w → (∀ c, x.tl c = none) → (∀ n, n < bx.length → E.ng ≤ x.bx n) → JPre E.ng bx.length x w → vs.size = args.length → (∀ (i : Nat) (v : Value) (c : AV), vs[i]? = some v → args[i]? = some c → Rel x w.heap.size v c) → Agree x.G w →
    (∀ (n : Nat) (l : List AV), bx[n]? = some l → BoxAt x w.heap.size w n l ∧ ∀ o, x.G (x.bx n) o = none) → (∀ n m, n < bx.length → m < bx.length → x.bx n = x.bx m → n = m) →
    Calls E.P f vs w fun e w' => ∃ v x', e = .returned v ∧ Rel x' w.heap.size v r ∧ x.G.le x'.G ∧ (∀ b o v, x'.G b o = some v → b < w.heap.size → x.G b o = some v) ∧ Agree x'.G w' ∧
      Fr w.heap.size (SBx bx.length x) w w' ∧ (∀ n, n < bx.length → x'.bx n = x.bx n ∧ x'.bz n = x.bz n) ∧
      (∀ (n : Nat) (l : List AV), bx'[n]? = some l → BoxAt x' w.heap.size w' n l ∧ ∀ o, x'.G (x.bx n) o = none) ∧ Tails x' w.heap.size w' ∧ JOk x.J w' ∧ New00 w.heap.size w'
def AS.val (s : AS) : Od → AV
  | .t n => s.get n
  | .c x => x
def AS.vals (s : AS) : List Od → List AV
  | [] => []
  | x :: l => s.val x :: s.vals l
def bt (s : ByteArray) (i : Nat) : UInt8 := s.data.toList.getD i 0
def binI (op : BinOp) (k : IntKind) (a : Int) (k' : IntKind) (b : Int) : Option Value :=
  match op with
  | .shl => if b < 0 then none else some (.int k (k.wrap (a * 2 ^ (min b.toNat k.bits))))
  | .shr => if b < 0 then none else some (.int k (a.fdiv (2 ^ (min b.toNat k.bits))))
  | op => if k = k' then match op with
    | .add => some (.int k (k.wrap (a + b)))
    | .sub => some (.int k (k.wrap (a - b)))
    | .mul => some (.int k (k.wrap (a * b)))
    | .quo => if b = 0 then none else some (.int k (k.wrap (a.tdiv b)))
    | .rem => if b = 0 then none else some (.int k (a.tmod b))
    | .and => some (.int k (k.wrap (BitVec.ofInt k.bits a &&& BitVec.ofInt k.bits b).toNat))
    | .or => some (.int k (k.wrap (BitVec.ofInt k.bits a ||| BitVec.ofInt k.bits b).toNat))
    | .xor => some (.int k (k.wrap (BitVec.ofInt k.bits a ^^^ BitVec.ofInt k.bits b).toNat))
    | .eql => some (.bool (decide (a = b)))
    | .neq => some (.bool (decide (a ≠ b)))
    | .lss => some (.bool (decide (a < b)))
    | .leq => some (.bool (decide (a ≤ b)))
    | .gtr => some (.bool (decide (a > b)))
    | .geq => some (.bool (decide (a ≥ b)))
    | _ => none
    else none
def slt (a b : ByteArray) : Bool := Op.bytesLess a.toList b.toList
def binS (op : BinOp) (a b : ByteArray) : Option Value :=
  match op with
  | .add => if a.size + b.size ≤ 9223372036854775807 then some (.string (a ++ b)) else none
  | .eql => some (.bool (decide (a = b)))
  | .neq => some (.bool (decide (a ≠ b)))
  | .lss => some (.bool (slt a b))
  | .leq => some (.bool (slt a b || decide (a = b)))
  | .gtr => some (.bool (!(slt a b || decide (a = b))))
  | .geq => some (.bool (!slt a b))
  | _ => none
def binV (op : BinOp) (ty : Nat) : AV → AV → Option Value
  | .lit (.int k a), .lit (.int k' b) => binI op k a k' b
  | .lit (.string a), .lit (.string b) => binS op a b
  | .lit (.bool a), .lit (.bool b) => if ty = 2 then match op with
    | .eql => some (.bool (a == b))
    | .neq => some (.bool (!(a == b)))
    | _ => none else none
  | .agg [.lit (.string a), .lit (.string b)], .agg [.lit (.string c), .lit (.string d)] => if ty = 1 then match op with
    | .eql => some (.bool (decide (a = c) && decide (b = d)))
    | .neq => some (.bool (!(decide (a = c) && decide (b = d))))
    | _ => none else none
  | _, _ => none
def unV (op : UnOp) : AV → Option Value
  | .lit (.bool a) => match op with
    | .not => some (.bool (!a))
    | _ => none
  | .lit (.int k a) => match op with
    | .neg => some (.int k (k.wrap (0 - a)))
    | _ => none
  | _ => none
def lenV : Bool → AV → Option Int
  | true, .lit (.string s) => some s.size
  | false, .sl _ _ xs => some xs.length
  | false, .bs _ _ n => some n
  | false, .hs _ xs => some xs.length
  | _, _ => none
def isUn : AV → Bool
  | .un => true
  | _ => false
def upd {α : Type} (l : List α) (off : Nat) (v : List α) : List α := l.take off ++ v ++ l.drop (off + v.length)
def fill (z : List AV) : List (Nat × Nat × AV) → Option (List AV)
  | [] => some z
  | (off, n, x) :: ps => if x.cells.length = n ∧ off + n ≤ z.length then fill (upd z off x.cells) ps else none
def pvals (s : AS) : List (Nat × Nat × Od) → List (Nat × Nat × AV)
  | [] => []
  | (o, n, x) :: l => (o, n, s.val x) :: pvals s l
/-- bounds of a cut: 'lo' and 'hi' of a length -/
def cutB (s : AS) (n : Nat) (lo hi : Option Od) : Option (Nat × Nat) :=
  match (match hi with | none => some n | some h => match s.val h with | .lit (.int _ i) => if 0 ≤ i ∧ i ≤ n then some i.toNat else none | _ => none) with
  | none => none
  | some h => match lo with
    | none => some (0, h)
    | some l => match s.val l with
      | .lit (.int _ i) => if 0 ≤ i ∧ i ≤ h then some (i.toNat, h) else none
      | _ => none
def isNone {α : Type} : Option α → Bool
  | none => true
  | some _ => false
def putElem (e : AV) (off : Nat) (x : AV) : AV := match e with
  | .agg cs => .agg (upd cs off x.cells)
  | _ => x
def clsOf (m : Mk) : Option Nat := match m.ap with | .cl c => some c | _ => none
def renB (ns : List Nat) (n : Nat) : Nat := ns.findIdx (· == n)
def ren (ns : List Nat) : AV → AV
  | .ptr n i o => .ptr (renB ns n) i o
  | .bs n sz l => .bs (renB ns n) sz l
  | .agg cs => .agg (renL ns cs)
  | .fn f cs => .fn f (renL ns cs)
  | x => x
where renL (ns : List Nat) : List AV → List AV
  | [] => []
  | c :: cs => ren ns c :: renL ns cs
def dd : List Nat → List Nat
  | [] => []
  | n :: ns => n :: (dd ns).filter (fun m => m != n)
def bxsOf (s : AS) : List Nat → Option (List (List AV))
  | [] => some []
  | n :: ns => (look s.bxs n).bind fun l => (bxsOf s ns).bind fun r => some (l :: r)
def setBs (s : AS) : List Nat → List (List AV) → AS
  | n :: ns, l :: ls => setBs (s.setB n l) ns ls
  | _, _ => s
def argOk : AV → Bool
  | .ptr _ _ _ => true
  | .bs _ _ _ => true
  | .hs _ _ => true
  | .fn _ cs => argL cs
  | .agg cs => dat.datL cs || argL cs
  | .tup _ => false
  | .ep _ _ => false
  | x => dat x
where argL : List AV → Bool
  | [] => true
  | c :: cs => argOk c && argL cs
def vcall (E : Env) (q : Bool) (s : AS) (d : Option Nat) (f : Nat) (vs : List AV) (Q : AS → Prop) : Prop :=
  argOk.argL vs = true ∧ (q = true → (dd (ptrs.ptrsL vs)) = []) ∧ ∃ t, d = some t ∧ (s.putO d .un).noC t = true ∧
  ∃ bs, bxsOf s (dd (ptrs.ptrsL vs)) = some bs ∧ bs.all dat.datL = true ∧ ∃ bs' r, Fx E f (bs.map strip.stripL) (ren.renL (dd (ptrs.ptrsL vs)) (strip.stripL vs)) bs' r ∧ bs'.all (fun l => resOk.resL l && dat.datL l) = true ∧
    Q ((setBs s (dd (ptrs.ptrsL vs)) (bs'.map (relab.relabL t false))).put t (relab t (frA.frL vs) r))
structure St (E : Env) (x0 : X) (w0 : World) (pb nt : Nat) (x : X) (a : Act) (w : World) (s : AS) : Prop where
  df : a.defers = []
  nt : a.tmps.size = nt
  env : ∀ t, Rel x w0.heap.size (a.tmps.getD t undef) (s.get t)
  k : E.K w0
  fr : Fr w0.heap.size (SBx pb x0) w0 w
  ag : Agree x.G w
  g1 : x0.G.le x.G
  g2 : ∀ b o v, x.G b o = some v → b < w0.heap.size → x0.G b o = some v
  pbx : ∀ n, n < pb → x.bx n = x0.bx n ∧ x.bz n = x0.bz n
  pbl : pb ≤ 1000
  bxs : ∀ n l, look s.bxs n = some l → BoxAt x w0.heap.size w n l ∧ (n < pb ∨ w0.heap.size ≤ x.bx n) ∧ ∀ o, x.G (x.bx n) o = none
  inj : ∀ n m l l', look s.bxs n = some l → look s.bxs m = some l' → x.bx n = x.bx m → n = m
  tl : Tails x w0.heap.size w
  tlb : ∀ c b e t, x.tl c = some (b, e, t) → ∀ n l, look s.bxs n = some l → x.bx n ≠ b
  jp : JOk x0.J w
  j0 : ∀ b o, x0.J b o → b < w0.heap.size ∧ E.ng ≤ b ∧ x0.G b o = none ∧ ∀ n, n < pb → x0.bx n ≠ b
  jx : x.J = x0.J
  uf : New00 w0.heap.size w
  rgb : ∀ t b, x.rg t b → b < w.heap.size ∧ (t ≠ 0 → w0.heap.size ≤ b)
  rgd : ∀ t t' b, x.rg t b → x.rg t' b → t = t'
  g0 : ∀ b o v, x0.G b o = some v → b < w0.heap.size
/-- what was not known is still not known, but for the place written; no box comes up elsewhere -/
def Keep (s s' : AS) (d : Option Nat) : Prop := (∀ t, d ≠ some t → s.get t = .un → s'.get t = .un) ∧ ∀ t, d ≠ some t → look s.bxs (1000 + t) = none → look s'.bxs (1000 + t) = none
/-- A call told by its meaning alone. -/
def VRaw (E : Env) (s : AS) (d : Option Nat) (f : Nat) (vs : List AV) (Q : AS → Prop) : Prop :=
  ∀ (x0 : X) (w0 : World) (pb nt : Nat) (x : X) (a : Act) (w : World), St E x0 w0 pb nt x a w s → (∀ n, n < pb → E.ng ≤ x0.bx n) → (∀ t, d = some t → t < nt) → ∀ args : Array Value, args.size = vs.length →
    (∀ (i : Nat) (v : Value) (c : AV), args[i]? = some v → vs[i]? = some c → Rel x w0.heap.size v c) → Calls E.P f args w fun e w' => ∃ v x' s', e = .returned v ∧ Q s' ∧ Keep s s' d ∧ St E x0 w0 pb nt x' (a.put d v) w' s'
def vcall2 (E : Env) (q : Bool) (s : AS) (d : Option Nat) (f : Nat) (vs : List AV) (Q : AS → Prop) : Prop := vcall E q s d f vs Q ∨ (q = false ∧ VRaw E s d f vs Q)
def vact (E : Env) (s : AS) (d : Option Nat) (Q : AS → Prop) : VK → Prop
  | .mv x => Q (s.putO d (s.val x))
  | .as x => Q (s.putO d (s.val x))
  | .pick c a b => ∃ t, s.val c = .lit (.bool t) ∧ Q (s.putO d (if t then s.val a else s.val b))
  | .bin op ty x y => ∃ v, binV op ty (s.val x) (s.val y) = some v ∧ Q (s.putO d (.lit v))
  | .un op x => ∃ v, unV op (s.val x) = some v ∧ Q (s.putO d (.lit v))
  | .len b x => ∃ n, lenV b (s.val x) = some n ∧ Q (s.putO d (.lit (.int .i64 n)))
  | .idx x i => ∃ b k j, s.val x = .lit (.string b) ∧ s.val i = .lit (.int k j) ∧ 0 ≤ j ∧ j < b.size ∧ Q (s.putO d (.lit (.int .u8 (bt b j.toNat).toNat)))
  | .ia sz x i => ∃ k j, s.val i = .lit (.int k j) ∧ 0 ≤ j ∧ (match s.val x with
    | .sl m z xs => z = sz ∧ ∃ e, xs[j.toNat]? = some e ∧ Q (s.putO d (.ep m.fr e.cells))
    | .bs n z l => z = sz ∧ j < l ∧ Q (s.putO d (.ptr n j.toNat 0))
    | .hs z xs => z = sz ∧ ∃ e, xs[j.toNat]? = some e ∧ Q (s.putO d (.hp e.cells))
    | _ => False)
  | .fa off x => (match s.val x with
    | .ep fr cs => off ≤ cs.length ∧ Q (s.putO d (.ep fr (cs.drop off)))
    | .ptr n i o => Q (s.putO d (.ptr n i (o + off)))
    | .hp cs => off ≤ cs.length ∧ Q (s.putO d (.hp (cs.drop off)))
    | _ => False)
  | .ld ag sz x => (match s.val x with
    | .ep fr cs => if ag then sz ≤ cs.length ∧ Q (s.putO d (.agg (mkF.mkL fr (cs.take sz)))) else ∃ c, cs[0]? = some c ∧ Q (s.putO d (mkF fr c))
    | .ptr n i o => ∃ l e, look s.bxs n = some l ∧ l[i]? = some e ∧ (if ag then o + sz ≤ e.cells.length ∧ Q (s.putO d (.agg ((e.cells.drop o).take sz))) else ∃ c, e.cells[o]? = some c ∧ Q (s.putO d c))
    | .hp cs => ag = false ∧ ∃ z ys, cs[0]? = some (.hs z ys) ∧ Q (s.putO d (.hs z ys))
    | _ => False)
  | .st sz a x => (∃ n i o, s.val a = .ptr n i o ∧ ∃ l e, look s.bxs n = some l ∧ l[i]? = some e ∧ 0 < sz ∧ (s.val x).cells.length = sz ∧ o + sz ≤ e.cells.length ∧ (s.val x).cells.all okC = true ∧
      Q ((s.setB n (l.set i (putElem e o (s.val x)))).putO d .un)) ∨
      ∃ c cs, s.val a = .hp (c :: cs) ∧ isUn c = true ∧ sz = 1 ∧ (s.val x).cells.length = 1 ∧ (s.val x).cells.all okC = true ∧ Q (s.putO d .un)
  | .box sz x => ∃ t, d = some t ∧ (s.val x).cells.length = sz ∧ 0 < sz ∧ (s.val x).cells.all okC = true ∧ (s.putO d .un).noB (1000 + t) = true ∧ noB (1000 + t) (s.val x) = true ∧ Q ((s.setB (1000 + t) [s.val x]).put t (.ptr (1000 + t) 0 0))
  | .alloc z => ∃ t, d = some t ∧ 0 < z.cells.length ∧ z.cells.all okC = true ∧ (s.putO d .un).noB (1000 + t) = true ∧ noB (1000 + t) z = true ∧ Q ((s.setB (1000 + t) [z]).put t (.ptr (1000 + t) 0 0))
  | .bld z ps => (pvals s ps).all (fun p => p.2.2.cells.all okC) = true ∧ ∃ cs, fill z (pvals s ps) = some cs ∧ Q (s.putO d (.agg cs))
  | .bsl sz xs => ∃ t, d = some t ∧ (s.putO d .un).noC t = true ∧ (s.vals xs).all (fun x => decide (x.cells.length = sz) && dat x && x.cells.all okC) = true ∧ Q (s.put t (.sl ⟨.cl (64 * t), frA.frL (s.vals xs)⟩ sz (strip.stripL (s.vals xs))))
  | .slS x lo hi => ∃ b, s.val x = .lit (.string b) ∧ ∃ l h, cutB s b.size lo hi = some (l, h) ∧ Q (s.putO d (.lit (.string (b.extract l h))))
  | .slL sz x lo hi => ∃ m z xs, s.val x = .sl m z xs ∧ (z = sz ∨ xs = []) ∧ ∃ l h, cutB s xs.length lo hi = some (l, h) ∧ Q (s.putO d (.sl ⟨if isNone hi then noOw m.ap else .no, m.fr⟩ z ((xs.take h).drop l)))
  | .app sz byt x y => ∃ m z xs, s.val x = .sl m z xs ∧ ∃ m2 z2 ys, s.val y = .sl m2 z2 ys ∧ (z = sz ∨ xs = []) ∧ (z2 = sz ∨ ys = []) ∧ (xs.length + ys.length) * byt ≤ 70368744177664 ∧
      (match m.ap with
       | .no => False
       | .ow _ => False
       | .nl => ∃ t, d = some t ∧ (s.putO d .un).noC t = true ∧ Q (s.put t (.sl ⟨.cl (64 * t), m.fr && m2.fr⟩ sz (xs ++ ys)))
       | .cl c => z = sz ∧ Q ((s.dem c).putO d (.sl ⟨.cl c, m.fr && m2.fr⟩ sz (xs ++ ys))))
  | .mks sz byt z n => ∃ t k j, d = some t ∧ s.val n = .lit (.int k j) ∧ 0 ≤ j ∧ j * byt ≤ 70368744177664 ∧ j ≤ 9223372036854775807 ∧ z.cells.length = sz ∧ z.cells.all okC = true ∧ (s.putO d .un).noB (1000 + t) = true ∧ noB (1000 + t) z = true ∧ Q ((s.setB (1000 + t) (List.replicate j.toNat z)).put t (.bs (1000 + t) sz j.toNat))
  | .ext x i => ∃ cs c, s.val x = .tup cs ∧ cs[i]? = some c ∧ Q (s.putO d c)
  | .call q f as => vcall2 E q s d f (s.vals as) Q
  | .callv q x as => ∃ f cs, s.val x = .fn f cs ∧ fnOk E.P f = true ∧ vcall2 E q s d f (s.vals as ++ cs) Q
  | .mkf f as => Q (s.putO d (.fn f (s.vals as)))
  | .cvI k x => ∃ k' j, s.val x = .lit (.int k' j) ∧ Q (s.putO d (.lit (.int k (k.wrap j))))
  | .b2s x => ∃ (m : Mk) (z : Nat) (xs : List AV) (l : List UInt8), s.val x = .sl m z xs ∧ (z = 1 ∨ xs = []) ∧ xs = l.map (fun b : UInt8 => AV.lit (.int .u8 b.toNat)) ∧ Q (s.putO d (.lit (.string ⟨l.toArray⟩)))
  | .cvS x => ∃ b, s.val x = .lit (.string b) ∧ Q (s.putO d (.lit (.string b)))
  | .isn neg x => ∃ m z xs, s.val x = .sl m z xs ∧ ∀ b, (xs ≠ [] → b = neg) → Q (s.putO d (.lit (.bool b)))
  | .slM sz x => ∃ m z xs, s.val x = .sl m z xs ∧ Q (s.putO d (.sl ⟨.nl, true⟩ sz []))
/-- what a guard says: 'none' for an operation that was passed by -/
def gOf : AV → Option (Option Bool)
  | .lit (.bool b) => some (some b)
  | .tup [] => some none
  | _ => none
def vop (E : Env) (o : VO) (s : AS) (Q : AS → Prop) : Prop :=
  match o.g with
  | none => vact E s o.d Q o.k
  | some (t, w) => ∃ b, gOf (s.get t) = some b ∧ if b = some w then vact E s o.d Q o.k else Q (s.putO o.d (.tup []))
def tmpOk (s : AS) (o : VO) : Bool := match o.k with
  | .as _ => true
  | .st _ _ _ => true
  | _ => match o.d with
    | some t => isUn (s.get t) && isNone (look s.bxs (1000 + t))
    | none => true
def vops (E : Env) : List VO → AS → (AS → Prop) → Prop
  | [], s, Q => Q s
  | o :: os, s, Q => vop E o s fun s' => vops E os s' Q
def drop1 (t : Nat) : List (Nat × AV) → List (Nat × AV)
  | [] => []
  | (u, v) :: l => if t = u then drop1 t l else (u, v) :: drop1 t l
def drops : List Nat → List (Nat × AV) → List (Nat × AV)
  | [], l => l
  | t :: ts, l => drops ts (drop1 t l)
/-- less is known: variables and boxes forgotten, marks weakened, a row that nobody writes any more told as a list -/
def wkV (v' v : AV) : Prop := v' = v ∨ v' = .un ∨ ∃ m m' z z' xs, v' = .sl m' z' xs ∧ v = .sl m z xs ∧ (m'.fr = true → m.fr = true) ∧ ((m'.ap = .no ∧ (z' = z ∨ xs = [])) ∨ (m'.ap = m.ap ∧ z' = z) ∨ (m'.ap = .nl ∧ m.ap = .nl ∧ xs = []) ∨ (∃ c, m'.ap = .cl c ∧ m.ap = .nl ∧ xs = []))
def isLit : AV → Bool
  | .lit _ => true
  | _ => false
def litL (xs : List AV) : Bool := xs.all fun e => e.cells.all isLit
/-- a row that this function made, of plain cells, is all its own -/
def frU : AV → AV
  | .sl m sz xs => match m.ap with
    | .cl c => .sl ⟨.cl c, m.fr || litL xs⟩ sz xs
    | _ => .sl m sz xs
  | .agg cs => .agg (frUL cs)
  | .tup cs => .tup (frUL cs)
  | x => x
where frUL : List AV → List AV
  | [] => []
  | c :: cs => frU c :: frUL cs
inductive Wk : AS → AS → Prop
  | frs (s : AS) : Wk ⟨mapV frU s.env, mapV frU.frUL s.bxs⟩ s
  | refl (s : AS) : Wk s s
  | trans {a b c : AS} : Wk a b → Wk b c → Wk a c
  | env (s : AS) (l : List (Nat × AV)) : (∀ t v, look l t = some v → wkV v (s.get t)) → Wk ⟨l, s.bxs⟩ s
  | bxs (s : AS) (l : List (Nat × List AV)) : (∀ n b, look l n = some b → look s.bxs n = some b) → Wk ⟨s.env, l⟩ s
  | frz (s : AS) (t n sz len : Nat) (l : List AV) : 1000 ≤ n → look s.env t = some (.bs n sz len) → look s.bxs n = some l → len = l.length → l.all (fun e => frA e && dat e) = true → Wk ⟨setL t (.sl ⟨.no, true⟩ sz (strip.stripL l)) s.env, s.bxs.filter (fun p => p.1 != n)⟩ s
inductive Ex where
  | normal
  | ret
  | exit (n : Nat)
  deriving DecidableEq
def iter (step : AS → (Ex → AS → Prop) → Prop) (Q : Ex → AS → Prop) : Nat → AS → Prop
  | 0, _ => False
  | n + 1, s => ∃ s1, Wk s1 s ∧ step s1 fun e s' => match e with | .normal => iter step Q n s' | e => Q e s'
def vx (E : Env) : VC → AS → (Ex → AS → Prop) → Prop
  | .skip, s, Q => Q .normal s
  | .ret, s, Q => Q .ret s
  | .exit n, s, Q => Q (.exit n) s
  | .seq a b, s, Q => vx E a s fun e s' => match e with | .normal => vx E b s' Q | e => Q e s'
  | .cond c a b, s, Q => ∃ t, s.val c = .lit (.bool t) ∧ if t then vx E a s Q else vx E b s Q
  | .block n c, s, Q => vx E c s fun e s' => if e = .exit n then Q .normal s' else Q e s'
  | .loop c, s, Q => ∃ n, iter (vx E c) Q n s
  | .reg drw os dr, s, Q => (drw = true → os.all (tmpOk s) = true) ∧ vops E os s fun s' => Q .normal ⟨drops dr s'.env, s'.bxs⟩
def resV (s : AS) : VR → Option AV
  | .t n => some (s.get n)
  | .b n ag sz => match s.get n with
    | .ptr k i o => (look s.bxs k).bind fun l => (l[i]?).bind fun e => if ag then (if o + sz ≤ e.cells.length then some (.agg ((e.cells.drop o).take sz)) else none) else e.cells[o]?
    | _ => none
def resVs (s : AS) : List VR → Option (List AV)
  | [] => some []
  | r :: l => (resV s r).bind fun a => (resVs s l).bind fun r => some (a :: r)
/-- a result's classes, in small numbers -/
def reC (ks : List Nat) : AV → AV
  | .sl m sz xs => .sl ⟨match m.ap with | .cl c => if ks.contains c then .cl (ks.findIdx (· == c)) else .no | a => a, m.fr⟩ sz xs
  | .agg cs => .agg (reL ks cs)
  | .tup cs => .tup (reL ks cs)
  | x => x
where reL (ks : List Nat) : List AV → List AV
  | [] => []
  | c :: cs => reC ks c :: reL ks cs
def enum {α : Type} (i : Nat) : List α → List (Nat × α)
  | [] => []
  | x :: l => (i, x) :: enum (i + 1) l
def oneOr : List AV → AV
  | [x] => x
  | l => .tup l
end Go.Proofs.Ytpopccnnjpdmlaa.Vm
