/- A VERIFICATION CONDITION GENERATOR FOR THE MODEL'S CODE: definitions. (Sound: XVxB.) Works over any program. -/
import Derived.Orders
import Derived.Below
import Derived.WalkKit
namespace Go.Vx

/-- A partial heap. -/
abbrev Mem := Nat → Option Obj
def Mem.cell (μ : Mem) (a : Addr) : Option Value :=
  match μ a.block with
  | some (.cells c _ _) => if a.spot.isSome then none else c[a.off]?
  | _ => none
def Mem.Le (μ μ' : Mem) : Prop := ∀ b o, μ b = some o → μ' b = some o
def Mem.nil : Mem := fun _ => none
def Mem.set (h : Mem) (r : Nat) (o : Obj) : Mem := fun b => if b = r then some o else h b
def Mem.join (μ g : Mem) : Mem := fun b => match μ b with | some o => some o | none => g b
/-- The owned memory, parted in two. -/
def Parts (h g k : Mem) : Prop := ∀ b, (h b = g b ∧ k b = none) ∨ (h b = k b ∧ g b = none)

/-- What the generator knows of a type. -/
inductive TK where
  | int (k : IntKind) | bool | str | slice (e : TypeId) | strct (fs : List (Nat × TypeId)) | map (k e : TypeId) | ptr (e : TypeId) | func | iface | tuple | other
structure TI where
  size : Nat
  agg : Bool
  bytes : Nat
  zero : List Value
  kind : TK

def vcells : Value → List Value
  | .agg cs => cs.toList
  | v => [v]
def isAggD : TypeDesc → Bool
  | .struct _ => true
  | .array _ _ => true
  | _ => false
def fieldsD : TypeDesc → Option (List (Nat × TypeId))
  | .struct fs => some (fs.toList.map fun f => (f.offset, f.type))
  | _ => none
def kindOk (P : Program) (t : TypeId) : TK → Prop
  | .int k => P.underlying t = some (.int k)
  | .bool => P.underlying t = some .bool
  | .str => P.underlying t = some .string
  | .slice e => P.underlying t = some (.slice e)
  | .strct fs => (P.underlying t).bind fieldsD = some fs ∧ (fs.mapM fun f => (P.info? f.2).map fun i => (f.1, i.size)).isSome = true
  | .map k e => P.underlying t = some (.map k e)
  | .ptr e => P.underlying t = some (.pointer e)
  | _ => True
/-- The row of the table is the program's own. -/
structure TIok (P : Program) (t : TypeId) (i : TI) : Prop where
  info : (P.info? t).map (fun i => (i.size, i.bytes)) = some (i.size, i.bytes)
  zero : (P.info? t).map (fun i => i.zero.map vcells) = some (some i.zero)
  agg : (P.underlying t).map isAggD = some i.agg
  zlen : i.zero.length = i.size
  kind : kindOk P t i.kind
def TTok (P : Program) : List (Nat × TI) → Prop
  | [] => True
  | (t, i) :: r => TIok P t i ∧ TTok P r

/-- A value as the generator holds it. -/
inductive SV where
  | val (v : Value)
  | kn (b : Bool)
  | loc (tag r off : Nat)
  | row (tag : Nat) (base : Option Nat) (n cap : Nat)
  | elem (a : Addr) (cs : List Value) (off : Nat)
  | rel (tag : Nat) (base : Option Nat) (es i off : Nat)
def SV.conc : SV → Value
  | .val v => v
  | .kn b => .bool b
  | .loc _ r off => .pointer (some ⟨r, off, none⟩)
  | .row _ base n cap => .slice (base.map fun r => ⟨r, 0, none⟩) n cap
  | .elem a _ off => .pointer (some (a.add off))
  | .rel _ base es i off => .pointer (base.map fun r => ⟨r, i * es + off, none⟩)
/-- The block behind a local of the call's own. -/
inductive LB where
  | cells (r : Nat) (cs : List SV) (ty : TypeId)
  | row (base : Option Nat) (cap : Nat) (ty : TypeId) (es : Nat) (xs : List Value)
  | map (r : Nat) (en : Array MapEntry) (ck : Nat)
def LB.blk? : LB → Option Nat
  | .cells r _ _ => some r
  | .row base _ _ _ _ => base
  | .map r _ _ => some r

structure St where
  env : List (Nat × SV)
  blk : List (Nat × Option LB)
  nxt : Nat
  mem : Mem
  own : Mem

def look {α : Type} : List (Nat × α) → Nat → Option α
  | [], _ => none
  | (i, x) :: r, k => match Nat.beq i k with | true => some x | false => look r k
def St.lb (s : St) (t : Nat) : Option LB := match look s.blk t with | some x => x | none => none

structure Cx where
  P : Program
  tt : List (Nat × TI)
  n : Nat
  os : List Nat
  dr : Bool

def ev (s : St) : Operand → Option SV
  | .tmp t => look s.env t
  | .const v => match v with | .bool b => some (.kn b) | v => some (.val v)
  | .func f => some (.val (.func (.func f) #[] #[]))
  | .global g => some (.val (.pointer (some ⟨g, 0, none⟩)))
def evK (s : St) (x : Operand) (K : SV → Prop) : Prop := match ev s x with | some sv => K sv | none => False
def concK (sv : SV) (K : Value → Prop) : Prop :=
  match sv with
  | .val v => K v
  | .kn b => K (.bool b)
  | .loc _ r off => K (.pointer (some ⟨r, off, none⟩))
  | .row _ base n cap => K (.slice (base.map fun r => ⟨r, 0, none⟩) n cap)
  | .elem a _ off => K (.pointer (some (a.add off)))
  | .rel _ base es i off => K (.pointer (base.map fun r => ⟨r, i * es + off, none⟩))
def concsK : List SV → (List Value → Prop) → Prop
  | [], K => K []
  | sv :: l, K => concK sv fun v => concsK l fun vs => K (v :: vs)
def evsK (s : St) : List Operand → (List Value → Prop) → Prop
  | [], K => K []
  | x :: l, K => evK s x fun sv => concK sv fun v => evsK s l fun vs => K (v :: vs)
def appK {α : Type} : List α → List α → (List α → Prop) → Prop
  | [], m, K => K m
  | x :: l, m, K => appK l m fun r => K (x :: r)
/-- 'take n (drop m l)', all there. -/
def cutK {α : Type} : List α → Nat → Nat → (List α → Prop) → Prop
  | _, _, 0, K => K []
  | x :: l, 0, n + 1, K => cutK l 0 n fun r => K (x :: r)
  | _ :: l, m + 1, n + 1, K => cutK l m (n + 1) K
  | [], _, _ + 1, _ => False
/-- put a list of cells at a place. -/
def setK {α : Type} : List α → Nat → List α → (List α → Prop) → Prop
  | l, 0, [], K => K l
  | _ :: l, 0, v :: vs, K => setK l 0 vs fun r => K (v :: r)
  | x :: l, m + 1, vs, K => setK l m vs fun r => K (x :: r)
  | [], _, _, _ => False
def vals : List Value → List SV
  | [] => []
  | v :: l => .val v :: vals l
def valK (v : Value) (K : SV → Prop) : Prop := K (.val v)

def tyK (C : Cx) (t : TypeId) (K : TI → Prop) : Prop := match look C.tt t with | some i => K i | none => False
def fldK (C : Cx) (t : TypeId) (f : Nat) (K : Nat → TI → Prop) : Prop :=
  tyK C t fun i => match i.kind with
    | .strct fs => match fs[f]? with
      | some (off, ft) => tyK C ft fun j => K off j
      | none => False
    | _ => False

/-! The stops: what a proof has to answer. -/
structure ifVC (b : Bool) (A B : Prop) : Prop where
  out : (b = true → A) ∧ (b = false → B)
structure numVC (r : Int) (K : Int → Prop) : Prop where
  out : ∀ x, x = r → K x
/-- Element i of a frozen slice: its address and its cells. -/
structure ElemAt (μ : Mem) (base : Option Addr) (n es : Nat) (i : Int) (a : Addr) (cs : List Value) : Prop where
  lo : 0 ≤ i
  hi : i < n
  addr : ∃ a0, base = some a0 ∧ a = a0.add (i.toNat * es)
  len : cs.length = es
  cell : ∀ j v, cs[j]? = some v → μ.cell (a.add j) = some v
structure elemVC (μ : Mem) (base : Option Addr) (n es : Nat) (i : Int) (K : Addr → List Value → Prop) (K' : Addr → Prop) : Prop where
  out : (∃ a cs, ElemAt μ base n es i a cs ∧ K a cs) ∨ ∃ a0, base = some a0 ∧ 0 ≤ i ∧ i < n ∧ K' (a0.add (i.toNat * es))
structure relVC (n : Nat) (i : Int) (K : Nat → Prop) : Prop where
  out : ∃ j : Nat, i = j ∧ j < n ∧ K j
structure getVC (xs : List Value) (i : Nat) (K : Value → Prop) : Prop where
  out : ∃ v, xs[i]? = some v ∧ K v
structure extVC (μ h : Mem) (a : Addr) (size : Nat) (K : List Value → Prop) : Prop where
  out : ∃ cs, cs.length = size ∧ ((∀ j v, cs[j]? = some v → μ.cell (a.add j) = some v) ∨ ∀ j v, cs[j]? = some v → h.cell (a.add j) = some v) ∧ K cs
/-- A store into owned memory. -/
structure stoVC (h : Mem) (a : Addr) (vs : List Value) (K : Mem → Prop) : Prop where
  out : ∃ cs ty, h a.block = some (.cells (List.toArray cs) ty (0, 0)) ∧ a.spot = none ∧ a.off + vs.length ≤ cs.length ∧ K (h.set a.block (.cells (List.toArray (cs.take a.off ++ vs ++ cs.drop (a.off + vs.length))) ty (0, 0)))
/-- Bounds of a slice expression. -/
structure cutVC (lo hi cap : Int) (K : Nat → Nat → Prop) : Prop where
  out : ∃ l h : Nat, lo = l ∧ hi = h ∧ l ≤ h ∧ (h : Int) ≤ cap ∧ K l h
structure needVC (p K : Prop) : Prop where
  out : p ∧ K
structure byteVC (s : ByteArray) (i : Int) (K : UInt8 → Prop) : Prop where
  out : ∃ (j : Nat) (b : UInt8), i = j ∧ s.data.toList[j]? = some b ∧ K b
def pickK (s : St) (c a b : Operand) (K : SV → Prop) : Prop :=
  evK s c fun
    | .kn true => evK s a K
    | .kn false => evK s b K
    | .val (.bool c) => evK s a fun x => evK s b fun y =>
      (match x, y with
      | .kn x, .kn y => K (.val (.bool (cond c x y)))
      | .kn x, .val (.bool y) => K (.val (.bool (cond c x y)))
      | .val (.bool x), .kn y => K (.val (.bool (cond c x y)))
      | .val (.bool x), .val (.bool y) => K (.val (.bool (cond c x y)))
      | _, _ => False)
    | _ => False
def unK (op : UnOp) (x : SV) (K : SV → Prop) : Prop :=
  match op, x with
  | .not, .kn b => K (.kn (!b))
  | .not, .val (.bool b) => K (.val (.bool (!b)))
  | .neg, .val (.int k n) => numVC (k.wrap (0 - n)) fun r => K (.val (.int k r))
  | _, _ => False
def intK (op : BinOp) (k : IntKind) (a b : Int) (K : SV → Prop) : Prop :=
  match op with
  | .add => numVC (k.wrap (a + b)) fun r => K (.val (.int k r))
  | .sub => numVC (k.wrap (a - b)) fun r => K (.val (.int k r))
  | .mul => numVC (k.wrap (a * b)) fun r => K (.val (.int k r))
  | .quo => needVC (b ≠ 0) (numVC (k.wrap (a.tdiv b)) fun r => K (.val (.int k r)))
  | .rem => needVC (b ≠ 0) (numVC (a.tmod b) fun r => K (.val (.int k r)))
  | .eql => K (.val (.bool (decide (a = b))))
  | .neq => K (.val (.bool (!decide (a = b))))
  | .lss => K (.val (.bool (decide (a < b))))
  | .leq => K (.val (.bool (decide (a ≤ b))))
  | .gtr => K (.val (.bool (decide (b < a))))
  | .geq => K (.val (.bool (decide (b ≤ a))))
  | .and => numVC (bits .and k a b) fun r => K (.val (.int k r))
  | .or => numVC (bits .or k a b) fun r => K (.val (.int k r))
  | .xor => numVC (bits .xor k a b) fun r => K (.val (.int k r))
  | _ => False
def strK (op : BinOp) (a b : ByteArray) (K : SV → Prop) : Prop :=
  match op with
  | .eql => K (.val (.bool (decide (a = b))))
  | .neq => K (.val (.bool (!decide (a = b))))
  | .lss => K (.val (.bool (Op.bytesLess a.data.toList b.data.toList)))
  | .gtr => K (.val (.bool (Op.bytesLess b.data.toList a.data.toList)))
  | .add => needVC (a.size + b.size ≤ 9223372036854775807) (K (.val (.string (a ++ b))))
  | _ => False
def eqbK (op : BinOp) (a b : Bool) (K : SV → Prop) : Prop :=
  match op with
  | .eql => K (.val (.bool (a == b)))
  | .neq => K (.val (.bool (!(a == b))))
  | _ => False
def nilK (op : BinOp) (isNil : Bool) (K : SV → Prop) : Prop :=
  match op with
  | .eql => K (.val (.bool isNil))
  | .neq => K (.val (.bool (!isNil)))
  | _ => False
def shiftK (op : BinOp) (k : IntKind) (a b : Int) (K : SV → Prop) : Prop :=
  match op with
  | .shl => needVC (0 ≤ b) (numVC (k.wrap (a * 2 ^ (min b.toNat k.bits))) fun r => K (.val (.int k r)))
  | .shr => needVC (0 ≤ b) (numVC (a.fdiv (2 ^ (min b.toNat k.bits))) fun r => K (.val (.int k r)))
  | _ => False
def isShift : BinOp → Bool
  | .shl => true
  | .shr => true
  | _ => false
def binK (C : Cx) (op : BinOp) (t : TypeId) (x y : SV) (K : SV → Prop) : Prop :=
  match x with
  | .val (.int k a) => (match y with
    | .val (.int k' b) => (match isShift op with
      | true => shiftK op k a b K
      | false => (match decEq k k' with | isTrue _ => intK op k a b K | isFalse _ => False))
    | _ => False)
  | .val (.string a) => (match y with | .val (.string b) => strK op a b K | _ => False)
  | .kn a => tyK C t fun i => (match i.kind, y with | .bool, .kn b => eqbK op a b K | .bool, .val (.bool b) => eqbK op a b K | _, _ => False)
  | .val (.bool a) => tyK C t fun i => (match i.kind, y with | .bool, .kn b => eqbK op a b K | .bool, .val (.bool b) => eqbK op a b K | _, _ => False)
  | .val (.slice a _ _) => tyK C t fun i => (match i.kind, y with | .slice _, .val (.slice none 0 0) => nilK op a.isNone K | _, _ => False)
  | _ => False
def oneK {α : Type} (l : List α) (K : α → Prop) : Prop := match l with | [x] => K x | _ => False
/-- A value cut out of cells: a whole struct, or one cell. -/
def partK (i : TI) (cs : List SV) (off : Nat) (K : SV → Prop) : Prop :=
  match i.agg with
  | true => cutK cs off i.size fun l => concsK l fun vs => K (.val (.agg vs.toArray))
  | false => cutK cs off i.size fun l => oneK l K
def partV (i : TI) (cs : List Value) (off : Nat) (K : SV → Prop) : Prop :=
  match i.agg with
  | true => cutK cs off i.size fun l => K (.val (.agg l.toArray))
  | false => cutK cs off i.size fun l => oneK l fun v => K (.val v)
def posK (i : TI) (A : Prop) : Prop := match i.size with | 0 => False | _ + 1 => A
def loadK (C : Cx) (s : St) (t : TypeId) (a : SV) (K : SV → Prop) : Prop :=
  tyK C t fun i => match a with
    | .loc tag r off => (match s.lb tag with | some (.cells _ cs _) => partK i cs off K | some _ => False | none => extVC s.mem s.own ⟨r, off, none⟩ i.size fun cs => partV i cs 0 K)
    | .elem _ cs off => partV i cs off K
    | .rel tag _ _ j off => (match s.lb tag with | some (.row _ _ _ _ xs) => getVC xs j fun v => partV i (vcells v) off K | _ => False)
    | .val (.pointer (some a)) => extVC s.mem s.own a i.size fun cs => partV i cs 0 K
    | _ => False
def idxK (C : Cx) (s : St) (t : TypeId) (x i : SV) (K : SV → Prop) : Prop :=
  match i with
  | .val (.int _ i) => tyK C t fun ti => (match ti.kind with
    | .slice e => tyK C e fun te => (match x with
      | .val (.slice base n _) => elemVC s.mem base n te.size i (fun a cs => K (.elem a cs 0)) fun a => K (.val (.pointer (some a)))
      | .row tag base n _ => (match s.lb tag with
        | some (.row _ _ _ es _) => (match Nat.beq es te.size with | true => relVC n i fun j => K (.rel tag base te.size j 0) | false => False)
        | some _ => False
        | none => elemVC s.mem (base.map fun r => ⟨r, 0, none⟩) n te.size i (fun a cs => K (.elem a cs 0)) fun a => K (.val (.pointer (some a))))
      | _ => False)
    | _ => False)
  | _ => False
def lenK (C : Cx) (t : TypeId) (x : SV) (K : SV → Prop) : Prop :=
  tyK C t fun ti => match x, ti.kind with
    | .val (.slice _ n _), .slice _ => K (.val (.int .i64 n))
    | .row _ _ n _, .slice _ => K (.val (.int .i64 n))
    | .val (.string s), .str => K (.val (.int .i64 s.size))
    | _, _ => False
/-- The parts of a struct literal, laid into the zero cells. -/
def fillK (C : Cx) (s : St) (fs : List (Nat × TypeId)) : List (Nat × Operand) → List SV → (List SV → Prop) → Prop
  | [], cs, K => K cs
  | (f, x) :: r, cs, K => match fs[f]? with
    | some (off, ft) => tyK C ft fun ti => evK s x fun sv => (match ti.agg with
      | true => (match sv with
        | .val (.agg vs) => needLen ti.size vs.toList (setK cs off (vals vs.toList) fun cs' => fillK C s fs r cs' K)
        | _ => False)
      | false => needOne sv ti.size (setK cs off [sv] fun cs' => fillK C s fs r cs' K))
    | none => False
where
  needOne : SV → Nat → Prop → Prop
  | .val (.agg _), _, _ => False
  | _, 1, A => A
  | _, _, _ => False
  needLen : Nat → List Value → Prop → Prop
  | 0, [], A => A
  | n + 1, _ :: l, A => needLen n l A
  | _, _, _ => False
/-- Bytes in a row. -/
structure bytesVC (xs : List Value) (K : List UInt8 → Prop) : Prop where
  out : ∃ bs : List UInt8, xs = bs.map (fun b => .int .u8 (b.toNat : Int)) ∧ K bs
def convK (C : Cx) (s : St) (src dst : TypeId) (x : SV) (K : SV → Prop) : Prop :=
  tyK C src fun ts => tyK C dst fun td => match ts.kind, td.kind, x with
    | .slice e, .str, .row tag _ _ _ => tyK C e fun te => (match te.kind, s.lb tag with
      | .int .u8, some (.row _ _ _ _ xs) => bytesVC xs fun bs => K (.val (.string ⟨bs.toArray⟩))
      | _, _ => False)
    | .int _, .int k, .val (.int _ n) => numVC (k.wrap n) fun r => K (.val (.int k r))
    | .str, .str, .val (.string b) => K (.val (.string b))
    | _, _, _ => False
def sliceK (es : Nat) (base : Option Addr) (n c : Nat) (lo hi : Option SV) (K : SV → Prop) : Prop :=
  boundK lo 0 fun l => boundK hi n fun h => cutVC l h c fun l h => K (.val (.slice (if c = l then base else base.map (·.add (l * es))) (h - l) (c - l)))
where
  boundK : Option SV → Int → (Int → Prop) → Prop
  | none, d, K => K d
  | some (.val (.int _ i)), _, K => K i
  | _, _, _ => False
def maxK (big : Bool) (x y : SV) (K : SV → Prop) : Prop :=
  match x, y with
  | .val (.int k a), .val (.int _ b) => (match big with | true => K (.val (.int k (if b > a then b else a))) | false => K (.val (.int k (if b < a then b else a))))
  | _, _ => False
def optK (s : St) (x : Option Operand) (K : Option SV → Prop) : Prop := match x with | none => K none | some x => evK s x fun sv => K (some sv)
def vcVal (C : Cx) (s : St) (o : Op) (K : SV → Prop) : Prop :=
  match o with
  | .convert src dst x => evK s x fun x => convK C s src dst x K
  | .move x => evK s x K
  | .assign x => evK s x K
  | .pick c a b => pickK s c a b K
  | .unOp op _ x => evK s x fun x => unK op x K
  | .binOp op t x y _ => evK s x fun x => evK s y fun y => binK C op t x y K
  | .field t x f => fldK C t f fun off ti => evK s x fun
    | .val (.agg cs) => partV ti cs.toList off K
    | _ => False
  | .fieldAddr t x f => fldK C t f fun fo ti => posK ti (evK s x fun
    | .loc tag r off => K (.loc tag r (off + fo))
    | .elem a cs off => K (.elem a cs (off + fo))
    | .rel tag base es i off => (match s.lb tag with | some _ => K (.rel tag base es i (off + fo)) | none => False)
    | .val (.pointer (some a)) => K (.val (.pointer (some (a.add fo))))
    | _ => False)
  | .indexAddr t x i => evK s x fun x => evK s i fun i => idxK C s t x i K
  | .slice t x lo hi none => tyK C t fun ti => evK s x fun x => optK s lo fun lo => optK s hi fun hi => (match ti.kind, x with
    | .slice e, .val (.slice base n c) => tyK C e fun te => sliceK te.size base n c lo hi K
    | .slice e, .row _ base n c => tyK C e fun te => sliceK te.size (base.map fun r => ⟨r, 0, none⟩) n c lo hi K
    | .str, .val (.string b) => sliceK.boundK lo 0 fun l => sliceK.boundK hi b.size fun h => cutVC l h b.size fun l h => K (.val (.string (b.extract l h)))
    | _, _ => False)
  | .index t x i => tyK C t fun ti => evK s x fun x => evK s i fun i => (match ti.kind, x, i with
    | .str, .val (.string b), .val (.int _ i) => byteVC b i fun c => K (.val (.int .u8 c.toNat))
    | _, _, _ => False)
  | .load t a => evK s a fun a => loadK C s t a K
  | .extract x i => evK s x fun
    | .val (.tuple vs) => (match vs.toList[i]? with | some v => K (.val v) | none => False)
    | _ => False
  | .build t ps => tyK C t fun ti => (match ti.kind with
    | .strct fs => fillK C s fs ps.toList (vals ti.zero) fun cs => concsK cs fun vs => K (.val (.agg vs.toArray))
    | _ => False)
  | .makeFunc fn first caps => evsK s first.toList fun f => evsK s caps.toList fun c => K (.val (.func fn f.toArray c.toArray))
  | .call c => (match c.callee with
    | .builtin .len => (match c.args.toList, c.argTypes.toList with | [x], [t] => evK s x fun x => lenK C t x K | _, _ => False)
    | .builtin .max => (match c.args.toList with | [x, y] => evK s x fun x => evK s y fun y => maxK true x y K | _ => False)
    | .builtin .min => (match c.args.toList with | [x, y] => evK s x fun x => evK s y fun y => maxK false x y K | _ => False)
    | _ => False)
  | _ => False
/-! ### State -/
def St.put (s : St) (dst : Option Tmp) (sv : SV) : St :=
  match dst with
  | some d => { s with env := (d, sv) :: s.env }
  | none => s
def St.setB (s : St) (t : Nat) (b : LB) : St := { s with blk := (t, some b) :: s.blk }
def St.newB (s : St) (b : LB) : St := { s with blk := (s.nxt, some b) :: s.blk, nxt := s.nxt + 1 }
def St.killB (s : St) (t : Nat) : St := { s with blk := (t, none) :: s.blk }
/-- Headers of a row that has been appended to are plain values from then on. -/
def SV.fade (t : Nat) (sv : SV) : SV :=
  match sv with
  | .row t' base n cap => (match Nat.beq t' t with | true => .val (.slice (base.map fun r => ⟨r, 0, none⟩) n cap) | false => .row t' base n cap)
  | .rel t' base es i off => (match Nat.beq t' t with | true => .val (.pointer (base.map fun r => ⟨r, i * es + off, none⟩)) | false => .rel t' base es i off)
  | sv => sv
def fadeEnv (t : Nat) : List (Nat × SV) → List (Nat × SV)
  | [] => []
  | (i, sv) :: r => (i, sv.fade t) :: fadeEnv t r
def fadeCells (t : Nat) : List SV → List SV
  | [] => []
  | sv :: r => sv.fade t :: fadeCells t r
def fadeBlk (t : Nat) : List (Nat × Option LB) → List (Nat × Option LB)
  | [] => []
  | (i, some (.cells r cs ty)) :: l => (i, some (.cells r (fadeCells t cs) ty)) :: fadeBlk t l
  | x :: l => x :: fadeBlk t l
def St.fade (s : St) (t : Nat) : St := { s with env := fadeEnv t s.env, blk := fadeBlk t s.blk }

def putK (s : St) (dst : Option Tmp) (sv : SV) (K : St → Prop) : Prop :=
  match s, dst with
  | ⟨e, b, n, m, o⟩, some d => K ⟨(d, sv) :: e, b, n, m, o⟩
  | ⟨e, b, n, m, o⟩, none => K ⟨e, b, n, m, o⟩
def setBK (s : St) (t : Nat) (lb : LB) (K : St → Prop) : Prop := match s with | ⟨e, b, n, m, o⟩ => K ⟨e, (t, some lb) :: b, n, m, o⟩
def newBK (s : St) (lb : LB) (K : Nat → St → Prop) : Prop := match s with | ⟨e, b, n, m, o⟩ => K n ⟨e, (n, some lb) :: b, n + 1, m, o⟩
def memK (s : St) (μ : Mem) (K : St → Prop) : Prop := match s with | ⟨e, b, n, _, o⟩ => K ⟨e, b, n, μ, o⟩
def ownK (s : St) (h : Mem) (K : St → Prop) : Prop := match s with | ⟨e, b, n, m, _⟩ => K ⟨e, b, n, m, h⟩
def memOwnK (s : St) (μ h : Mem) (K : St → Prop) : Prop := match s with | ⟨e, b, n, _, _⟩ => K ⟨e, b, n, μ, h⟩
def giveK (s : St) (t : Nat) (h : Mem) (K : St → Prop) : Prop := match s with | ⟨e, b, n, m, _⟩ => K ⟨e, (t, none) :: b, n, m, h⟩
def killK (s : St) (t : Nat) (μ : Mem) (K : St → Prop) : Prop := match s with | ⟨e, b, n, _, o⟩ => K ⟨e, (t, none) :: b, n, μ, o⟩
def fadeSK (t : Nat) (sv : SV) (K : SV → Prop) : Prop :=
  match sv with
  | .row t' base n cap => (match Nat.beq t' t with | true => K (.val (.slice (base.map fun r => ⟨r, 0, none⟩) n cap)) | false => K (.row t' base n cap))
  | .rel t' base es i off => (match Nat.beq t' t with | true => K (.val (.pointer (base.map fun r => ⟨r, i * es + off, none⟩))) | false => K (.rel t' base es i off))
  | sv => K sv
def fadeEK (t : Nat) : List (Nat × SV) → (List (Nat × SV) → Prop) → Prop
  | [], K => K []
  | (i, sv) :: r, K => fadeSK t sv fun sv' => fadeEK t r fun r' => K ((i, sv') :: r')
def fadeCK (t : Nat) : List SV → (List SV → Prop) → Prop
  | [], K => K []
  | sv :: r, K => fadeSK t sv fun sv' => fadeCK t r fun r' => K (sv' :: r')
def fadeBK (t : Nat) : List (Nat × Option LB) → (List (Nat × Option LB) → Prop) → Prop
  | [], K => K []
  | (i, some (.cells r cs ty)) :: l, K => fadeCK t cs fun cs' => fadeBK t l fun l' => K ((i, some (.cells r cs' ty)) :: l')
  | x :: l, K => fadeBK t l fun l' => K (x :: l')
def fadeK (s : St) (t : Nat) (K : St → Prop) : Prop := match s with | ⟨e, b, n, m, o⟩ => fadeEK t e fun e' => fadeBK t b fun b' => K ⟨e', b', n, m, o⟩
def valsK : List Value → (List SV → Prop) → Prop
  | [], K => K []
  | v :: l, K => valsK l fun r => K (.val v :: r)

def cellsOf (sv : SV) : List SV :=
  match sv with
  | .val (.agg vs) => vals vs.toList
  | sv => [sv]
def cellsOfK (sv : SV) (K : List SV → Prop) : Prop :=
  match sv with
  | .val (.agg vs) => valsK vs.toList K
  | sv => K [sv]
def lenIs {α : Type} : Nat → List α → Prop → Prop
  | 0, [], A => A
  | n + 1, _ :: l, A => lenIs n l A
  | _, _, _ => False

/-! ### Calls -/
def Holds (μ : Mem) (w : World) : Prop := ∀ b o, μ b = some o → w.heap[b]? = some o
def Apart (μ h : Mem) : Prop := ∀ b, μ b ≠ none → h b = none
def Enter (P : Program) (f : FuncId) : Prop := ∃ fn, P.funcs[f]? = some fn ∧ fn.body.isSome = true ∧ (fn.name == "runtime.NumGoroutine") = false
/-- What a call has done to the world, beside its result. -/
structure Step (μ h : Mem) (w : World) (μ' h' : Mem) (w' : World) : Prop where
  le : μ.Le μ'
  mem : Holds μ' w'
  own : Holds h' w'
  apart : Apart μ' h'
  fresh : ∀ b, μ b = none → μ' b ≠ none → w.heap.size ≤ b ∨ h b ≠ none
  freshH : ∀ b, h' b ≠ none → w.heap.size ≤ b ∨ h b ≠ none
  size : w.heap.size ≤ w'.heap.size
  keep : ∀ b, b < w.heap.size → h b = none → w'.heap[b]? = w.heap[b]?
  os : w'.os = w.os
  tape : w'.tape = w.tape
  output : w'.output = w.output
/-- The contract of a call at frozen memory μ, owned memory h: it returns, and R says what. -/
def SpecH (P : Program) (f : FuncId) (args : List Value) (μ h : Mem) (R : Value → Mem → Mem → Prop) : Prop :=
  Enter P f ∧ ∀ w, Holds μ w → Holds h w → Apart μ h →
    Calls P f args.toArray w fun e w' => ∃ v μ' h', e = .returned v ∧ R v μ' h' ∧ Step μ h w μ' h' w'
/-- The contract of a call that owns nothing. -/
def Spec (P : Program) (f : FuncId) (args : List Value) (μ : Mem) (R : Value → Mem → Prop) : Prop := SpecH P f args μ Mem.nil fun v μ' _ => R v μ'

def LB.fits (lb : LB) (h : Nat → Option Obj) : Prop :=
  match lb with
  | .cells r cs ty => h r = some (.cells (cs.map SV.conc).toArray ty (0, 0))
  | .row none cap _ _ xs => xs = [] ∧ cap = 0
  | .row (some r) cap ty es xs => xs.length ≤ cap ∧ cap ≤ maxLen ∧ (∀ x ∈ xs, (vcells x).length = es ∧ ∀ u ∈ vcells x, u.oneCell' = true) ∧
      ∃ arr, h r = some (.cells arr ty (0, 0)) ∧ arr.size = cap * es ∧ arr.toList.take (xs.length * es) = xs.flatMap vcells
  | .map r en ck => h r = some (.map en ck)
/-- A frozen row. -/
def RowAt (μ : Mem) (base : Option Nat) (cap es : Nat) (xs : List Value) : Prop :=
  match base with
  | none => xs = []
  | some r => xs.length ≤ cap ∧ (∀ x ∈ xs, (vcells x).length = es ∧ ∀ u ∈ vcells x, u.oneCell' = true) ∧ ∃ arr ty, μ r = some (.cells arr ty (0, 0)) ∧ arr.size = cap * es ∧ arr.toList.take (xs.length * es) = xs.flatMap vcells
/-- Locals become frozen data. -/
def frzVC : List Nat → St → (St → Prop) → Prop
  | [], s, K => K s
  | t :: ts, s, K => match s.lb t with
    | some (.cells r cs ty) => concsK cs fun vs => ∀ μ', s.mem.Le μ' → s.mem r = none → μ' r = some (.cells vs.toArray ty (0, 0)) →
        killK s t μ' fun s => frzVC ts s K
    | some (.row base cap _ es xs) => ∀ μ', s.mem.Le μ' → (∀ r, base = some r → s.mem r = none) → RowAt μ' base cap es xs →
        killK s t μ' fun s => frzVC ts s K
    | _ => False
/-- A row's block among the owned ones. -/
def RowGiven (h h' : Mem) (base : Option Nat) (cap es : Nat) (xs : List Value) : Prop :=
  match base with
  | none => xs = [] ∧ h' = h
  | some r => h r = none ∧ xs.length ≤ cap ∧ (∀ x ∈ xs, (vcells x).length = es ∧ ∀ u ∈ vcells x, u.oneCell' = true) ∧ ∃ (cs : List Value) (ty : TypeId), h' = h.set r (.cells cs.toArray ty (0, 0)) ∧ cs.length = cap * es ∧ cs.take (xs.length * es) = xs.flatMap vcells
/-- Locals become owned memory. -/
def giveVC : List Nat → St → (St → Prop) → Prop
  | [], s, K => K s
  | t :: ts, s, K => match s.lb t with
    | some (.cells r cs ty) => concsK cs fun vs => s.mem r = none → s.own r = none → giveK s t (s.own.set r (.cells vs.toArray ty (0, 0))) fun s => giveVC ts s K
    | some (.row base cap _ es xs) => ∀ h', (∀ r, base = some r → s.mem r = none) → RowGiven s.own h' base cap es xs → giveK s t h' fun s => giveVC ts s K
    | _ => False
structure callVC (dr : Bool) (P : Program) (f : FuncId) (args : List Value) (s : St) (K : Value → St → Prop) : Prop where
  out : ∃ fz gv, (dr = true → gv = []) ∧ frzVC fz s fun s => giveVC gv s fun s => (∃ R, Spec P f args s.mem R ∧ ∀ v μ', s.mem.Le μ' → R v μ' → memK s μ' fun s => K v s) ∨ ∃ R, SpecH P f args s.mem s.own R ∧ ∀ v μ' h', s.mem.Le μ' → Apart μ' h' → R v μ' h' → memOwnK s μ' h' fun s => K v s
/-- The elements of a frozen slice, read for an append. -/
def SrcAt (μ : Mem) (base : Option Addr) (n es : Nat) (ys : List Value) : Prop :=
  ys.length = n ∧ (∀ y ∈ ys, (vcells y).length = es ∧ ∀ u ∈ vcells y, u.oneCell' = true) ∧ (n = 0 ∨ ∃ a, base = some a ∧ ∀ j v, (ys.flatMap vcells)[j]? = some v → μ.cell (a.add j) = some v)
structure srcVC (μ : Mem) (base : Option Addr) (n es : Nat) (K : List Value → Prop) : Prop where
  out : ∃ ys, SrcAt μ base n es ys ∧ K ys
/-- Room: 'need' elements of 'bytes' each; then the row behind the append. -/
structure growVC (need bytes : Nat) (empty : Prop) (K : Option Nat → Nat → Prop) : Prop where
  out : need * bytes ≤ 140737488355328 ∧ need ≤ maxLen ∧ ∀ base' cap', (base' = none → empty) → K base' cap'
def srcK (s : St) (es : Nat) (y : SV) (K : List Value → Prop) : Prop :=
  match y with
  | .row tag base n _ => (match s.lb tag with
    | some (.row _ _ _ es' ys) => (match Nat.beq es' es with | true => K ys | false => False)
    | some _ => False
    | none => srcVC s.mem (base.map fun r => ⟨r, 0, none⟩) n es K)
  | .val (.slice a n _) => srcVC s.mem a n es K
  | _ => False
def appendK (C : Cx) (s : St) (t : TypeId) (x y : SV) (K : SV → St → Prop) : Prop :=
  tyK C t fun ti => match ti.kind with
    | .slice e => tyK C e fun te => posK te (srcK s te.size y fun ys => match x with
        | .row tag _ n _ => (match s.lb tag with
          | some (.row _ _ ty es xs) => (match Nat.beq es te.size, Nat.beq ty e with
            | true, true => growVC (n + ys.length) te.bytes (xs ++ ys = []) fun base' cap' =>
              fadeK s tag fun s => setBK s tag (.row base' cap' ty es (xs ++ ys)) fun s => K (.row tag base' (xs ++ ys).length cap') s
            | _, _ => False)
          | _ => False)
        | .val (.slice none 0 0) => growVC ys.length te.bytes (ys = []) fun base' cap' =>
              newBK s (.row base' cap' e te.size ys) fun t s => K (.row t base' ys.length cap') s
        | _ => False)
    | _ => False
/-- All cells are single values. -/
def oneCellsK : List Value → Prop → Prop
  | [], A => A
  | .agg _ :: _, _ => False
  | .tuple _ :: _, _ => False
  | _ :: l, A => oneCellsK l A
def zeroV (i : TI) : Value := match i.agg, i.zero with | true, z => .agg z.toArray | false, [v] => v | _, _ => .tuple #[]
def vcells1 (i : TI) (A : Prop) : Prop := match i.agg, i.zero with | true, z => oneCellsK z A | false, [v] => oneCellsK [v] A | _, _ => False
/-- make([]T, l, c) with l = c. -/
structure makeVC (l c : Int) (bytes : Nat) (K : Nat → Prop) : Prop where
  out : l = c ∧ ∃ n : Nat, l = n ∧ n * bytes ≤ 140737488355328 ∧ n ≤ maxLen ∧ K n
def leK (m n : Nat) (A : Prop) : Prop := match Nat.ble m n with | true => A | false => False
/-- The locals whose block an operation writes. -/
def modsOf (s : St) (o : Op) : List Nat :=
  match o with
  | .store _ x _ => (match ev s x with | some (.loc t _ _) => [t] | some (.rel t _ _ _ _) => [t] | _ => [])
  | .call c => (match c.callee, c.args.toList with
    | .builtin .append, x :: _ => (match ev s x with | some (.row t _ _ _) => [t] | _ => [])
    | _, _ => [])
  | _ => []
/-- May an operation turn owned memory? -/
def owOf (s : St) (o : Op) : Bool :=
  match o with
  | .store _ x _ => (match ev s x with | some (.loc t _ _) => (s.lb t).isNone | some (.rel t _ _ _ _) => (s.lb t).isNone | _ => true)
  | .call c => (match c.callee with | .value _ => true | _ => false)
  | _ => false
def dstK (n : Nat) (dst : Option Tmp) (A : Prop) : Prop :=
  match dst with
  | none => A
  | some d => (match Nat.blt d n with | true => A | false => False)
/-- The elements of a slice literal: all its places given, in order. -/
def elemsK (s : St) (es : Nat) : Nat → Nat → List (Nat × Operand) → (List Value → Prop) → Prop
  | 0, _, [], K => K []
  | n + 1, i, (j, x) :: r, K => (match Nat.beq i j with
    | true => evK s x fun sv => concK sv fun v => lenIs es (vcells v) (oneCellsK (vcells v) (elemsK s es n (i + 1) r fun vs => K (v :: vs)))
    | false => False)
  | _, _, _, _ => False
def storeK (C : Cx) (s : St) (t : TypeId) (a x : SV) (K : St → Prop) : Prop :=
  tyK C t fun ti => cellsOfK x fun xc => lenIs ti.size xc (concsK xc fun vs => oneCellsK vs (match a with
    | .loc tag r off => (match s.lb tag with
      | some (.cells _ cs ty) => setK cs off xc fun cs' => setBK s tag (.cells r cs' ty) K
      | some _ => False
      | none => stoVC s.own ⟨r, off, none⟩ vs fun h => ownK s h K)
    | .val (.pointer (some a)) => stoVC s.own a vs fun h => ownK s h K
    | .rel tag base _ j off => (match s.lb tag with
      | some (.row _ cap ty es xs) => getVC xs j fun v => setK (vcells v) off vs fun cs' =>
          (match v with
          | .agg _ => setBK s tag (.row base cap ty es (xs.set j (.agg cs'.toArray))) K
          | _ => oneK cs' fun c => setBK s tag (.row base cap ty es (xs.set j c)) K)
      | _ => False)
    | _ => False))
def memN (n : Nat) : List Nat → Bool
  | [] => false
  | m :: r => match Nat.beq m n with | true => true | false => memN n r
def memO (dst : Option Tmp) (os : List Nat) : Bool :=
  match dst with
  | some d => memN d os
  | none => false
def vcOp (C : Cx) (o : Oper) (s : St) (K : St → Prop) : Prop :=
  dstK C.n o.dst (match o.op with
    | .alloc t => tyK C t fun ti => (match memO o.dst C.os with
      | true => ∀ r, s.mem r = none → s.own r = none → ownK s (s.own.set r (.cells ti.zero.toArray t (0, 0))) fun s => putK s o.dst (.val (.pointer (some ⟨r, 0, none⟩))) K
      | false => valsK ti.zero fun z => ∀ r, newBK s (.cells r z t) fun tag s => putK s o.dst (.loc tag r 0) K)
    | .box t x => evK s x fun sv => cellsOfK sv fun z => (match memO o.dst C.os with
      | true => concsK z fun vs => ∀ r, s.mem r = none → s.own r = none → ownK s (s.own.set r (.cells vs.toArray t (0, 0))) fun s => putK s o.dst (.val (.pointer (some ⟨r, 0, none⟩))) K
      | false => ∀ r, newBK s (.cells r z t) fun tag s => putK s o.dst (.loc tag r 0) K)
    | .store t a x => (match o.dst with | none => evK s a fun a => evK s x fun x => storeK C s t a x K | some _ => False)
    | .buildSlice t n ps => tyK C t fun ti => (match ti.kind with
      | .slice e => tyK C e fun te => posK te (leK (n * te.size) 16777216 <| elemsK s te.size n 0 ps.toList fun xs => ∀ r, newBK s (.row (some r) n e te.size xs) fun tag s => putK s o.dst (.row tag (some r) n n) K)
      | _ => False)
    | .makeSlice t l c => tyK C t fun ti => (match ti.kind with
      | .slice e => tyK C e fun te => posK te <| vcells1 te <| evK s l fun l => evK s c fun c => (match l, c with
        | .val (.int _ l), .val (.int _ c) => makeVC l c te.bytes fun n => ∀ r, newBK s (.row (some r) n e te.size (List.replicate n (zeroV te))) fun tag s => putK s o.dst (.row tag (some r) n n) K
        | _, _ => False)
      | _ => False)
    | .call c => (match c.callee with
      | .value f => evK s f fun
        | .val (.func (.func k) first caps) => evsK s c.args.toList fun args => appK first.toList args fun a1 => appK a1 caps.toList fun a2 =>
            callVC C.dr C.P k a2 s fun v s' => putK s' o.dst (.val v) K
        | _ => False
      | .builtin .append => (match c.args.toList, c.argTypes.toList with
        | [x, y], [t, u] => (match Nat.beq t u with
          | true => evK s x fun x => evK s y fun y => appendK C s t x y fun sv s' => putK s' o.dst sv K
          | false => False)
        | _, _ => False)
      | _ => vcVal C s o.op fun sv => putK s o.dst sv K)
    | op => vcVal C s op fun sv => putK s o.dst sv K)
/-- A guarded operation. -/
def guardK (ops : List Oper) (o : Oper) (s : St) (yes no : St → Prop) : Prop :=
  match o.guard with
  | none => yes s
  | some (j, want) => (match ops[j]? with
    | some oj => (match oj.dst with
      | some d => (match look s.env d with
        | some (.kn b) => (match b, want with | true, true => yes s | false, false => yes s | _, _ => no s)
        | some (.val (.tuple _)) => no s
        | some (.val (.bool b)) => (match want with
          | true => ifVC b (putK s (some d) (.kn true) yes) (putK s (some d) (.kn false) no)
          | false => ifVC b (putK s (some d) (.kn true) no) (putK s (some d) (.kn false) yes))
        | _ => False)
      | none => False)
    | none => False)
/-- The slot of an operation that is not carried out holds nothing. -/
def dropEK (d : Nat) : List (Nat × SV) → (List (Nat × SV) → Prop) → Prop
  | [], K => K []
  | (i, sv) :: r, K => match Nat.beq i d with
    | true => dropEK d r K
    | false => dropEK d r fun r' => K ((i, sv) :: r')
def dropK (s : St) (dst : Option Tmp) (K : St → Prop) : Prop :=
  match s, dst with
  | ⟨e, b, n, m, o⟩, some d => dropEK d e fun e' => K ⟨e', b, n, m, o⟩
  | s, none => K s
noncomputable def vcList (C : Cx) (ops : List Oper) (l : List Oper) : St → (St → Prop) → Prop :=
  @List.rec Oper (fun _ => St → (St → Prop) → Prop) (fun s K => K s)
    (fun o _ ih s K => guardK ops o s (fun s => vcOp C o s fun s' => ih s' K) (fun s => dstK C.n o.dst (putK s o.dst (.val undef) fun s => ih s K))) l

/-! ### Regions whose order is drawn: reads first, new variables last, the rest in its one order -/
def quietOp : Op → Bool
  | .move _ | .assign _ | .pick .. | .unOp .. | .binOp .. | .field .. | .fieldAddr .. | .indexAddr .. | .index .. | .load .. | .extract .. | .build .. | .makeFunc .. | .convert .. => true
  | .call c => (match c.callee with | .builtin .len => true | .builtin .max => true | .builtin .min => true | _ => false)
  | .slice _ _ _ _ none => true
  | _ => false
def allocOp (o : Oper) : Bool :=
  match o.op, o.guard, o.dst, o.after.toList with
  | .alloc _, none, some _, [] => true
  | _, _, _, _ => false
def noSel : List Oper → Bool
  | [] => true
  | o :: r => match o.op with | .select .. => false | _ => noSel r
def depsIn (done : List Nat) : List Edge → Bool
  | [] => true
  | e :: r => match Region.binds .any e, memN e.on done with | true, false => false | _, _ => depsIn done r
def onEdge (i : Nat) : List Edge → Bool
  | [] => false
  | e :: r => match Region.binds .any e, Nat.beq e.on i with | true, true => true | _, _ => onEdge i r
def firstQ (done : List Nat) : Nat → List Oper → Option Nat
  | _, [] => none
  | i, o :: r => match quietOp o.op, memN i done, depsIn done o.after.toList with | true, false, true => some i | _, _, _ => firstQ done (i + 1) r
def candsOf (done al : List Nat) : Nat → List Oper → List Nat
  | _, [] => []
  | i, o :: r => match memN i done, memN i al, depsIn (al ++ done) o.after.toList with | false, false, true => i :: candsOf done al (i + 1) r | _, _, _ => candsOf done al (i + 1) r
def allocIdx : Nat → List Oper → List Nat
  | _, [] => []
  | i, o :: r => match allocOp o with | true => i :: allocIdx (i + 1) r | false => allocIdx (i + 1) r
/-- Whoever may come ahead of i leaves it alone. -/
def freeQ (ops : Array Oper) (done : List Nat) (i : Nat) (oi : Oper) : Nat → List Oper → Bool
  | _, [] => true
  | j, o :: r => match memN j done, Nat.beq j i, onEdge i o.after.toList, oi.apart ops o with | false, false, false, false => false | _, _, _, _ => freeQ ops done i oi (j + 1) r
/-- Nobody else writes slot d. -/
def soleDst (d j : Nat) : Nat → List Oper → Bool
  | _, [] => true
  | k, o :: r => match Nat.beq k j, o.dst with
    | false, some d' => (match Nat.beq d' d with | true => false | false => soleDst d j (k + 1) r)
    | _, _ => soleDst d j (k + 1) r
def findDst (t : Nat) : List Oper → Option Oper
  | [] => none
  | o :: r => match o.dst with
    | some d => (match Nat.beq d t with | true => some o | false => findDst t r)
    | none => findDst t r
/-- Which local a store of the region turns, as far as the state at its beginning tells. -/
def resolveTag (ops : List Oper) (s0 : St) : Nat → Operand → Option (Option Nat)
  | n + 1, .tmp t => (match findDst t ops with
    | some o => (match o.op with
      | .alloc _ => some none
      | .indexAddr .. => some none
      | .fieldAddr _ x _ => resolveTag ops s0 n x
      | .move x => resolveTag ops s0 n x
      | _ => none)
    | none => (match look s0.env t with | some (.loc tag _ _) => some (some tag) | some _ => some none | none => none))
  | _, _ => none
def modIdx (ops : List Oper) (s0 : St) : Nat → List Oper → Option (List (Nat × Nat))
  | _, [] => some []
  | i, o :: r => match o.op with
    | .store _ a _ => (match resolveTag ops s0 20 a, modIdx ops s0 (i + 1) r with
      | some (some t), some l => some ((i, t) :: l)
      | some none, some l => some l
      | _, _ => none)
    | _ => modIdx ops s0 (i + 1) r
/-- Is i ahead of x in every order? -/
def aheadE (go : Nat → Bool) (i : Nat) : List Edge → Bool
  | [] => false
  | e :: r => match Region.binds .any e with
    | true => (match Nat.beq e.on i with | true => true | false => (match go e.on with | true => true | false => aheadE go i r))
    | false => aheadE go i r
def ahead (ops : List Oper) (i : Nat) : Nat → Nat → Bool
  | 0, _ => false
  | n + 1, x => match ops[x]? with | some o => aheadE (ahead ops i n) i o.after.toList | none => false
/-- The writers of t all come behind i. -/
def cleanT (ops : List Oper) (i t : Nat) : List (Nat × Nat) → Bool
  | [] => true
  | (x, t') :: r => match Nat.beq t' t with
    | true => (match ahead ops i 20 x with | true => cleanT ops i t r | false => false)
    | false => cleanT ops i t r
def viewB (ops : List Oper) (ml : List (Nat × Nat)) (i : Nat) : List (Nat × Option LB) → List (Nat × Option LB)
  | [] => []
  | (t, some (.cells r cs ty)) :: l => (match cleanT ops i t ml with
    | true => (t, some (.cells r cs ty)) :: viewB ops ml i l
    | false => (t, none) :: viewB ops ml i l)
  | (t, _) :: l => (t, none) :: viewB ops ml i l
/-- The operations that may turn owned memory. -/
def ownIdx (ops : List Oper) (s0 : St) : Nat → List Oper → List Nat
  | _, [] => []
  | i, o :: r => match o.op with
    | .store _ a _ => (match resolveTag ops s0 20 a with | some (some _) => ownIdx ops s0 (i + 1) r | _ => i :: ownIdx ops s0 (i + 1) r)
    | .call c => (match c.callee with | .value _ => i :: ownIdx ops s0 (i + 1) r | _ => ownIdx ops s0 (i + 1) r)
    | _ => ownIdx ops s0 (i + 1) r
/-- They all come behind i. -/
def cleanO (ops : List Oper) (i : Nat) : List Nat → Bool
  | [] => true
  | x :: r => match ahead ops i 20 x with | true => cleanO ops i r | false => false
def owOk (ol : List Nat) (i : Nat) (ow : Bool) : Bool := match ow with | true => memN i ol | false => true
/-- What an operation that is taken first may look at. -/
def viewS (ops : List Oper) (ml : List (Nat × Nat)) (ol : List Nat) (s0 s : St) (i : Nat) : St :=
  ⟨s.env, viewB ops ml i s0.blk, s0.nxt + s.nxt, s0.mem, match cleanO ops i ol with | true => s0.own | false => Mem.nil⟩
def memP (i t : Nat) : List (Nat × Nat) → Bool
  | [] => false
  | (j, u) :: r => match Nat.beq j i, Nat.beq u t with | true, true => true | _, _ => memP i t r
def modsOk (s0 : St) (ml : List (Nat × Nat)) (i : Nat) : List Nat → Bool
  | [] => true
  | t :: r => match s0.lb t with
    | some (.cells ..) => (match memP i t ml with | true => modsOk s0 ml i r | false => false)
    | _ => modsOk s0 ml i r
def noElem (s0 s : St) (dst : Option Tmp) : Bool :=
  match dst with
  | some d => (match look s.env d with
    | some (.elem ..) => false
    | some (.loc t _ _) => (match s0.lb t with | none => true | some _ => false)
    | some (.row t _ _ _) => (match s0.lb t with | some (.cells ..) => false | _ => true)
    | some (.rel t _ _ _ _) => (match s0.lb t with | some (.cells ..) => false | _ => true)
    | _ => true)
  | none => true
def cleanSV (dirty : List Nat) (sv : SV) : Bool :=
  match sv with
  | .row t _ _ _ => !memN t dirty
  | .rel t _ _ _ _ => !memN t dirty
  | _ => true
def bornK (C : Cx) (ops : List Oper) : List Nat → St → (St → Prop) → Prop
  | [], s, K => K s
  | j :: js, s, K => match ops[j]? with
    | some o => vcOp C o s fun s => bornK C ops js s K
    | none => False
/-- The new variables that are wanted now. -/
def needOf (done : List Nat) (es : List Edge) : List Nat → List Nat
  | [] => []
  | j :: r => match memN j done, onEdge j es with | false, true => j :: needOf done es r | _, _ => needOf done es r
def undone (done : List Nat) : List Nat → List Nat
  | [] => []
  | j :: r => match memN j done with | true => undone done r | false => j :: undone done r
def okK (b : Bool) (A : Prop) : Prop := match b with | true => A | false => False
noncomputable def vcD (C : Cx) (ops : List Oper) (ml : List (Nat × Nat)) (ol al : List Nat) (s0 : St) (n : Nat) : List Nat → List Nat → St → (St → Prop) → Prop :=
  @Nat.rec (fun _ => List Nat → List Nat → St → (St → Prop) → Prop) (fun _ _ _ _ => False)
    (fun _ ih dirty done s K => match firstQ done 0 ops with
    | some i => (match ops[i]? with
      | some o => okK (freeQ ops.toArray done i o 0 ops) <| dstK C.n o.dst <| guardK ops o s
          (fun s => vcVal C (viewS ops ml ol s0 s i) o.op fun sv => okK (cleanSV dirty sv) <| putK s o.dst sv fun s => ih dirty (i :: done) s K)
          (fun s => putK s o.dst (.val undef) fun s => ih dirty (i :: done) s K)
      | none => False)
    | none => (match candsOf done al 0 ops with
      | [] => bornK C ops (undone done al) s K
      | [i] => (match ops[i]? with
        | some o => dstK C.n o.dst <| bornK C ops (needOf done o.after.toList al) s fun s => guardK ops o s
            (fun s => okK (modsOk s0 ml i (modsOf s o.op)) <| okK (owOk ol i (owOf s o.op)) <| vcOp C o s fun s' => okK (noElem s0 s' o.dst) <| ih (modsOf s o.op ++ dirty) (i :: (needOf done o.after.toList al ++ done)) s' K)
            (fun s => putK s o.dst (.val undef) fun s => ih dirty (i :: (needOf done o.after.toList al ++ done)) s K)
        | none => False)
      | _ => False)) n
def dropAllK (C : Cx) (ops : List Oper) : List Nat → St → (St → Prop) → Prop
  | [], s, K => K s
  | j :: js, s, K => match ops[j]? with
    | some o => (match o.dst with
      | some d => (match o.op with
        | .alloc t => tyK C t fun _ => dstK C.n (some d) <| okK (soleDst d j 0 ops) <| dropK s (some d) fun s => dropAllK C ops js s K
        | _ => False)
      | none => False)
    | none => False
noncomputable def vcDraw (C : Cx) (ops : List Oper) (s : St) (K : St → Prop) : Prop :=
  okK (noSel ops) <| match modIdx ops s 0 ops with
    | some ml => dropAllK C ops (allocIdx 0 ops) s fun s => vcD ⟨C.P, C.tt, C.n, [], true⟩ ops ml (ownIdx ops s 0 ops) (allocIdx 0 ops) s (ops.length + 1) [] [] s K
    | none => False
/-! ### Code -/
inductive Ex where
  | normal | ret | exit (id : Nat)
def tagsBelow (n : Nat) (sv : SV) : Bool :=
  match sv with
  | .loc t _ _ => Nat.blt t n
  | .row t _ _ _ => Nat.blt t n
  | .rel t _ _ _ _ => Nat.blt t n
  | _ => true
def scopedE (n : Nat) : List (Nat × SV) → Bool
  | [] => true
  | (_, sv) :: r => (match tagsBelow n sv with | true => scopedE n r | false => false)
def scopedC (n : Nat) : List SV → Bool
  | [] => true
  | sv :: r => (match tagsBelow n sv with | true => scopedC n r | false => false)
def scopedB (n : Nat) : List (Nat × Option LB) → Bool
  | [] => true
  | (t, some (.cells _ cs _)) :: r => (match Nat.blt t n, scopedC n cs with | true, true => scopedB n r | _, _ => false)
  | (t, _) :: r => (match Nat.blt t n with | true => scopedB n r | false => false)
/-- A bool that is known, and one that is not, are one value. -/
def SV.gen : SV → SV
  | .kn b => .val (.bool b)
  | sv => sv
def LB.gen : LB → LB
  | .cells r cs ty => .cells r (cs.map SV.gen) ty
  | lb => lb
/-- What the one list says, the other says too. -/
def SubE (l' : List (Nat × SV)) : List (Nat × SV) → Prop
  | [] => True
  | (i, sv) :: r => (look l' i).map SV.gen = some sv.gen ∧ SubE l' r
def SubB (s' : St) : List (Nat × Option LB) → Prop
  | [] => True
  | (t, some lb) :: r => (s'.lb t).map LB.gen = some lb.gen ∧ SubB s' r
  | (_, none) :: r => SubB s' r
/-- A state that holds all that another one says. -/
structure St.Sub (s' s : St) : Prop where
  env : SubE s'.env s.env
  blk : SubB s' s.blk
  mem : s'.mem = s.mem
  own : s'.own = s.own
/-- A nil slice may be seen as an empty row of one's own, under a new tag. -/
def NilAs (n : Nat) (sv' sv : SV) : Prop := sv'.gen = sv.gen ∨ ∃ t, sv = .row t none 0 0 ∧ sv' = .val (.slice none 0 0) ∧ n ≤ t
def NilC (n : Nat) : List SV → List SV → Prop
  | [], [] => True
  | a :: l, b :: r => NilAs n a b ∧ NilC n l r
  | _, _ => False
def SubEN (n : Nat) (l' : List (Nat × SV)) : List (Nat × SV) → Prop
  | [] => True
  | (i, sv) :: r => (∃ sv', look l' i = some sv' ∧ NilAs n sv' sv) ∧ SubEN n l' r
def SubBN (s' : St) : List (Nat × Option LB) → Prop
  | [] => True
  | (t, some lb) :: r => (s'.lb t = some lb ∨ (∃ ty es, lb = .row none 0 ty es [] ∧ s'.nxt ≤ t) ∨ ∃ b cs cs' ty, lb = .cells b cs ty ∧ s'.lb t = some (.cells b cs' ty) ∧ NilC s'.nxt cs' cs) ∧ SubBN s' r
  | (_, none) :: r => SubBN s' r
structure St.SubN (s' s : St) : Prop where
  env : SubEN s'.nxt s'.env s.env
  blk : SubBN s' s.blk
  mem : s'.mem = s.mem
  own : s'.own = s.own
structure loopVC (body : St → (Ex → St → Prop) → Prop) (s : St) (K : Ex → St → Prop) : Prop where
  out : ∃ (ι : Type) (I : ι → Prop) (σ : ι → St) (m : ι → Nat) (i0 : ι), I i0 ∧ (∀ i, scopedE (σ i).nxt (σ i).env = true ∧ scopedB (σ i).nxt (σ i).blk = true) ∧ (s.Sub (σ i0) ∨ s.SubN (σ i0)) ∧
      ∀ i, I i → body (σ i) fun e s' => match e with
        | .normal => ∃ i', I i' ∧ m i' < m i ∧ s'.Sub (σ i')
        | e => K e s'
def condVC (c : SV) (A B : Prop) : Prop :=
  match c with
  | .kn true => A
  | .kn false => B
  | .val (.bool b) => ifVC b A B
  | _ => False
noncomputable def vcCode (C : Cx) (c : Code) : St → (Ex → St → Prop) → Prop :=
  @Code.rec (fun _ => St → (Ex → St → Prop) → Prop)
    (fun s K => K .normal s)
    (fun _ ops draw s K => match draw with
      | false => vcList C ops.toList ops.toList s fun s => K .normal s
      | true => vcDraw C ops.toList s fun s => K .normal s)
    (fun _ _ iha ihb s K => iha s fun e s => match e with
      | .normal => ihb s K
      | e => K e s)
    (fun c _ _ iht ihe s K => evK s c fun c => condVC c (iht s K) (ihe s K))
    (fun id _ ih s K => ih s fun e s => match e with
      | .exit j => (match Nat.beq j id with | true => K .normal s | false => K (.exit j) s)
      | e => K e s)
    (fun _ ih s K => loopVC (fun s K => ih s K) s K)
    (fun _ _ _ _ _ _ _ _ => False)
    (fun id s K => K (.exit id) s)
    (fun _ _ _ _ => False)
    (fun _ s K => K .normal s)
    (fun _ _ _ => False)
    (fun s K => K .ret s)
    (fun _ _ _ => False) c
/-- The results: out of slots, or out of the call's own variables. -/
noncomputable def resK (C : Cx) (s : St) (l : List ResultVar) : (List Value → Prop) → Prop :=
  @List.rec ResultVar (fun _ => (List Value → Prop) → Prop) (fun K => K [])
    (fun x _ ih K => match x with
      | .tmp t => evK s (.tmp t) fun sv => concK sv fun v => ih fun vs => K (v :: vs)
      | .cell a t => evK s (.tmp a) fun
        | .loc tag r0 off => loadK C s t (.loc tag r0 off) fun sv => concK sv fun v => ih fun vs => K (v :: vs)
        | .val (.pointer (some ad)) => loadK C s t (.val (.pointer (some ad))) fun sv => concK sv fun v => ih fun vs => K (v :: vs)
        | _ => False) l
structure retVC (s : St) (v : Value) (R : Value → Mem → Mem → Prop) : Prop where
  out : ∃ fz, frzVC fz s fun s => R v s.mem s.own ∨ ∃ g k, Parts s.own g k ∧ R v (s.mem.join g) k
def argsK : Nat → List Value → (List (Nat × SV) → Prop) → Prop
  | _, [], K => K []
  | i, v :: l, K => argsK (i + 1) l fun r => K ((i, .val v) :: r)
noncomputable def vcFun (P : Program) (tt : List (Nat × TI)) (os : List Nat) (fn : Func) (args : List Value) (μ h : Mem) (R : Value → Mem → Mem → Prop) : Prop :=
  match fn.body with
  | none => False
  | some c => leK (fn.params.size + fn.nfree) fn.ntmps <| lenIs (fn.params.size + fn.nfree) args (argsK 0 args fun e => vcCode ⟨P, tt, fn.ntmps, os, false⟩ c ⟨e, [], 0, μ, h⟩ fun e s =>
    match e with
    | .exit _ => False
    | _ => resK ⟨P, tt, fn.ntmps, os, false⟩ s fn.results.toList fun vs => (match vs with | [v] => retVC s v R | vs => retVC s (.tuple vs.toArray) R))

/-! ### How a stop is answered -/
theorem if_intro {b : Bool} {A B : Prop} (h : b = true → A) (k : b = false → B) : ifVC b A B := ⟨⟨h, k⟩⟩
theorem num_intro {r : Int} {K : Int → Prop} (h : ∀ x, x = r → K x) : numVC r K := ⟨h⟩
theorem num_eq {r x : Int} {K : Int → Prop} (e : r = x) (h : K x) : numVC r K := ⟨fun y hy => by subst hy; subst e; exact h⟩
theorem elem_intro {μ : Mem} {base : Option Addr} {n es : Nat} {i : Int} {K : Addr → List Value → Prop} {K' : Addr → Prop} {a : Addr} {cs : List Value} (h : ElemAt μ base n es i a cs) (k : K a cs) : elemVC μ base n es i K K' := ⟨.inl ⟨a, cs, h, k⟩⟩
theorem ptr_intro {μ : Mem} {base : Option Addr} {n es : Nat} {i : Int} {K : Addr → List Value → Prop} {K' : Addr → Prop} (a0 : Addr) (h : base = some a0) (h0 : 0 ≤ i) (h1 : i < n) (k : K' (a0.add (i.toNat * es))) : elemVC μ base n es i K K' := ⟨.inr ⟨a0, h, h0, h1, k⟩⟩
theorem rel_intro {n : Nat} {i : Int} {K : Nat → Prop} (j : Nat) (e : i = j) (h : j < n) (k : K j) : relVC n i K := ⟨⟨j, e, h, k⟩⟩
theorem get_intro {xs : List Value} {i : Nat} {K : Value → Prop} (v : Value) (h : xs[i]? = some v) (k : K v) : getVC xs i K := ⟨⟨v, h, k⟩⟩
theorem ext_intro {μ h : Mem} {a : Addr} {size : Nat} {K : List Value → Prop} (cs : List Value) (l : cs.length = size) (e : ∀ j v, cs[j]? = some v → μ.cell (a.add j) = some v) (k : K cs) : extVC μ h a size K := ⟨⟨cs, l, .inl e, k⟩⟩
theorem own_intro {μ h : Mem} {a : Addr} {size : Nat} {K : List Value → Prop} (cs : List Value) (l : cs.length = size) (e : ∀ j v, cs[j]? = some v → h.cell (a.add j) = some v) (k : K cs) : extVC μ h a size K := ⟨⟨cs, l, .inr e, k⟩⟩
theorem sto_intro {h : Mem} {a : Addr} {vs : List Value} {K : Mem → Prop} (cs : List Value) (ty : TypeId) (e : h a.block = some (.cells cs.toArray ty (0, 0))) (e1 : a.spot = none) (e2 : a.off + vs.length ≤ cs.length) (k : K (h.set a.block (.cells (List.toArray (cs.take a.off ++ vs ++ cs.drop (a.off + vs.length))) ty (0, 0)))) : stoVC h a vs K := ⟨⟨cs, ty, e, e1, e2, k⟩⟩
theorem bytes_intro {xs : List Value} {K : List UInt8 → Prop} (bs : List UInt8) (e : xs = bs.map (fun b => .int .u8 (b.toNat : Int))) (k : K bs) : bytesVC xs K := ⟨⟨bs, e, k⟩⟩
theorem cut_intro {lo hi cap : Int} {K : Nat → Nat → Prop} (l h : Nat) (e1 : lo = l) (e2 : hi = h) (e3 : l ≤ h) (e4 : (h : Int) ≤ cap) (k : K l h) : cutVC lo hi cap K := ⟨⟨l, h, e1, e2, e3, e4, k⟩⟩
theorem need_intro {p K : Prop} (h : p) (k : K) : needVC p K := ⟨⟨h, k⟩⟩
theorem byte_intro {s : ByteArray} {i : Int} {K : UInt8 → Prop} (j : Nat) (b : UInt8) (e : i = j) (h : s.data.toList[j]? = some b) (k : K b) : byteVC s i K := ⟨⟨j, b, e, h, k⟩⟩
theorem src_intro {μ : Mem} {base : Option Addr} {n es : Nat} {K : List Value → Prop} (ys : List Value) (h : SrcAt μ base n es ys) (k : K ys) : srcVC μ base n es K := ⟨⟨ys, h, k⟩⟩
theorem grow_intro {need bytes : Nat} {empty : Prop} {K : Option Nat → Nat → Prop} (h : need * bytes ≤ 140737488355328) (h' : need ≤ maxLen) (k : ∀ base' cap', (base' = none → empty) → K base' cap') : growVC need bytes empty K := ⟨⟨h, h', k⟩⟩
theorem call_plain {dr : Bool} {P : Program} {f : FuncId} {args : List Value} {s : St} {K : Value → St → Prop} {R : Value → Mem → Prop} (h : Spec P f args s.mem R)
    (k : ∀ v μ', s.mem.Le μ' → R v μ' → memK s μ' fun s => K v s) : callVC dr P f args s K := ⟨⟨[], [], fun _ => rfl, .inl ⟨R, h, k⟩⟩⟩
/-- A call that is lent all owned memory. -/
theorem call_own {dr : Bool} {P : Program} {f : FuncId} {args : List Value} {s : St} {K : Value → St → Prop} {R : Value → Mem → Mem → Prop} (h : SpecH P f args s.mem s.own R)
    (k : ∀ v μ' h', s.mem.Le μ' → Apart μ' h' → R v μ' h' → memOwnK s μ' h' fun s => K v s) : callVC dr P f args s K := ⟨⟨[], [], fun _ => rfl, .inr ⟨R, h, k⟩⟩⟩
/-- A call of the general kind: locals become frozen data; other ones become owned memory. -/
theorem call_gen {dr : Bool} {P : Program} {f : FuncId} {args : List Value} {s : St} {K : Value → St → Prop} (fz gv : List Nat) (hd : dr = true → gv = [])
    (h : frzVC fz s fun s => giveVC gv s fun s => (∃ R, Spec P f args s.mem R ∧ ∀ v μ', s.mem.Le μ' → R v μ' → memK s μ' fun s => K v s) ∨
      ∃ R, SpecH P f args s.mem s.own R ∧ ∀ v μ' h', s.mem.Le μ' → Apart μ' h' → R v μ' h' → memOwnK s μ' h' fun s => K v s) : callVC dr P f args s K := ⟨⟨fz, gv, hd, h⟩⟩
theorem own_go {P : Program} {f : FuncId} {args : List Value} {μ h0 : Mem} {K : Value → Mem → Prop} {K' : Value → Mem → Mem → Prop} {R : Value → Mem → Mem → Prop} (h : SpecH P f args μ h0 R)
    (k : ∀ v μ' h', μ.Le μ' → Apart μ' h' → R v μ' h' → K' v μ' h') : (∃ R, Spec P f args μ R ∧ ∀ v μ', μ.Le μ' → R v μ' → K v μ') ∨ ∃ R, SpecH P f args μ h0 R ∧ ∀ v μ' h', μ.Le μ' → Apart μ' h' → R v μ' h' → K' v μ' h' := .inr ⟨R, h, k⟩
theorem call_frz {dr : Bool} {P : Program} {f : FuncId} {args : List Value} {s : St} {K : Value → St → Prop} (fz : List Nat)
    (h : frzVC fz s fun s => (∃ R, Spec P f args s.mem R ∧ ∀ v μ', s.mem.Le μ' → R v μ' → memK s μ' fun s => K v s) ∨
      ∃ R, SpecH P f args s.mem s.own R ∧ ∀ v μ' h', s.mem.Le μ' → Apart μ' h' → R v μ' h' → memOwnK s μ' h' fun s => K v s) : callVC dr P f args s K := ⟨⟨fz, [], fun _ => rfl, h⟩⟩
theorem call_go {P : Program} {f : FuncId} {args : List Value} {μ h0 : Mem} {K : Value → Mem → Prop} {K' : Value → Mem → Mem → Prop} {R : Value → Mem → Prop} (h : Spec P f args μ R)
    (k : ∀ v μ', μ.Le μ' → R v μ' → K v μ') : (∃ R, Spec P f args μ R ∧ ∀ v μ', μ.Le μ' → R v μ' → K v μ') ∨ ∃ R, SpecH P f args μ h0 R ∧ ∀ v μ' h', μ.Le μ' → Apart μ' h' → R v μ' h' → K' v μ' h' := .inl ⟨R, h, k⟩
theorem ret_plain {s : St} {v : Value} {R : Value → Mem → Mem → Prop} (h : R v s.mem s.own) : retVC s v R := ⟨⟨[], .inl h⟩⟩
theorem ret_frz {s : St} {v : Value} {R : Value → Mem → Mem → Prop} (fz : List Nat) (h : frzVC fz s fun s => R v s.mem s.own ∨ ∃ g k, Parts s.own g k ∧ R v (s.mem.join g) k) : retVC s v R := ⟨⟨fz, h⟩⟩
theorem ret_own {s : St} {v : Value} {R : Value → Mem → Mem → Prop} (g k : Mem) (hp : Parts s.own g k) (h : R v (s.mem.join g) k) : retVC s v R := ⟨⟨[], .inr ⟨g, k, hp, h⟩⟩⟩
theorem loop_intro {body : St → (Ex → St → Prop) → Prop} {s : St} {K : Ex → St → Prop} {ι : Type} (I : ι → Prop) (σ : ι → St) (m : ι → Nat) (i0 : ι) (h0 : I i0)
    (h1 : ∀ i, scopedE (σ i).nxt (σ i).env = true ∧ scopedB (σ i).nxt (σ i).blk = true) (h2 : s.Sub (σ i0))
    (h3 : ∀ i, I i → body (σ i) fun e s' => match e with
      | .normal => ∃ i', I i' ∧ m i' < m i ∧ s'.Sub (σ i')
      | e => K e s') : loopVC body s K := ⟨⟨ι, I, σ, m, i0, h0, h1, .inl h2, h3⟩⟩
theorem loop_nil {body : St → (Ex → St → Prop) → Prop} {s : St} {K : Ex → St → Prop} {ι : Type} (I : ι → Prop) (σ : ι → St) (m : ι → Nat) (i0 : ι) (h0 : I i0)
    (h1 : ∀ i, scopedE (σ i).nxt (σ i).env = true ∧ scopedB (σ i).nxt (σ i).blk = true) (h2 : s.SubN (σ i0))
    (h3 : ∀ i, I i → body (σ i) fun e s' => match e with
      | .normal => ∃ i', I i' ∧ m i' < m i ∧ s'.Sub (σ i')
      | e => K e s') : loopVC body s K := ⟨⟨ι, I, σ, m, i0, h0, h1, .inr h2, h3⟩⟩
theorem make_intro {l c : Int} {bytes : Nat} {K : Nat → Prop} (n : Nat) (e : l = n) (e' : l = c) (h : n * bytes ≤ 140737488355328) (h' : n ≤ maxLen) (k : K n) : makeVC l c bytes K := ⟨⟨e', n, e, h, h', k⟩⟩
theorem make_elim {l c : Int} {bytes : Nat} {K : Nat → Prop} (h : makeVC l c bytes K) : l = c ∧ ∃ n : Nat, l = n ∧ n * bytes ≤ 140737488355328 ∧ n ≤ maxLen ∧ K n := h.out
theorem if_elim {b : Bool} {A B : Prop} (h : ifVC b A B) : (b = true → A) ∧ (b = false → B) := h.out
theorem num_elim {r : Int} {K : Int → Prop} (h : numVC r K) : K r := h.out r rfl
theorem elem_elim {μ : Mem} {base : Option Addr} {n es : Nat} {i : Int} {K : Addr → List Value → Prop} {K' : Addr → Prop} (h : elemVC μ base n es i K K') : (∃ a cs, ElemAt μ base n es i a cs ∧ K a cs) ∨ ∃ a0, base = some a0 ∧ 0 ≤ i ∧ i < n ∧ K' (a0.add (i.toNat * es)) := h.out
theorem rel_elim {n : Nat} {i : Int} {K : Nat → Prop} (h : relVC n i K) : ∃ j : Nat, i = j ∧ j < n ∧ K j := h.out
theorem get_elim {xs : List Value} {i : Nat} {K : Value → Prop} (h : getVC xs i K) : ∃ v, xs[i]? = some v ∧ K v := h.out
theorem ext_elim {μ h0 : Mem} {a : Addr} {size : Nat} {K : List Value → Prop} (h : extVC μ h0 a size K) : ∃ cs, cs.length = size ∧ ((∀ j v, cs[j]? = some v → μ.cell (a.add j) = some v) ∨ ∀ j v, cs[j]? = some v → h0.cell (a.add j) = some v) ∧ K cs := h.out
theorem sto_elim {h : Mem} {a : Addr} {vs : List Value} {K : Mem → Prop} (k : stoVC h a vs K) : ∃ cs ty, h a.block = some (.cells (List.toArray cs) ty (0, 0)) ∧ a.spot = none ∧ a.off + vs.length ≤ cs.length ∧ K (h.set a.block (.cells (List.toArray (cs.take a.off ++ vs ++ cs.drop (a.off + vs.length))) ty (0, 0))) := k.out
theorem bytes_elim {xs : List Value} {K : List UInt8 → Prop} (h : bytesVC xs K) : ∃ bs : List UInt8, xs = bs.map (fun b => .int .u8 (b.toNat : Int)) ∧ K bs := h.out
theorem cut_elim {lo hi cap : Int} {K : Nat → Nat → Prop} (k : cutVC lo hi cap K) : ∃ l h : Nat, lo = l ∧ hi = h ∧ l ≤ h ∧ (h : Int) ≤ cap ∧ K l h := k.out
theorem need_elim {p K : Prop} (h : needVC p K) : p ∧ K := h.out
theorem byte_elim {s : ByteArray} {i : Int} {K : UInt8 → Prop} (h : byteVC s i K) : ∃ (j : Nat) (b : UInt8), i = j ∧ s.data.toList[j]? = some b ∧ K b := h.out
theorem src_elim {μ : Mem} {base : Option Addr} {n es : Nat} {K : List Value → Prop} (h : srcVC μ base n es K) : ∃ ys, SrcAt μ base n es ys ∧ K ys := h.out
theorem grow_elim {need bytes : Nat} {empty : Prop} {K : Option Nat → Nat → Prop} (h : growVC need bytes empty K) : need * bytes ≤ 140737488355328 ∧ need ≤ maxLen ∧ ∀ base' cap', (base' = none → empty) → K base' cap' := h.out
theorem call_elim {dr : Bool} {P : Program} {f : FuncId} {args : List Value} {s : St} {K : Value → St → Prop} (h : callVC dr P f args s K) :
    ∃ fz gv, (dr = true → gv = []) ∧ frzVC fz s fun s => giveVC gv s fun s => (∃ R, Spec P f args s.mem R ∧ ∀ v μ', s.mem.Le μ' → R v μ' → memK s μ' fun s => K v s) ∨
      ∃ R, SpecH P f args s.mem s.own R ∧ ∀ v μ' h', s.mem.Le μ' → Apart μ' h' → R v μ' h' → memOwnK s μ' h' fun s => K v s := h.out
theorem ret_elim {s : St} {v : Value} {R : Value → Mem → Mem → Prop} (h : retVC s v R) : ∃ fz, frzVC fz s fun s => R v s.mem s.own ∨ ∃ g k, Parts s.own g k ∧ R v (s.mem.join g) k := h.out
theorem loop_elim {body : St → (Ex → St → Prop) → Prop} {s : St} {K : Ex → St → Prop} (h : loopVC body s K) :
    ∃ (ι : Type) (I : ι → Prop) (σ : ι → St) (m : ι → Nat) (i0 : ι), I i0 ∧ (∀ i, scopedE (σ i).nxt (σ i).env = true ∧ scopedB (σ i).nxt (σ i).blk = true) ∧ (s.Sub (σ i0) ∨ s.SubN (σ i0)) ∧
    ∀ i, I i → body (σ i) fun e s' => match e with
      | .normal => ∃ i', I i' ∧ m i' < m i ∧ s'.Sub (σ i')
      | e => K e s' := h.out
end Go.Vx
