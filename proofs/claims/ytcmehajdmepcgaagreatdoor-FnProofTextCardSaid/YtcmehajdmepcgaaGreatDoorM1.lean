/- Texts of the proof, part M1. -/
import Derived.Below
import Derived.Laws.BytesString
import Derived.Laws.Cover3
import Derived.Laws.IdiomStrings
import Derived.Lib.AppendStr
import Derived.Lib.AppendZerosOnto
import Derived.MapKept
import Derived.Maps.RangeRun
import Derived.Orders
import Derived.WalkKit
import Derived.WideKeyMaps
namespace Go.Vx
abbrev Mem:=Nat→Option Obj
def Mem.cell(μ:Mem)(a:Addr):Option Value:=
 match μ a.block with
 |some (.cells c _ _)=>if a.spot.isSome then none else c[a.off]?
 |_=>none
def Mem.Le(μ μ':Mem):Prop:=∀b o,μ b=some o→μ' b=some o
def Mem.nil:Mem:=fun _=>none
def Mem.set(h:Mem)(r:Nat)(o:Obj):Mem:=fun b=>if b=r then some o else h b
def Mem.join(μ g:Mem):Mem:=fun b=>match μ b with|some o=>some o|none=>g b
def Parts(h g k:Mem):Prop:=∀b,(h b=g b∧k b=none)∨(h b=k b∧g b=none)
inductive TK where
 |int (k:IntKind)|bool|str|slice (e:TypeId)|strct (fs:List (Nat×TypeId))|map (k e:TypeId)|ptr (e:TypeId)|func|iface|tuple|other
structure TI where
 size:Nat
 agg:Bool
 bytes:Nat
 zero:List Value
 kind:TK
def aB:Value→List Value
 | .agg cs=>cs.toList
 |v=>[v]
def qNa:TypeDesc→Bool
 | .struct _=>true
 | .array _ _=>true
 |_=>false
def qBi:TypeDesc→Option (List (Nat×TypeId))
 | .struct fs=>some (fs.toList.map fun f=>(f.offset,f.type))
 |_=>none
def uV(P:Program)(t:TypeId):TK→Prop
 | .int k=>P.underlying t=some (.int k)
 | .bool=>P.underlying t=some .bool
 | .str=>P.underlying t=some .string
 | .slice e=>P.underlying t=some (.slice e)
 | .strct fs=>(P.underlying t).bind qBi=some fs∧(fs.mapM fun f=>(P.info? f.2).map fun i=>(f.1,i.size)).isSome=true
 | .map k e=>P.underlying t=some (.map k e)
 | .ptr e=>P.underlying t=some (.pointer e)
 | .iface=>P.underlying t=some (.interface (P.methodsAt t))
 |_=>True
def cU(i:TI):Value:=match i.agg,i.zero with|true,z=> .agg z.toArray|false,[v]=>v|_,_=> .tuple #[]
structure TIok (P:Program) (t:TypeId) (i:TI):Prop where
 info:(P.info? t).map (fun i=>(i.size,i.bytes))=some (i.size,i.bytes)
 zero:(P.info? t).map (fun i=>i.zero.map aB)=some (some i.zero)
 agg:(P.underlying t).map qNa=some i.agg
 zlen:i.zero.length=i.size
 zv:(P.info? t).map (·.zero)=some (some (cU i))
 kind:uV P t i.kind
def TTok(P:Program):List (Nat×TI)→Prop
 |[]=>True
 |(t,i)::r=>TIok P t i∧TTok P r
def dT:List (Value×Value)→Nat→List MapEntry
 |[],_=>[]
 |(k,v)::r,i=>⟨k,v,i⟩::dT r (i+1)
def bV(l:List (Value×Value)):Obj:= .map (dT l 0).toArray l.length
open Classical in
noncomputable def fZ:List (Value×Value)→Value→Option Value
 |[],_=>none
 |(a,v)::r,k=>if a=k then some v else fZ r k
open Classical in
noncomputable def dH:List (Value×Value)→Value→Value→List (Value×Value)
 |[],k,v=>[(k,v)]
 |(a,x)::r,k,v=>if a=k then(k,v)::r else(a,x)::dH r k v
def cW(m n:Nat)(seen:List Nat)(c:Nat):Obj:= .mapIter (some m) n seen.toArray c
def eS(P:Program)(kt:TypeId)(ti:TI)(v:Value):Prop:=
 match ti.kind,v with
 | .int k,.int k' _=>k'=k
 | .str,.string _=>True
 | .bool,.bool _=>True
 | .strct _,v=>WideMaps.KeyLaw P kt∧∃l,keyOf P kt v=some l
 |_,_=>False
structure MapOk (ok:Value→Prop) (l:List (Value×Value)):Prop where
 keys:∀p∈l,ok p.1
 nodup:(l.map Prod.fst).Nodup
inductive SV where
 |val (v:Value)
 |kn (b:Bool)
 |loc (tag r off:Nat)
 |row (tag:Nat) (base:Option Nat) (n cap:Nat)
 |elem (a:Addr) (cs:List Value) (off:Nat)
 |rel (tag:Nat) (base:Option Nat) (es i off:Nat)
def SV.conc:SV→Value
 | .val v=>v
 | .kn b=> .bool b
 | .loc _ r off=> .pointer (some ⟨r,off,none⟩)
 | .row _ base n cap=> .slice (base.map fun r=>⟨r,0,none⟩) n cap
 | .elem a _ off=> .pointer (some (a.add off))
 | .rel _ base es i off=> .pointer (base.map fun r=>⟨r,i*es+off,none⟩)
inductive LB where
 |cells (r:Nat) (cs:List SV) (ty:TypeId)
 |row (base:Option Nat) (cap:Nat) (ty:TypeId) (es:Nat) (xs:List Value)
 |map (r:Nat) (en:Array MapEntry) (ck:Nat)
def LB.blk?:LB→Option Nat
 | .cells r _ _=>some r
 | .row base _ _ _ _=>base
 | .map r _ _=>some r
structure St where
 env:List (Nat×SV)
 blk:List (Nat×Option LB)
 nxt:Nat
 mem:Mem
 own:Mem
def bD{α:Type}:List (Nat×α)→Nat→Option α
 |[],_=>none
 |(i,x)::r,k=>match Nat.beq i k with|true=>some x|false=>bD r k
def St.lb(s:St)(t:Nat):Option LB:=match bD s.blk t with|some x=>x|none=>none
structure Cx where
 P:Program
 tt:List (Nat×TI)
 n:Nat
 os:List Nat
 dr:Bool
def ev(s:St):Operand→Option SV
 | .tmp t=>bD s.env t
 | .const v=>match v with| .bool b=>some (.kn b)|v=>some (.val v)
 | .func f=>some (.val (.func (.func f) #[] #[]))
 | .global g=>some (.val (.pointer (some ⟨g,0,none⟩)))
def evK(s:St)(x:Operand)(K:SV→Prop):Prop:=match ev s x with|some sv=>K sv|none=>False
def iR(sv:SV)(K:Value→Prop):Prop:=
 match sv with
 | .val v=>K v
 | .kn b=>K (.bool b)
 | .loc _ r off=>K (.pointer (some ⟨r,off,none⟩))
 | .row _ base n cap=>K (.slice (base.map fun r=>⟨r,0,none⟩) n cap)
 | .elem a _ off=>K (.pointer (some (a.add off)))
 | .rel _ base es i off=>K (.pointer (base.map fun r=>⟨r,i*es+off,none⟩))
def kL:List SV→(List Value→Prop)→Prop
 |[],K=>K []
 |sv::l,K=>iR sv fun v=>kL l fun vs=>K (v::vs)
def qDc(s:St):List Operand→(List Value→Prop)→Prop
 |[],K=>K []
 |x::l,K=>evK s x fun sv=>iR sv fun v=>qDc s l fun vs=>K (v::vs)
def qMi{α:Type}:List α→List α→(List α→Prop)→Prop
 |[],m,K=>K m
 |x::l,m,K=>qMi l m fun r=>K (x::r)
def sS{α:Type}:List α→Nat→Nat→(List α→Prop)→Prop
 |_,_,0,K=>K []
 |x::l,0,n+1,K=>sS l 0 n fun r=>K (x::r)
 |_::l,m+1,n+1,K=>sS l m (n+1) K
 |[],_,_+1,_=>False
def lL{α:Type}:List α→Nat→List α→(List α→Prop)→Prop
 |l,0,[],K=>K l
 |_::l,0,v::vs,K=>lL l 0 vs fun r=>K (v::r)
 |x::l,m+1,vs,K=>lL l m vs fun r=>K (x::r)
 |[],_,_,_=>False
def vals:List Value→List SV
 |[]=>[]
 |v::l=> .val v::vals l
def tyK(C:Cx)(t:TypeId)(K:TI→Prop):Prop:=match bD C.tt t with|some i=>K i|none=>False
def qJz(C:Cx)(t:TypeId)(f:Nat)(K:Nat→TI→Prop):Prop:=
 tyK C t fun i=>match i.kind with
  | .strct fs=>match fs[f]? with
   |some (off,ft)=>tyK C ft fun j=>K off j
   |none=>False
  |_=>False
structure numVC (r:Int) (K:Int→Prop):Prop where
 out:∀x,x=r→K x
structure ElemAt (μ:Mem) (base:Option Addr) (n es:Nat) (i:Int) (a:Addr) (cs:List Value):Prop where
 lo:0≤i
 hi:i<n
 addr:∃a0,base=some a0∧a=a0.add (i.toNat*es)
 len:cs.length=es
 cell:∀j v,cs[j]? =some v→μ.cell (a.add j)=some v
structure elemVC (μ:Mem) (base:Option Addr) (n es:Nat) (i:Int) (K:Addr→List Value→Prop) (K':Addr→Prop):Prop where
 out:(∃a cs,ElemAt μ base n es i a cs∧K a cs)∨∃a0,base=some a0∧0≤i∧i<n∧K' (a0.add (i.toNat*es))
structure relVC (n:Nat) (i:Int) (K:Nat→Prop):Prop where
 out:∃j:Nat,i=j∧j<n∧K j
structure getVC (xs:List Value) (i:Nat) (K:Value→Prop):Prop where
 out:∃v,xs[i]? =some v∧K v
structure extVC (μ h:Mem) (a:Addr) (size:Nat) (K:List Value→Prop):Prop where
 out:∃cs,cs.length=size∧((∀j v,cs[j]? =some v→μ.cell (a.add j)=some v)∨∀j v,cs[j]? =some v→h.cell (a.add j)=some v)∧K cs
structure stoVC (h:Mem) (a:Addr) (vs:List Value) (K:Mem→Prop):Prop where
 out:∃cs ty,h a.block=some (.cells (List.toArray cs) ty (0,0))∧a.spot=none∧a.off+vs.length≤cs.length∧K (h.set a.block (.cells (List.toArray (cs.take a.off++vs++cs.drop (a.off+vs.length))) ty (0,0)))
structure cutVC (lo hi cap:Int) (K:Nat→Nat→Prop):Prop where
 out:∃l h:Nat,lo=l∧hi=h∧l≤h∧(h:Int)≤cap∧K l h
structure lookVC (μ h:Mem) (r:Nat) (ok:Value→Prop) (key:Value) (K:Option Value→Prop):Prop where
 out:ok key∧∃l,(μ r=some (bV l)∨h r=some (bV l))∧MapOk ok l∧K (fZ l key)
structure mlenVC (μ h:Mem) (r:Nat) (K:Nat→Prop):Prop where
 out:∃l,(μ r=some (bV l)∨h r=some (bV l))∧K l.length
structure updVC (h:Mem) (r:Nat) (ok:Value→Prop) (key val:Value) (K:Mem→Prop):Prop where
 out:ok key∧∃l,h r=some (bV l)∧MapOk ok l∧K (h.set r (bV (dH l key val)))
structure nextVC (μ h:Mem) (r:Nat) (over:Prop) (K:Value→Value→Mem→Prop):Prop where
 out:∃m seen c l,h r=some (cW m l.length seen c)∧(μ m=some (bV l)∨h m=some (bV l))∧l.length≤c∧((∀j,j<l.length→j∈seen)→over)∧
  ∀(j:Nat) k v,l[j]? =some (k,v)→j∉seen→K k v (h.set r (cW m l.length (seen++[j]) l.length))
structure entVC (μ h:Mem) (r:Nat) (K:Value→Value→Prop):Prop where
 out:∃m n seen j l k v,h r=some (cW m n (seen++[j]) l.length)∧(μ m=some (bV l)∨h m=some (bV l))∧l[j]? =some (k,v)∧K k v
structure needVC (p K:Prop):Prop where
 out:p∧K
structure byteVC (s:ByteArray) (i:Int) (K:UInt8→Prop):Prop where
 out:∃(j:Nat) (b:UInt8),i=j∧s.data.toList[j]? =some b∧K b
def qDh(s:St)(c a b:Operand)(K:SV→Prop):Prop:=
 evK s c fun
  | .kn true=>evK s a K
  | .kn false=>evK s b K
  | .val (.bool c)=>evK s a fun x=>evK s b fun y=>
   (match x,y with
   | .kn x,.kn y=>K (.val (.bool (cond c x y)))
   | .kn x,.val (.bool y)=>K (.val (.bool (cond c x y)))
   | .val (.bool x),.kn y=>K (.val (.bool (cond c x y)))
   | .val (.bool x),.val (.bool y)=>K (.val (.bool (cond c x y)))
   |_,_=>False)
  |_=>False
def unK(op:UnOp)(x:SV)(K:SV→Prop):Prop:=
 match op,x with
 | .not,.kn b=>K (.kn (!b))
 | .not,.val (.bool b)=>K (.val (.bool (!b)))
 | .neg,.val (.int k n)=>numVC (k.wrap (0-n)) fun r=>K (.val (.int k r))
 |_,_=>False
def qJg(op:BinOp)(k:IntKind)(a b:Int)(K:SV→Prop):Prop:=
 match op with
 | .add=>numVC (k.wrap (a+b)) fun r=>K (.val (.int k r))
 | .sub=>numVC (k.wrap (a-b)) fun r=>K (.val (.int k r))
 | .mul=>numVC (k.wrap (a*b)) fun r=>K (.val (.int k r))
 | .quo=>needVC (b≠0) (numVC (k.wrap (a.tdiv b)) fun r=>K (.val (.int k r)))
 | .rem=>needVC (b≠0) (numVC (a.tmod b) fun r=>K (.val (.int k r)))
 | .eql=>K (.val (.bool (decide (a=b))))
 | .neq=>K (.val (.bool (!decide (a=b))))
 | .lss=>K (.val (.bool (decide (a<b))))
 | .leq=>K (.val (.bool (decide (a≤b))))
 | .gtr=>K (.val (.bool (decide (b<a))))
 | .geq=>K (.val (.bool (decide (b≤a))))
 | .and=>numVC (bits .and k a b) fun r=>K (.val (.int k r))
 | .or=>numVC (bits .or k a b) fun r=>K (.val (.int k r))
 | .xor=>numVC (bits .xor k a b) fun r=>K (.val (.int k r))
 |_=>False
def qJa(op:BinOp)(a b:ByteArray)(K:SV→Prop):Prop:=
 match op with
 | .eql=>K (.val (.bool (decide (a=b))))
 | .neq=>K (.val (.bool (!decide (a=b))))
 | .lss=>K (.val (.bool (Op.bytesLess a.data.toList b.data.toList)))
 | .gtr=>K (.val (.bool (Op.bytesLess b.data.toList a.data.toList)))
 | .add=>needVC (a.size+b.size≤9223372036854775807) (K (.val (.string (a++b))))
 |_=>False
def qAg(op:BinOp)(a b:Bool)(K:SV→Prop):Prop:=
 match op with
 | .eql=>K (.val (.bool (a==b)))
 | .neq=>K (.val (.bool (!(a==b))))
 |_=>False
def qDn(op:BinOp)(isNil:Bool)(K:SV→Prop):Prop:=
 match op with
 | .eql=>K (.val (.bool isNil))
 | .neq=>K (.val (.bool (!isNil)))
 |_=>False
def qZ(op:BinOp)(k:IntKind)(a b:Int)(K:SV→Prop):Prop:=
 match op with
 | .shl=>needVC (0≤b) (numVC (k.wrap (a*2 ^ (min b.toNat k.bits))) fun r=>K (.val (.int k r)))
 | .shr=>needVC (0≤b) (numVC (a.fdiv (2 ^ (min b.toNat k.bits))) fun r=>K (.val (.int k r)))
 |_=>False
def qIc:BinOp→Bool
 | .shl=>true
 | .shr=>true
 |_=>false
def qDq(C:Cx)(op:BinOp)(t:TypeId)(x y:SV)(K:SV→Prop):Prop:=
 match x with
 | .val (.int k a)=>(match y with
  | .val (.int k' b)=>(match qIc op with
   |true=>qZ op k a b K
   |false=>(match decEq k k' with|isTrue _=>qJg op k a b K|isFalse _=>False))
  |_=>False)
 | .val (.string a)=>(match y with| .val (.string b)=>qJa op a b K|_=>False)
 | .kn a=>tyK C t fun i=>(match i.kind,y with| .bool,.kn b=>qAg op a b K| .bool,.val (.bool b)=>qAg op a b K|_,_=>False)
 | .val (.bool a)=>tyK C t fun i=>(match i.kind,y with| .bool,.kn b=>qAg op a b K| .bool,.val (.bool b)=>qAg op a b K|_,_=>False)
 | .val (.slice a _ _)=>tyK C t fun i=>(match i.kind,y with| .slice _,.val (.slice none 0 0)=>qDn op a.isNone K|_,_=>False)
 |_=>False
def xM{α:Type}(l:List α)(K:α→Prop):Prop:=match l with|[x]=>K x|_=>False
def uW(i:TI)(cs:List SV)(off:Nat)(K:SV→Prop):Prop:=
 match i.agg with
 |true=>sS cs off i.size fun l=>kL l fun vs=>K (.val (.agg vs.toArray))
 |false=>sS cs off i.size fun l=>xM l K
def lI(i:TI)(cs:List Value)(off:Nat)(K:SV→Prop):Prop:=
 match i.agg with
 |true=>sS cs off i.size fun l=>K (.val (.agg l.toArray))
 |false=>sS cs off i.size fun l=>xM l fun v=>K (.val v)
def qEk(i:TI)(A:Prop):Prop:=match i.size with|0=>False|_+1=>A
def sD(C:Cx)(s:St)(t:TypeId)(a:SV)(K:SV→Prop):Prop:=
 tyK C t fun i=>match a with
  | .loc tag r off=>(match s.lb tag with|some (.cells _ cs _)=>uW i cs off K|some _=>False|none=>extVC s.mem s.own ⟨r,off,none⟩ i.size fun cs=>lI i cs 0 K)
  | .elem _ cs off=>lI i cs off K
  | .rel tag _ _ j off=>(match s.lb tag with|some (.row _ _ _ _ xs)=>getVC xs j fun v=>lI i (aB v) off K|_=>False)
  | .val (.pointer (some a))=>extVC s.mem s.own a i.size fun cs=>lI i cs 0 K
  |_=>False
def qJo(C:Cx)(s:St)(t:TypeId)(x i:SV)(K:SV→Prop):Prop:=
 match i with
 | .val (.int _ i)=>tyK C t fun ti=>(match ti.kind with
  | .slice e=>tyK C e fun te=>(match x with
   | .val (.slice base n _)=>elemVC s.mem base n te.size i (fun a cs=>K (.elem a cs 0)) fun a=>K (.val (.pointer (some a)))
   | .row tag base n _=>(match s.lb tag with
    |some (.row _ _ _ es _)=>(match Nat.beq es te.size with|true=>relVC n i fun j=>K (.rel tag base te.size j 0)|false=>False)
    |some _=>False
    |none=>elemVC s.mem (base.map fun r=>⟨r,0,none⟩) n te.size i (fun a cs=>K (.elem a cs 0)) fun a=>K (.val (.pointer (some a))))
   |_=>False)
  |_=>False)
 |_=>False
def qLz(C:Cx)(s:St)(t:TypeId)(x:SV)(K:SV→Prop):Prop:=
 tyK C t fun ti=>match x,ti.kind with
  | .val (.map (some r)),.map _ _=>mlenVC s.mem s.own r fun n=>K (.val (.int .i64 n))
  | .val (.slice _ n _),.slice _=>K (.val (.int .i64 n))
  | .row _ _ n _,.slice _=>K (.val (.int .i64 n))
  | .val (.string s),.str=>K (.val (.int .i64 s.size))
  |_,_=>False
def fillK(C:Cx)(s:St)(fs:List (Nat×TypeId)):List (Nat×Operand)→List SV→(List SV→Prop)→Prop
 |[],cs,K=>K cs
 |(f,x)::r,cs,K=>match fs[f]? with
  |some (off,ft)=>tyK C ft fun ti=>evK s x fun sv=>(match ti.agg with
   |true=>(match sv with
    | .val (.agg vs)=>needLen ti.size vs.toList (lL cs off (vals vs.toList) fun cs'=>fillK C s fs r cs' K)
    |_=>False)
   |false=>needOne sv ti.size (lL cs off [sv] fun cs'=>fillK C s fs r cs' K))
  |none=>False
where
 needOne:SV→Nat→Prop→Prop
 | .val (.agg _),_,_=>False
 |_,1,A=>A
 |_,_,_=>False
 needLen:Nat→List Value→Prop→Prop
 |0,[],A=>A
 |n+1,_::l,A=>needLen n l A
 |_,_,_=>False
structure bytesVC (xs:List Value) (K:List UInt8→Prop):Prop where
 out:∃bs:List UInt8,xs=bs.map (fun b=> .int .u8 (b.toNat:Int))∧K bs
def qCf(C:Cx)(s:St)(src dst:TypeId)(x:SV)(K:SV→Prop):Prop:=
 tyK C src fun ts=>tyK C dst fun td=>match ts.kind,td.kind,x with
  | .slice e,.str,.row tag _ _ _=>tyK C e fun te=>(match te.kind,s.lb tag with
   | .int .u8,some (.row _ _ _ _ xs)=>bytesVC xs fun bs=>K (.val (.string ⟨bs.toArray⟩))
   |_,_=>False)
  | .int _,.int k,.val (.int _ n)=>numVC (k.wrap n) fun r=>K (.val (.int k r))
  | .str,.str,.val (.string b)=>K (.val (.string b))
  |_,_,_=>False
def sliceK(es:Nat)(base:Option Addr)(n c:Nat)(lo hi:Option SV)(K:SV→Prop):Prop:=
 boundK lo 0 fun l=>boundK hi n fun h=>cutVC l h c fun l h=>K (.val (.slice (if c=l then base else base.map (·.add (l*es))) (h-l) (c-l)))
where
 boundK:Option SV→Int→(Int→Prop)→Prop
 |none,d,K=>K d
 |some (.val (.int _ i)),_,K=>K i
 |_,_,_=>False
def qHe(big:Bool)(x y:SV)(K:SV→Prop):Prop:=
 match x,y with
 | .val (.int k a),.val (.int _ b)=>(match big with|true=>K (.val (.int k (if b>a then b else a)))|false=>K (.val (.int k (if b<a then b else a))))
 |_,_=>False
def qHd(s:St)(x:Option Operand)(K:Option SV→Prop):Prop:=match x with|none=>K none|some x=>evK s x fun sv=>K (some sv)
def nV(C:Cx)(s:St)(o:Op)(K:SV→Prop):Prop:=
 match o with
 | .convert src dst x=>evK s x fun x=>qCf C s src dst x K
 | .move x=>evK s x K
 | .assign x=>evK s x K
 | .nilCheck x=>evK s x fun sv=>(match sv with
  | .val (.pointer (some _))=>K sv
  | .loc _ _ _=>K sv
  |_=>False)
 | .pick c a b=>qDh s c a b K
 | .unOp op _ x=>evK s x fun x=>unK op x K
 | .binOp op t x y _=>(match y with
  | .const .nilIface=>tyK C t fun i=>evK s x fun x=>(match i.kind,x with| .iface,.val .nilIface=>qDn op true K|_,_=>False)
  |y=>evK s x fun x=>evK s y fun y=>qDq C op t x y K)
 | .field t x f=>qJz C t f fun off ti=>evK s x fun
  | .val (.agg cs)=>lI ti cs.toList off K
  |_=>False
 | .fieldAddr t x f=>qJz C t f fun fo ti=>qEk ti (evK s x fun
  | .loc tag r off=>K (.loc tag r (off+fo))
  | .elem a cs off=>K (.elem a cs (off+fo))
  | .rel tag base es i off=>(match s.lb tag with|some _=>K (.rel tag base es i (off+fo))|none=>False)
  | .val (.pointer (some a))=>K (.val (.pointer (some (a.add fo))))
  |_=>False)
 | .indexAddr t x i=>evK s x fun x=>evK s i fun i=>qJo C s t x i K
 | .slice t x lo hi none=>tyK C t fun ti=>evK s x fun x=>qHd s lo fun lo=>qHd s hi fun hi=>(match ti.kind,x with
  | .slice e,.val (.slice base n c)=>tyK C e fun te=>sliceK te.size base n c lo hi K
  | .slice e,.row _ base n c=>tyK C e fun te=>sliceK te.size (base.map fun r=>⟨r,0,none⟩) n c lo hi K
  | .str,.val (.string b)=>sliceK.boundK lo 0 fun l=>sliceK.boundK hi b.size fun h=>cutVC l h b.size fun l h=>K (.val (.string (b.extract l h)))
  |_,_=>False)
 | .index t x i=>tyK C t fun ti=>evK s x fun x=>evK s i fun i=>(match ti.kind,x,i with
  | .str,.val (.string b),.val (.int _ i)=>byteVC b i fun c=>K (.val (.int .u8 c.toNat))
  |_,_,_=>False)
 | .lookup t x i ok=>tyK C t fun ti=>(match ti.kind with
  | .map kt e=>tyK C kt fun tk=>tyK C e fun te=>evK s x fun x=>evK s i fun i=>iR i fun key=>(match x with
   | .val (.map (some r))=>lookVC s.mem s.own r (eS C.P kt tk) key fun res=>(match ok,res with
    |true,some v=>K (.val (.tuple #[v,.bool true]))
    |true,none=>K (.val (.tuple #[cU te,.bool false]))
    |false,some v=>K (.val v)
    |false,none=>K (.val (cU te)))
   |_=>False)
  |_=>False)
 | .load t a=>evK s a fun a=>sD C s t a K
 | .extract x i=>evK s x fun
  | .val (.tuple vs)=>(match vs.toList[i]? with|some v=>K (.val v)|none=>False)
  |_=>False
 | .build t ps=>tyK C t fun ti=>(match ti.kind with
  | .strct fs=>fillK C s fs ps.toList (vals ti.zero) fun cs=>kL cs fun vs=>K (.val (.agg vs.toArray))
  |_=>False)
 | .makeFunc fn first caps=>qDc s first.toList fun f=>qDc s caps.toList fun c=>K (.val (.func fn f.toArray c.toArray))
 | .makeInterface t x=>tyK C t fun ti=>evK s x fun x=>(match ti.kind,x with
  | .slice _,.val v=>K (.val (.iface t v))
  |_,_=>False)
 | .call c=>(match c.callee with
  | .builtin .len=>(match c.args.toList,c.argTypes.toList with|[x],[t]=>evK s x fun x=>qLz C s t x K|_,_=>False)
  | .builtin .max=>(match c.args.toList with|[x,y]=>evK s x fun x=>evK s y fun y=>qHe true x y K|_=>False)
  | .builtin .min=>(match c.args.toList with|[x,y]=>evK s x fun x=>evK s y fun y=>qHe false x y K|_=>False)
  |_=>False)
 |_=>False
def St.put(s:St)(dst:Option Tmp)(sv:SV):St:=
 match dst with
 |some d=>{s with env:=(d,sv)::s.env}
 |none=>s
def St.setB(s:St)(t:Nat)(b:LB):St:={s with blk:=(t,some b)::s.blk}
def St.newB(s:St)(b:LB):St:={s with blk:=(s.nxt,some b)::s.blk,nxt:=s.nxt+1}
def SV.fade(t:Nat)(sv:SV):SV:=
 match sv with
 | .row t' base n cap=>(match Nat.beq t' t with|true=> .val (.slice (base.map fun r=>⟨r,0,none⟩) n cap)|false=> .row t' base n cap)
 | .rel t' base es i off=>(match Nat.beq t' t with|true=> .val (.pointer (base.map fun r=>⟨r,i*es+off,none⟩))|false=> .rel t' base es i off)
 | .loc t' r off=>(match Nat.beq t' t with|true=> .val (.pointer (some ⟨r,off,none⟩))|false=> .loc t' r off)
 |sv=>sv
def mU(t:Nat):List (Nat×SV)→List (Nat×SV)
 |[]=>[]
 |(i,sv)::r=>(i,sv.fade t)::mU t r
def eN(t:Nat):List SV→List SV
 |[]=>[]
 |sv::r=>sv.fade t::eN t r
def dX(t:Nat):List (Nat×Option LB)→List (Nat×Option LB)
 |[]=>[]
 |(i,some (.cells r cs ty))::l=>(i,some (.cells r (eN t cs) ty))::dX t l
 |x::l=>x::dX t l
def St.fade(s:St)(t:Nat):St:={s with env:=mU t s.env,blk:=dX t s.blk}
def eG(s:St)(dst:Option Tmp)(sv:SV)(K:St→Prop):Prop:=
 match s,dst with
 |⟨e,b,n,m,o⟩,some d=>K ⟨(d,sv)::e,b,n,m,o⟩
 |⟨e,b,n,m,o⟩,none=>K ⟨e,b,n,m,o⟩
def qDa(s:St)(t:Nat)(lb:LB)(K:St→Prop):Prop:=match s with|⟨e,b,n,m,o⟩=>K ⟨e,(t,some lb)::b,n,m,o⟩
def xX(s:St)(lb:LB)(K:Nat→St→Prop):Prop:=match s with|⟨e,b,n,m,o⟩=>K n ⟨e,(n,some lb)::b,n+1,m,o⟩
def qGk(s:St)(μ:Mem)(K:St→Prop):Prop:=match s with|⟨e,b,n,_,o⟩=>K ⟨e,b,n,μ,o⟩
def rC(s:St)(h:Mem)(K:St→Prop):Prop:=match s with|⟨e,b,n,m,_⟩=>K ⟨e,b,n,m,h⟩
def kV(s:St)(μ h:Mem)(K:St→Prop):Prop:=match s with|⟨e,b,n,_,_⟩=>K ⟨e,b,n,μ,h⟩
def giveK(s:St)(t:Nat)(h:Mem)(K:St→Prop):Prop:=match s with|⟨e,b,n,m,_⟩=>K ⟨e,(t,none)::b,n,m,h⟩
def qNt(s:St)(t:Nat)(μ:Mem)(K:St→Prop):Prop:=match s with|⟨e,b,n,_,o⟩=>K ⟨e,(t,none)::b,n,μ,o⟩
def qBn(t:Nat)(sv:SV)(K:SV→Prop):Prop:=
 match sv with
 | .row t' base n cap=>(match Nat.beq t' t with|true=>K (.val (.slice (base.map fun r=>⟨r,0,none⟩) n cap))|false=>K (.row t' base n cap))
 | .rel t' base es i off=>(match Nat.beq t' t with|true=>K (.val (.pointer (base.map fun r=>⟨r,i*es+off,none⟩)))|false=>K (.rel t' base es i off))
 | .loc t' r off=>(match Nat.beq t' t with|true=>K (.val (.pointer (some ⟨r,off,none⟩)))|false=>K (.loc t' r off))
 |sv=>K sv
def qAk(t:Nat):List (Nat×SV)→(List (Nat×SV)→Prop)→Prop
 |[],K=>K []
 |(i,sv)::r,K=>qBn t sv fun sv'=>qAk t r fun r'=>K ((i,sv')::r')
def qAx(t:Nat):List SV→(List SV→Prop)→Prop
 |[],K=>K []
 |sv::r,K=>qBn t sv fun sv'=>qAx t r fun r'=>K (sv'::r')
def lZ(t:Nat):List (Nat×Option LB)→(List (Nat×Option LB)→Prop)→Prop
 |[],K=>K []
 |(i,some (.cells r cs ty))::l,K=>qAx t cs fun cs'=>lZ t l fun l'=>K ((i,some (.cells r cs' ty))::l')
 |x::l,K=>lZ t l fun l'=>K (x::l')
def qIl(s:St)(t:Nat)(K:St→Prop):Prop:=match s with|⟨e,b,n,m,o⟩=>qAk t e fun e'=>lZ t b fun b'=>K ⟨e',b',n,m,o⟩
def qCw:List Value→(List SV→Prop)→Prop
 |[],K=>K []
 |v::l,K=>qCw l fun r=>K (.val v::r)
def cellsOf(sv:SV):List SV:=
 match sv with
 | .val (.agg vs)=>vals vs.toList
 |sv=>[sv]
def pX(sv:SV)(K:List SV→Prop):Prop:=
 match sv with
 | .val (.agg vs)=>qCw vs.toList K
 |sv=>K [sv]
def qEh{α:Type}:Nat→List α→Prop→Prop
 |0,[],A=>A
 |n+1,_::l,A=>qEh n l A
 |_,_,_=>False
def Holds(μ:Mem)(w:World):Prop:=∀b o,μ b=some o→w.heap[b]? =some o
def Apart(μ h:Mem):Prop:=∀b,μ b≠none→h b=none
def qHx(P:Program)(f:FuncId):Prop:=∃fn,P.funcs[f]? =some fn∧fn.body.isSome=true∧(fn.name== "runtime.NumGoroutine")=false
structure Step (μ h:Mem) (w:World) (μ' h':Mem) (w':World):Prop where
 le:μ.Le μ'
 mem:Holds μ' w'
 own:Holds h' w'
 apart:Apart μ' h'
 fresh:∀b,μ b=none→μ' b≠none→w.heap.size≤b∨h b≠none
 freshH:∀b,h' b≠none→w.heap.size≤b∨h b≠none
 size:w.heap.size≤w'.heap.size
 keep:∀b,b<w.heap.size→h b=none→w'.heap[b]? =w.heap[b]?
 os:w'.os=w.os
 tape:w'.tape=w.tape
 output:w'.output=w.output
def Ans(P:Program)(f:FuncId)(args:Array Value)(w:World)(Q:Ending→World→Prop):Prop:=
 (qHx P f∧Calls P f args w Q)∨∃v w',(callFunc f args).run P w= .ok (.value v) w'∧Q (.returned v) w'
theorem Ans.mono{P:Program}{f:FuncId}{args:Array Value}{w:World}{Q Q':Ending→World→Prop}(h:Ans P f args w Q)(k:∀e w',Q e w'→Q' e w'):Ans P f args w Q':=
 h.imp (fun h=>⟨h.1,h.2.mono k⟩) fun⟨v,w',h1,h2⟩=>⟨v,w',h1,k _ _ h2⟩
def SpecH(P:Program)(f:FuncId)(args:List Value)(μ h:Mem)(R:Value→Mem→Mem→Prop):Prop:=
 True∧∀w,Holds μ w→Holds h w→Apart μ h→
  Ans P f args.toArray w fun e w'=>∃v μ' h',e= .returned v∧R v μ' h'∧Step μ h w μ' h' w'
def Spec(P:Program)(f:FuncId)(args:List Value)(μ:Mem)(R:Value→Mem→Prop):Prop:=SpecH P f args μ Mem.nil fun v μ' _=>R v μ'
def LB.fits(lb:LB)(h:Nat→Option Obj):Prop:=
 match lb with
 | .cells r cs ty=>h r=some (.cells (cs.map SV.conc).toArray ty (0,0))
 | .row none cap _ _ xs=>xs=[]∧cap=0
 | .row (some r) cap ty es xs => xs.length ≤ cap ∧ xs.length ≤ maxLen ∧ (∀ x ∈ xs, (aB x).length = es ∧ ∀ u ∈ aB x, u.oneCell' = true) ∧
   ∃arr,h r=some (.cells arr ty (0,0))∧arr.size=cap*es∧arr.toList.take (xs.length*es)=xs.flatMap aB
 | .map r en ck=>h r=some (.map en ck)
def RowAt(μ:Mem)(base:Option Nat)(cap es:Nat)(xs:List Value):Prop:=
 match base with
 |none=>xs=[]
 |some r=>xs.length≤cap∧(∀x∈xs,(aB x).length=es∧∀u∈aB x,u.oneCell'=true)∧∃arr ty,μ r=some (.cells arr ty (0,0))∧arr.size=cap*es∧arr.toList.take (xs.length*es)=xs.flatMap aB
def cG:List Nat→St→(St→Prop)→Prop
 |[],s,K=>K s
 |t::ts,s,K=>match s.lb t with
  | some (.cells r cs ty) => kL cs fun vs => ∀ μ', s.mem.Le μ' → s.mem r = none → μ' r = some (.cells vs.toArray ty (0, 0)) →
    qNt s t μ' fun s=>cG ts s K
  | some (.row base cap _ es xs) => ∀ μ', s.mem.Le μ' → (∀ r, base = some r → s.mem r = none) → RowAt μ' base cap es xs →
    qNt s t μ' fun s=>cG ts s K
  |some (.map _ _ _)=>False
  |none=>cG ts s K
structure ifVC (fr:Bool) (b:Bool) (s:St) (A B:St→Prop):Prop where
 out:((b=true→A s)∧(b=false→B s))∨(fr=true∧∃fz,cG fz s fun s=>(b=true→A s)∧(b=false→B s))
def RowGiven(h h':Mem)(base:Option Nat)(cap:Nat)(ty:TypeId)(es:Nat)(xs:List Value):Prop:=
 match base with
 |none=>xs=[]∧h'=h
 |some r=>h r=none∧xs.length≤cap∧xs.length≤maxLen∧(∀x∈xs,(aB x).length=es∧∀u∈aB x,u.oneCell'=true)∧∃cs:List Value,h'=h.set r (.cells cs.toArray ty (0,0))∧cs.length=cap*es∧cs.take (xs.length*es)=xs.flatMap aB
def RowO(h:Mem)(r cap:Nat)(ty:TypeId)(es:Nat)(xs:List Value):Prop:=
 ∃cs:List Value,h r=some (.cells cs.toArray ty (0,0))∧xs.length≤cap∧xs.length≤maxLen∧(∀x∈xs,(aB x).length=es∧∀u∈aB x,u.oneCell'=true)∧cs.length=cap*es∧cs.take (xs.length*es)=xs.flatMap aB
structure appVC (μ h:Mem) (r n cap:Nat) (ty:TypeId) (es bytes:Nat) (ys:List Value) (K:Nat→Nat→Mem→Prop):Prop where
 out:∃xs ty0,xs.length=n∧RowO h r cap ty0 es xs∧(n+ys.length)*bytes≤140737488355328∧n+ys.length≤maxLen∧
  ∀r' cap' o ty',(ty'=ty0∨ty'=ty)→RowO (h.set r' o) r' cap' ty' es (xs++ys)→(r'=r∨(h r'=none∧μ r'=none))→K r' cap' (h.set r' o)
def fO:List Nat→St→(St→Prop)→Prop
 |[],s,K=>K s
 |t::ts,s,K=>match s.lb t with
  |some (.cells r cs ty)=>kL cs fun vs=>s.mem r=none→s.own r=none→giveK s t (s.own.set r (.cells vs.toArray ty (0,0))) fun s=>fO ts s K
  |some (.row base cap ty es xs)=>∀h',(∀r,base=some r→s.mem r=none)→RowGiven s.own h' base cap ty es xs→giveK s t h' fun s=>fO ts s K
  |_=>False
structure callVC (dr:Bool) (P:Program) (f:FuncId) (args:List Value) (s:St) (K:Value→St→Prop):Prop where
 out:∃fz gv,(dr=true→gv=[])∧cG fz s fun s=>fO gv s fun s=>(∃R,Spec P f args s.mem R∧∀v μ',s.mem.Le μ'→R v μ'→qGk s μ' fun s=>K v s)∨∃R,SpecH P f args s.mem s.own R∧∀v μ' h',s.mem.Le μ'→Apart μ' h'→R v μ' h'→kV s μ' h' fun s=>K v s
def uD(μ:Mem)(base:Option Addr)(n es:Nat)(ys:List Value):Prop:=
 ys.length=n∧(∀y∈ys,(aB y).length=es∧∀u∈aB y,u.oneCell'=true)∧(n=0∨∃a,base=some a∧∀j v,(ys.flatMap aB)[j]? =some v→μ.cell (a.add j)=some v)
structure srcVC (μ:Mem) (base:Option Addr) (n es:Nat) (K:List Value→Prop):Prop where
 out:∃ys,uD μ base n es ys∧K ys
structure growVC (need bytes:Nat) (empty:Prop) (K:Option Nat→Nat→Prop):Prop where
 out:need*bytes≤140737488355328∧need≤maxLen∧∀base' cap',need≤cap'→(base'=none→empty)→K base' cap'
def srcK(s:St)(es:Nat)(y:SV)(K:List Value→Prop):Prop:=
 match y with
 | .row tag base n _=>(match s.lb tag with
  |some (.row _ _ _ es' ys)=>(match Nat.beq es' es with|true=>K ys|false=>False)
  |some _=>False
  |none=>srcVC s.mem (base.map fun r=>⟨r,0,none⟩) n es K)
 | .val (.slice a n _)=>srcVC s.mem a n es K
 |_=>False
def mO (s : St) (e : TypeId) (te : TI) (ys : List Value) (x : SV) (K : SV → St → Prop) : Prop := match x with
    | .row tag _ n _=>(match s.lb tag with
     |some (.row _ _ ty es xs)=>(match Nat.beq es te.size,Nat.beq ty e with
      |true,true=>growVC (n+ys.length) te.bytes (xs++ys=[]) fun base' cap'=>
       qIl s tag fun s=>qDa s tag (.row base' cap' ty es (xs++ys)) fun s=>K (.row tag base' (xs++ys).length cap') s
      |_,_=>False)
     |_=>False)
    | .val (.slice none 0 0)=>growVC ys.length te.bytes (ys=[]) fun base' cap'=>
       xX s (.row base' cap' e te.size ys) fun t s=>K (.row t base' ys.length cap') s
    | .val (.slice (some ⟨r,0,none⟩) n c)=>appVC s.mem s.own r n c e te.size te.bytes ys fun r' c' h=>rC s h fun s=>K (.val (.slice (some ⟨r',0,none⟩) (n+ys.length) c')) s
    |_=>False
def qIt(C:Cx)(s:St)(t:TypeId)(x y:SV)(K:SV→St→Prop):Prop:=
 tyK C t fun ti=>match ti.kind with
  | .slice e=>tyK C e fun te=>qEk te (srcK s te.size y fun ys=>mO s e te ys x K)
  |_=>False
def hF:List Value→Prop→Prop
 |[],A=>A
 | .agg _::_,_=>False
 | .tuple _::_,_=>False
 |_::l,A=>hF l A
def qI(i:TI)(A:Prop):Prop:=match i.agg,i.zero with|true,z=>hF z A|false,[v]=>hF [v] A|_,_=>False
structure makeVC (l c:Int) (bytes:Nat) (K:Nat→Prop):Prop where
 out:l=c∧∃n:Nat,l=n∧n*bytes≤140737488355328∧n≤maxLen∧K n
def leK(m n:Nat)(A:Prop):Prop:=match Nat.ble m n with|true=>A|false=>False
structure zerosVC (n:Int) (K:Nat→Prop):Prop where
 out:∃m:Nat,n=m∧K m
def aZ(b:ByteArray):List Value:=b.data.toList.map fun c=>Value.int .u8 c.toNat
def qIr(C:Cx)(s:St)(t u:TypeId)(x y:SV)(K:SV→St→Prop):Prop:=
 tyK C t fun ti=>match ti.kind with
  | .slice e => tyK C e fun te => qEk te (qI te (tyK C u fun tu => match tu.kind, y with
    | .int _,.val (.int _ n)=>zerosVC n fun m=>mO s e te (List.replicate m (cU te)) x K
    | .str,.val (.string b)=>(match Nat.beq te.size 1 with|true=>mO s e te (aZ b) x K|false=>False)
    |_,_=>False))
  |_=>False
def jK(s:St)(o:Op):List Nat:=
 match o with
 | .store _ x _=>(match ev s x with|some (.loc t _ _)=>[t]|some (.rel t _ _ _ _)=>[t]|_=>[])
 | .call c=>(match c.callee,c.args.toList with
  | .builtin .append,x::_=>(match ev s x with|some (.row t _ _ _)=>[t]|_=>[])
  |_,_=>[])
 |_=>[]
def xE(s:St)(o:Op):Bool:=
 match o with
 | .store _ x _=>(match ev s x with|some (.loc t _ _)=>(s.lb t).isNone|some (.rel t _ _ _ _)=>(s.lb t).isNone|_=>true)
 | .call c=>(match c.callee,c.args.toList with
  | .value _,_=>true
  | .builtin .append,x::_=>(match ev s x with|some (.val (.slice (some _) _ _))=>true|_=>false)
  |_,_=>false)
 | .makeMap ..=>true
 | .mapUpdate ..=>true
 | .insert ..=>true
 | .range ..=>true
 | .next ..=>true
 |_=>false
def xG(n:Nat)(dst:Option Tmp)(A:Prop):Prop:=
 match dst with
 |none=>A
 |some d=>(match Nat.blt d n with|true=>A|false=>False)
def rB(s:St)(es:Nat):Nat→Nat→List (Nat×Operand)→(List Value→Prop)→Prop
 |0,_,[],K=>K []
 |n+1,i,(j,x)::r,K=>(match Nat.beq i j with
  |true=>evK s x fun sv=>iR sv fun v=>qEh es (aB v) (hF (aB v) (rB s es n (i+1) r fun vs=>K (v::vs)))
  |false=>False)
 |_,_,_,_=>False
def qNu(C:Cx)(s:St)(t:TypeId)(a x:SV)(K:St→Prop):Prop:=
 tyK C t fun ti=>pX x fun xc=>qEh ti.size xc (kL xc fun vs=>hF vs (match a with
  | .loc tag r off=>(match s.lb tag with
   |some (.cells _ cs ty)=>lL cs off xc fun cs'=>qDa s tag (.cells r cs' ty) K
   |some _=>False
   |none=>stoVC s.own ⟨r,off,none⟩ vs fun h=>rC s h K)
  | .val (.pointer (some a))=>stoVC s.own a vs fun h=>rC s h K
  | .rel tag base _ j off=>(match s.lb tag with
   | some (.row _ cap ty es xs) => getVC xs j fun v => lL (aB v) off vs fun cs' =>
     (match v with
     | .agg _=>qDa s tag (.row base cap ty es (xs.set j (.agg cs'.toArray))) K
     |_=>xM cs' fun c=>qDa s tag (.row base cap ty es (xs.set j c)) K)
   |_=>False)
  |_=>False))
def lM(n:Nat):List Nat→Bool
 |[]=>false
 |m::r=>match Nat.beq m n with|true=>true|false=>lM n r
def qNn(dst:Option Tmp)(os:List Nat):Bool:=
 match dst with
 |some d=>lM d os
 |none=>false
def yX(dr:Bool):List (Nat×Operand)→St→(St→Prop)→Prop
 |[],s,K=>K s
 |(_,x)::r,s,K=>match dr,ev s x with
  |false,some (.row t _ _ _)=>(match s.lb t with
   |some (.row _ _ _ _ _)=>cG [t] s fun s=>yX dr r s K
   |_=>yX dr r s K)
  |_,_=>yX dr r s K
def fF:List Nat→St→(St→Prop)→Prop
 |[],s,K=>K s
 |t::ts,s,K=>qIl s t fun s=>fF ts s K
def qGu(C:Cx)(o:Oper)(s:St)(K:St→Prop):Prop:=
 xG C.n o.dst (match o.op with
  | .alloc t=>tyK C t fun ti=>(match qNn o.dst C.os with
   |true=>∀r,s.mem r=none→s.own r=none→rC s (s.own.set r (.cells ti.zero.toArray t (0,0))) fun s=>eG s o.dst (.val (.pointer (some ⟨r,0,none⟩))) K
   |false=>qCw ti.zero fun z=>∀r,xX s (.cells r z t) fun tag s=>eG s o.dst (.loc tag r 0) K)
  | .box t x=>evK s x fun sv=>pX sv fun z=>(match qNn o.dst C.os with
   |true=>kL z fun vs=>∀r,s.mem r=none→s.own r=none→rC s (s.own.set r (.cells vs.toArray t (0,0))) fun s=>eG s o.dst (.val (.pointer (some ⟨r,0,none⟩))) K
   |false=>∀r,xX s (.cells r z t) fun tag s=>eG s o.dst (.loc tag r 0) K)
  | .store t a x=>(match o.dst with|none=>evK s a fun a=>evK s x fun x=>qNu C s t a x K|some _=>False)
  | .makeMap _ res=>(match res with
   |none=>∀r,s.mem r=none→s.own r=none→rC s (s.own.set r (bV [])) fun s=>eG s o.dst (.val (.map (some r))) K
   |some _=>False)
  | .mapUpdate t m k v=>(match o.dst with
   |none=>tyK C t fun ti=>(match ti.kind with
    | .map kt _=>tyK C kt fun tk=>evK s m fun m=>evK s k fun k=>iR k fun k=>evK s v fun v=>iR v fun v=>(match m with
     | .val (.map (some r))=>updVC s.own r (eS C.P kt tk) k v fun h=>rC s h K
     |_=>False)
    |_=>False)
   |some _=>False)
  | .insert t m k v=>(match o.dst with
   |none=>tyK C t fun ti=>(match ti.kind with
    | .map kt _=>tyK C kt fun tk=>evK s m fun m=>evK s k fun k=>iR k fun k=>evK s v fun v=>iR v fun v=>(match m with
     | .val (.map (some r))=>updVC s.own r (eS C.P kt tk) k v fun h=>rC s h K
     |_=>False)
    |_=>False)
   |some _=>False)
  | .range t x=>tyK C t fun ti=>evK s x fun x=>(match ti.kind,x with
   | .map _ _,.val (.map (some m))=>mlenVC s.mem s.own m fun n=>∀r,s.mem r=none→s.own r=none→rC s (s.own.set r (cW m n [] n)) fun s=>eG s o.dst (.val (.pointer (some ⟨r,0,none⟩))) K
   |_,_=>False)
  | .next it str=>evK s it fun it=>(match it,str with
   | .val (.pointer (some ⟨r,0,none⟩)),false=>nextVC s.mem s.own r (eG s o.dst (.val (.tuple #[.bool false])) K) fun k v h=>rC s h fun s=>eG s o.dst (.val (.tuple #[.bool true,k,v])) K
   |_,_=>False)
  | .entry it=>evK s it fun it=>(match it with
   | .val (.pointer (some ⟨r,0,none⟩))=>entVC s.mem s.own r fun k v=>eG s o.dst (.val (.tuple #[k,v])) K
   |_=>False)
  | .buildSlice t n ps=>yX C.dr ps.toList s fun s=>tyK C t fun ti=>(match ti.kind with
   | .slice e=>tyK C e fun te=>qEk te (leK (n*te.size) 16777216 <| rB s te.size n 0 ps.toList fun xs=>(match qNn o.dst C.os with
    |true=>∀r,s.mem r=none→s.own r=none→rC s (s.own.set r (.cells (List.toArray (xs.flatMap aB)) e (0,0))) fun s=>eG s o.dst (.val (.slice (some ⟨r,0,none⟩) n n)) K
    |false=>∀r,xX s (.row (some r) n e te.size xs) fun tag s=>eG s o.dst (.row tag (some r) n n) K))
   |_=>False)
  | .makeSlice t l c=>tyK C t fun ti=>(match ti.kind with
   | .slice e=>tyK C e fun te=>qEk te <| qI te <| evK s l fun l=>evK s c fun c=>(match l,c with
    | .val (.int _ l),.val (.int _ c)=>makeVC l c te.bytes fun n=>(match qNn o.dst C.os with
     |true=>∀r,s.mem r=none→s.own r=none→rC s (s.own.set r (.cells (List.toArray ((List.replicate n (cU te)).flatMap aB)) e (0,0))) fun s=>eG s o.dst (.val (.slice (some ⟨r,0,none⟩) n n)) K
     |false=>∀r,xX s (.row (some r) n e te.size (List.replicate n (cU te))) fun tag s=>eG s o.dst (.row tag (some r) n n) K)
    |_,_=>False)
   |_=>False)
  | .call c=>(match c.callee with
   | .value f=>evK s f fun
    | .val (.func (.func k) first caps) => qDc s c.args.toList fun args => qMi first.toList args fun a1 => qMi a1 caps.toList fun a2 =>
      callVC C.dr C.P k a2 s fun v s'=>eG s' o.dst (.val v) K
    |_=>False
   | .builtin .append=>(match c.args.toList,c.argTypes.toList with
    |[x,y],[t,u]=>(match Nat.beq t u with
     |true=>evK s x fun x=>evK s y fun y=>qIt C s t x y fun sv s'=>eG s' o.dst sv K
     |false=>evK s x fun x=>evK s y fun y=>qIr C s t u x y fun sv s'=>eG s' o.dst sv K)
    |_,_=>False)
   |_=>nV C s o.op fun sv=>eG s o.dst sv K)
  |op=>nV C s op fun sv=>eG s o.dst sv K)
def mA(ops:List Oper)(o:Oper)(s:St)(yes no:St→Prop):Prop:=
 match o.guard with
 |none=>yes s
 |some (j,want)=>(match ops[j]? with
  |some oj=>(match oj.dst with
   |some d=>(match bD s.env d with
    |some (.kn b)=>(match b,want with|true,true=>yes s|false,false=>yes s|_,_=>no s)
    |some (.val (.tuple _))=>no s
    |some (.val (.bool b))=>(match want with
     |true=>ifVC false b s (fun s=>eG s (some d) (.kn true) yes) (fun s=>eG s (some d) (.kn false) no)
     |false=>ifVC false b s (fun s=>eG s (some d) (.kn true) no) (fun s=>eG s (some d) (.kn false) yes))
    |_=>False)
   |none=>False)
  |none=>False)
def vB(d:Nat):List (Nat×SV)→(List (Nat×SV)→Prop)→Prop
 |[],K=>K []
 |(i,sv)::r,K=>match Nat.beq i d with
  |true=>vB d r K
  |false=>vB d r fun r'=>K ((i,sv)::r')
def qLf(s:St)(dst:Option Tmp)(K:St→Prop):Prop:=
 match s,dst with
 |⟨e,b,n,m,o⟩,some d=>vB d e fun e'=>K ⟨e',b,n,m,o⟩
 |s,none=>K s
noncomputable def qBz(C:Cx)(ops:List Oper)(l:List Oper):St→(St→Prop)→Prop:=
 @List.rec Oper (fun _=>St→(St→Prop)→Prop) (fun s K=>K s)
  (fun o _ ih s K=>mA ops o s (fun s=>qGu C o s fun s'=>ih s' K) (fun s=>xG C.n o.dst (eG s o.dst (.val undef) fun s=>ih s K))) l
def jG:Op→Bool
 | .move _| .assign _| .nilCheck _| .pick ..| .unOp ..| .binOp ..| .field ..| .fieldAddr ..| .indexAddr ..| .index ..| .load ..| .extract ..| .build ..| .makeFunc ..| .makeInterface ..| .convert ..| .lookup ..=>true
 | .call c=>(match c.callee with| .builtin .len=>true| .builtin .max=>true| .builtin .min=>true|_=>false)
 | .slice _ _ _ _ none=>true
 |_=>false
def cK(o:Oper):Bool:=
 match o.op,o.guard,o.dst,o.after.toList with
 | .alloc _,none,some _,[]=>true
 |_,_,_,_=>false
def qIa:List Oper→Bool
 |[]=>true
 |o::r=>match o.op with| .select ..=>false|_=>qIa r
def gM(done:List Nat):List Edge→Bool
 |[]=>true
 |e::r=>match Region.binds .any e,lM e.on done with|true,false=>false|_,_=>gM done r
def mK(i:Nat):List Edge→Bool
 |[]=>false
 |e::r=>match Region.binds .any e,Nat.beq e.on i with|true,true=>true|_,_=>mK i r
def fS(done al:List Nat):Nat→List Oper→List Nat
 |_,[]=>[]
 |i,o::r=>match lM i done,lM i al,gM (al++done) o.after.toList with|false,false,true=>i::fS done al (i+1) r|_,_,_=>fS done al (i+1) r
def dJ:Nat→List Oper→List Nat
 |_,[]=>[]
 |i,o::r=>match cK o with|true=>i::dJ (i+1) r|false=>dJ (i+1) r
def qEu(ops:Array Oper)(done:List Nat)(i:Nat)(oi:Oper):Nat→List Oper→Bool
 |_,[]=>true
 |j,o::r=>match lM j done,Nat.beq j i,mK i o.after.toList,oi.apart ops o with|false,false,false,false=>false|_,_,_,_=>qEu ops done i oi (j+1) r
def lD(d j:Nat):Nat→List Oper→Bool
 |_,[]=>true
 |k,o::r=>match Nat.beq k j,o.dst with
  |false,some d'=>(match Nat.beq d' d with|true=>false|false=>lD d j (k+1) r)
  |_,_=>lD d j (k+1) r
def kI(t:Nat):List Oper→Option Oper
 |[]=>none
 |o::r=>match o.dst with
  |some d=>(match Nat.beq d t with|true=>some o|false=>kI t r)
  |none=>kI t r
def lateV(ops:List Oper)(x:Operand):Bool:=
 match x with
 | .tmp t=>(match kI t ops with
  |some o=>(match o.op with
   | .call c=>(match c.callee,c.args.toList with
    | .builtin .append,.tmp u::_=>(match kI u ops with|some _=>true|none=>false)
    |_,_=>false)
   |_=>false)
  |none=>false)
 |_=>false
def lateOp(ops:List Oper)(o:Op):Bool:=match o with| .assign x=>lateV ops x| .move x=>lateV ops x|_=>false
def oO(lt:Nat→Op→Bool)(done:List Nat):Nat→List Oper→Option Nat
 |_,[]=>none
 |i,o::r=>match jG o.op,lM i done,gM done o.after.toList with
  |true,false,true=>(match lt i o.op with|false=>some i|true=>oO lt done (i+1) r)
  |_,_,_=>oO lt done (i+1) r
def iG(ops:List Oper)(s0:St):Nat→Operand→Option (Option Nat)
 |n+1,.tmp t=>(match kI t ops with
  |some o=>(match o.op with
   | .alloc _=>some none
   | .indexAddr ..=>some none
   | .fieldAddr _ x _=>iG ops s0 n x
   | .move x=>iG ops s0 n x
   | .nilCheck x=>iG ops s0 n x
   |_=>none)
  |none=>(match bD s0.env t with|some (.loc tag _ _)=>some (some tag)|some _=>some none|none=>none))
 |_,_=>none
def oN(ops:List Oper)(s0:St):Nat→List Oper→Option (List (Nat×Nat))
 |_,[]=>some []
 |i,o::r=>match o.op with
  | .store _ a _=>(match iG ops s0 20 a,oN ops s0 (i+1) r with
   |some (some t),some l=>some ((i,t)::l)
   |some none,some l=>some l
   |_,_=>none)
  |_=>oN ops s0 (i+1) r
def uO(go:Nat→Bool)(i:Nat):List Edge→Bool
 |[]=>false
 |e::r=>match Region.binds .any e with
  |true=>(match Nat.beq e.on i with|true=>true|false=>(match go e.on with|true=>true|false=>uO go i r))
  |false=>uO go i r
def pN(ops:List Oper)(i:Nat):Nat→Nat→Bool
 |0,_=>false
 |n+1,x=>match ops[x]? with|some o=>uO (pN ops i n) i o.after.toList|none=>false
def oF(ops:List Oper)(i t:Nat):List (Nat×Nat)→Bool
 |[]=>true
 |(x,t')::r=>match Nat.beq t' t with
  |true=>(match pN ops i 20 x with|true=>oF ops i t r|false=>false)
  |false=>oF ops i t r
def pI(ops:List Oper)(ml:List (Nat×Nat))(i:Nat):List (Nat×Option LB)→List (Nat×Option LB)
 |[]=>[]
 |(t,some (.cells r cs ty))::l=>(match oF ops i t ml with
  |true=>(t,some (.cells r cs ty))::pI ops ml i l
  |false=>(t,none)::pI ops ml i l)
 |(t,_)::l=>(t,none)::pI ops ml i l
def eD(ops:List Oper)(s0:St):Nat→List Oper→List Nat
 |_,[]=>[]
 |i,o::r=>match o.op with
  | .store _ a _=>(match iG ops s0 20 a with|some (some _)=>eD ops s0 (i+1) r|_=>i::eD ops s0 (i+1) r)
  | .call c=>(match c.callee with| .value _=>i::eD ops s0 (i+1) r| .builtin .append=>i::eD ops s0 (i+1) r|_=>eD ops s0 (i+1) r)
  | .makeMap ..=>i::eD ops s0 (i+1) r
  | .mapUpdate ..=>i::eD ops s0 (i+1) r
  | .insert ..=>i::eD ops s0 (i+1) r
  | .range ..=>i::eD ops s0 (i+1) r
  | .next ..=>i::eD ops s0 (i+1) r
  |_=>eD ops s0 (i+1) r
def qS(ops:List Oper)(i:Nat):List Nat→Bool
 |[]=>true
 |x::r=>match pN ops i 20 x with|true=>qS ops i r|false=>false
def owOk(ol:List Nat)(i:Nat)(ow:Bool):Bool:=match ow with|true=>lM i ol|false=>true
def qBe(ops:List Oper):Nat→Operand→Bool
 |n+1,.tmp t=>match kI t ops with
  |some o=>(match o.op with
   | .fieldAddr _ x _=>qBe ops n x
   | .move x=>qBe ops n x
   | .nilCheck _=>true
   |_=>false)
  |none=>false
 |_,_=>false
def lateMp(ops:List Oper):Operand→Bool
 | .tmp t=>match kI t ops with
  |some o=>(match o.op with| .load _ a=>qBe ops 20 a|_=>false)
  |none=>false
 |_=>false
def lateRd(ops:List Oper)(ol:List Nat)(i:Nat)(o:Op):Bool:=
 match o with
 | .lookup _ m _ _=>(match lateMp ops m with|true=> !qS ops i ol|false=>false)
 | .load _ a=>(match qBe ops 20 a with|true=> !qS ops i ol|false=>false)
 |_=>false
def lateB(ops:List Oper)(ol:List Nat)(i:Nat)(o:Op):Bool:=match lateOp ops o with|true=>true|false=>lateRd ops ol i o
def rO(ops:List Oper)(ml:List (Nat×Nat))(ol:List Nat)(s0 s:St)(i:Nat):St:=
 ⟨s.env,pI ops ml i s0.blk,s0.nxt+s.nxt,s0.mem,match qS ops i ol with|true=>s0.own|false=>Mem.nil⟩
def memP(i t:Nat):List (Nat×Nat)→Bool
 |[]=>false
 |(j,u)::r=>match Nat.beq j i,Nat.beq u t with|true,true=>true|_,_=>memP i t r
def oI(s0:St)(ml:List (Nat×Nat))(i:Nat):List Nat→Bool
 |[]=>true
 |t::r=>match s0.lb t with
  |some (.cells ..)=>(match memP i t ml with|true=>oI s0 ml i r|false=>false)
  |_=>oI s0 ml i r
def qAn(s0 s:St)(dst:Option Tmp):Bool:=
 match dst with
 |some d=>(match bD s.env d with
  |some (.elem ..)=>false
  |some (.loc t _ _)=>(match s0.lb t with|none=>true|some _=>false)
  |some (.row t _ _ _)=>(match s0.lb t with|some (.cells ..)=>false|_=>true)
  |some (.rel t _ _ _ _)=>(match s0.lb t with|some (.cells ..)=>false|_=>true)
  |_=>true)
 |none=>true
def qC(dirty:List Nat)(sv:SV):Bool:=
 match sv with
 | .row t _ _ _=> !lM t dirty
 | .rel t _ _ _ _=> !lM t dirty
 |_=>true
def vO(C:Cx)(ops:List Oper):List Nat→St→(St→Prop)→Prop
 |[],s,K=>K s
 |j::js,s,K=>match ops[j]? with
  |some o=>qGu C o s fun s=>vO C ops js s K
  |none=>False
def cR(done:List Nat)(es:List Edge):List Nat→List Nat
 |[]=>[]
 |j::r=>match lM j done,mK j es with|false,true=>j::cR done es r|_,_=>cR done es r
def gL(done:List Nat):List Nat→List Nat
 |[]=>[]
 |j::r=>match lM j done with|true=>gL done r|false=>j::gL done r
def okK(b:Bool)(A:Prop):Prop:=match b with|true=>A|false=>False
noncomputable def eachL(F:Nat→Prop)(l:List Nat):Prop:= @List.rec Nat (fun _=>Prop) True (fun i _ ih=>F i∧ih) l
noncomputable def qIp(l:List Nat)(F:Nat→Prop):Prop:=match l with|[i]=>F i|l=>eachL F l
theorem zB{F:Nat→Prop}:∀{l:List Nat},eachL F l→∀i∈l,F i
 |[],_,i,h=>by cases h
 |j::r,k,i,h=>by
  rcases List.mem_cons.1 h with e|h
  ·rw[e];exact k.1
  ·exact zB (l:=r) k.2 i h
theorem qIz{F:Nat→Prop}{l:List Nat}(k:qIp l F):∀i∈l,F i:=by
 unfold qIp at k
 split at k
 ·intro i h
  rw[List.mem_singleton.1 h];exact k
 ·exact zB k
noncomputable def vcD(C:Cx)(ops:List Oper)(ml:List (Nat×Nat))(ol al:List Nat)(s0:St)(n:Nat):List Nat→List Nat→St→(St→Prop)→Prop:=
 @Nat.rec (fun _=>List Nat→List Nat→St→(St→Prop)→Prop) (fun _ _ _ _=>False)
  (fun _ ih dirty done s K=>match oO (lateB ops ol) done 0 ops with
  |some i=>(match ops[i]? with
   | some o => okK (qEu ops.toArray done i o 0 ops) <| xG C.n o.dst <| mA ops o s
     (fun s=>nV C (rO ops ml ol s0 s i) o.op fun sv=>okK (qC dirty sv) <| eG s o.dst sv fun s=>ih dirty (i::done) s K)
     (fun s=>eG s o.dst (.val undef) fun s=>ih dirty (i::done) s K)
   |none=>False)
  |none=>(match fS done al 0 ops with
   |[]=>vO C ops (gL done al) s K
   |c::cs=>qIp (c::cs) fun i=>(match ops[i]? with
    | some o => xG C.n o.dst <| vO C ops (cR done o.after.toList al) s fun s => mA ops o s
      (fun s=>okK (oI s0 ml i (jK s o.op)) <| okK (owOk ol i (xE s o.op)) <| qGu C o s fun s'=>okK (qAn s0 s' o.dst) <| ih (jK s o.op++dirty) (i::(cR done o.after.toList al++done)) s' K)
      (fun s=>eG s o.dst (.val undef) fun s=>ih dirty (i::(cR done o.after.toList al++done)) s K)
    |none=>False))) n
def qH(C:Cx)(ops:List Oper):List Nat→St→(St→Prop)→Prop
 |[],s,K=>K s
 |j::js,s,K=>match ops[j]? with
  |some o=>(match o.dst with
   |some d=>(match o.op with
    | .alloc t=>tyK C t fun _=>xG C.n (some d) <| okK (lD d j 0 ops) <| qLf s (some d) fun s=>qH C ops js s K
    |_=>False)
   |none=>False)
  |none=>False
noncomputable def qGf(C:Cx)(ops:List Oper)(s:St)(K:St→Prop):Prop:=
 okK (qIa ops) <| match oN ops s 0 ops with
  |some ml=>qH C ops (dJ 0 ops) s fun s=>vcD ⟨C.P,C.tt,C.n,[],true⟩ ops ml (eD ops s 0 ops) (dJ 0 ops) s (ops.length+1) [] [] s K
  |none=>False
inductive Ex where
 |normal|ret|exit (id:Nat)
def bY(n:Nat)(sv:SV):Bool:=
 match sv with
 | .loc t _ _=>Nat.blt t n
 | .row t _ _ _=>Nat.blt t n
 | .rel t _ _ _ _=>Nat.blt t n
 |_=>true
def dF(n:Nat):List (Nat×SV)→Bool
 |[]=>true
 |(_,sv)::r=>(match bY n sv with|true=>dF n r|false=>false)
def tN(n:Nat):List SV→Bool
 |[]=>true
 |sv::r=>(match bY n sv with|true=>tN n r|false=>false)
def cF(n:Nat):List (Nat×Option LB)→Bool
 |[]=>true
 |(t,some (.cells _ cs _))::r=>(match Nat.blt t n,tN n cs with|true,true=>cF n r|_,_=>false)
 |(t,_)::r=>(match Nat.blt t n with|true=>cF n r|false=>false)
def SV.gen:SV→SV
 | .kn b=> .val (.bool b)
 |sv=>sv
def LB.gen:LB→LB
 | .cells r cs ty=> .cells r (cs.map SV.gen) ty
 |lb=>lb
def SubE(l':List (Nat×SV)):List (Nat×SV)→Prop
 |[]=>True
 |(i,sv)::r=>(bD l' i).map SV.gen=some sv.gen∧SubE l' r
def SubB(s':St):List (Nat×Option LB)→Prop
 |[]=>True
 |(t,some lb)::r=>(s'.lb t).map LB.gen=some lb.gen∧SubB s' r
 |(_,none)::r=>SubB s' r
structure St.Sub (s' s:St):Prop where
 env:SubE s'.env s.env
 blk:SubB s' s.blk
 mem:s'.mem=s.mem
 own:s'.own=s.own
def NilAs(n:Nat)(sv' sv:SV):Prop:=sv'.gen=sv.gen∨∃t,sv= .row t none 0 0∧sv'= .val (.slice none 0 0)∧n≤t
def NilC(n:Nat):List SV→List SV→Prop
 |[],[]=>True
 |a::l,b::r=>NilAs n a b∧NilC n l r
 |_,_=>False
def SubEN(n:Nat)(l':List (Nat×SV)):List (Nat×SV)→Prop
 |[]=>True
 |(i,sv)::r=>(∃sv',bD l' i=some sv'∧NilAs n sv' sv)∧SubEN n l' r
def SubBN(s':St):List (Nat×Option LB)→Prop
 |[]=>True
 |(t,some lb)::r=>(s'.lb t=some lb∨(∃ty es,lb= .row none 0 ty es []∧s'.nxt≤t)∨∃b cs cs' ty,lb= .cells b cs ty∧s'.lb t=some (.cells b cs' ty)∧NilC s'.nxt cs' cs)∧SubBN s' r
 |(_,none)::r=>SubBN s' r
structure St.SubN (s' s:St):Prop where
 env:SubEN s'.nxt s'.env s.env
 blk:SubBN s' s.blk
 mem:s'.mem=s.mem
 own:s'.own=s.own
structure loopVC (body:St→(Ex→St→Prop)→Prop) (s:St) (K:Ex→St→Prop):Prop where
 out:(∃(ι:Type) (I:ι→Prop) (σ:ι→St) (m:ι→Nat) (i0:ι),I i0∧(∀i,dF (σ i).nxt (σ i).env=true∧cF (σ i).nxt (σ i).blk=true)∧(s.Sub (σ i0)∨s.SubN (σ i0))∧
   ∀i,I i→body (σ i) fun e s'=>match e with
    | .normal=>∃i',I i'∧m i'<m i∧s'.Sub (σ i')
    |e=>K e s')∨
  (∃ (ι : Type) (I : ι → Prop) (σ : ι → St) (m : ι → Nat) (fz : List Nat), (cG fz s fun s => fF fz s fun s => ∃ i0, I i0 ∧ s.Sub (σ i0)) ∧ (∀ i, dF (σ i).nxt (σ i).env = true ∧ cF (σ i).nxt (σ i).blk = true) ∧
   ∀i,I i→body (σ i) fun e s'=>match e with
    | .normal=>∃fz,cG fz s' fun s'=>fF fz s' fun s'=>∃i',I i'∧m i'<m i∧s'.Sub (σ i')
    |e=>K e s')∨
  ∃(ι:Type) (I:ι→Prop) (σ:ι→St) (m:ι→Nat) (fz:List Nat),(cG fz s fun s=>fF fz s fun s=>∃i0,I i0∧s.SubN (σ i0))∧(∀i,dF (σ i).nxt (σ i).env=true∧cF (σ i).nxt (σ i).blk=true)∧
   ∀i,I i→body (σ i) fun e s'=>match e with
    | .normal=>∃fz,cG fz s' fun s'=>fF fz s' fun s'=>∃i',I i'∧m i'<m i∧s'.Sub (σ i')
    |e=>K e s'
def qFv(c:SV)(s:St)(A B:St→Prop):Prop:=
 match c with
 | .kn true=>A s
 | .kn false=>B s
 | .val (.bool b)=>ifVC true b s A B
 |_=>False
noncomputable def uG(C:Cx)(c:Code):St→(Ex→St→Prop)→Prop:=
 @Code.rec (fun _=>St→(Ex→St→Prop)→Prop)
  (fun s K=>K .normal s)
  (fun _ ops draw s K => match draw with
   |false=>qBz C ops.toList ops.toList s fun s=>K .normal s
   |true=>qGf C ops.toList s fun s=>K .normal s)
  (fun _ _ iha ihb s K => iha s fun e s => match e with
   | .normal=>ihb s K
   |e=>K e s)
  (fun c _ _ iht ihe s K=>evK s c fun c=>qFv c s (fun s=>iht s K) (fun s=>ihe s K))
  (fun id _ ih s K => ih s fun e s => match e with
   | .exit j=>(match Nat.beq j id with|true=>K .normal s|false=>K (.exit j) s)
   |e=>K e s)
  (fun _ ih s K=>loopVC (fun s K=>ih s K) s K)
  (fun _ _ _ _ _ _ _ _=>False)
  (fun id s K=>K (.exit id) s)
  (fun _ _ _ _=>False)
  (fun _ s K=>K .normal s)
  (fun _ _ _=>False)
  (fun s K=>K .ret s)
  (fun _ _ _=>False) c
noncomputable def qLv(C:Cx)(s:St)(l:List ResultVar):(List Value→Prop)→Prop:=
 @List.rec ResultVar (fun _=>(List Value→Prop)→Prop) (fun K=>K [])
  (fun x _ ih K => match x with
   | .tmp t=>evK s (.tmp t) fun sv=>iR sv fun v=>ih fun vs=>K (v::vs)
   | .cell a t=>evK s (.tmp a) fun
    | .loc tag r0 off=>sD C s t (.loc tag r0 off) fun sv=>iR sv fun v=>ih fun vs=>K (v::vs)
    | .val (.pointer (some ad))=>sD C s t (.val (.pointer (some ad))) fun sv=>iR sv fun v=>ih fun vs=>K (v::vs)
    |_=>False) l
structure retVC (s:St) (v:Value) (R:Value→Mem→Mem→Prop):Prop where
 out:(∃fz,cG fz s fun s=>R v s.mem s.own∨∃g k,Parts s.own g k∧R v (s.mem.join g) k)∨(∃fz,cG fz s fun s=>Apart s.mem s.own→R v s.mem s.own∨∃g k,Parts s.own g k∧R v (s.mem.join g) k)∨∃gv,fO gv s fun s=>R v s.mem s.own
def qMv:Nat→List Value→(List (Nat×SV)→Prop)→Prop
 |_,[],K=>K []
 |i,v::l,K=>qMv (i+1) l fun r=>K ((i,.val v)::r)
noncomputable def xW(P:Program)(tt:List (Nat×TI))(os:List Nat)(fn:Func)(args:List Value)(μ h:Mem)(R:Value→Mem→Mem→Prop):Prop:=
 match fn.body with
 |none=>False
 |some c=>leK (fn.params.size+fn.nfree) fn.ntmps <| qEh (fn.params.size+fn.nfree) args (qMv 0 args fun e=>uG ⟨P,tt,fn.ntmps,os,false⟩ c ⟨e,[],0,μ,h⟩ fun e s=>
  match e with
  | .exit _=>False
  |_=>qLv ⟨P,tt,fn.ntmps,os,false⟩ s fn.results.toList fun vs=>(match vs with|[v]=>retVC s v R|vs=>retVC s (.tuple vs.toArray) R))
theorem iIn{fr b:Bool}{s:St}{A B:St→Prop}(h:b=true→A s)(k:b=false→B s):ifVC fr b s A B:=⟨.inl ⟨h,k⟩⟩
theorem rJ{b:Bool}{s:St}{A B:St→Prop}(fz:List Nat)(h:cG fz s fun s=>(b=true→A s)∧(b=false→B s)):ifVC true b s A B:=⟨.inr ⟨rfl,fz,h⟩⟩
theorem aS{r:Int}{K:Int→Prop}(h:∀x,x=r→K x):numVC r K:=⟨h⟩
theorem nEq{r x:Int}{K:Int→Prop}(e:r=x)(h:K x):numVC r K:=⟨fun y hy=>by subst hy;subst e;exact h⟩
theorem eIn{μ:Mem}{base:Option Addr}{n es:Nat}{i:Int}{K:Addr→List Value→Prop}{K':Addr→Prop}{a:Addr}{cs:List Value}(h:ElemAt μ base n es i a cs)(k:K a cs):elemVC μ base n es i K K':=⟨.inl ⟨a,cs,h,k⟩⟩
theorem cS{μ:Mem}{base:Option Addr}{n es:Nat}{i:Int}{K:Addr→List Value→Prop}{K':Addr→Prop}(a0:Addr)(h:base=some a0)(h0:0≤i)(h1:i<n)(k:K' (a0.add (i.toNat*es))):elemVC μ base n es i K K':=⟨.inr ⟨a0,h,h0,h1,k⟩⟩
theorem bK{n:Nat}{i:Int}{K:Nat→Prop}(j:Nat)(e:i=j)(h:j<n)(k:K j):relVC n i K:=⟨⟨j,e,h,k⟩⟩
theorem bL{xs:List Value}{i:Nat}{K:Value→Prop}(v:Value)(h:xs[i]? =some v)(k:K v):getVC xs i K:=⟨⟨v,h,k⟩⟩
theorem mX{μ h:Mem}{a:Addr}{size:Nat}{K:List Value→Prop}(cs:List Value)(l:cs.length=size)(e:∀j v,cs[j]? =some v→μ.cell (a.add j)=some v)(k:K cs):extVC μ h a size K:=⟨⟨cs,l,.inl e,k⟩⟩
theorem oIn{μ h:Mem}{a:Addr}{size:Nat}{K:List Value→Prop}(cs:List Value)(l:cs.length=size)(e:∀j v,cs[j]? =some v→h.cell (a.add j)=some v)(k:K cs):extVC μ h a size K:=⟨⟨cs,l,.inr e,k⟩⟩
theorem sIn{h:Mem}{a:Addr}{vs:List Value}{K:Mem→Prop}(cs:List Value)(ty:TypeId)(e:h a.block=some (.cells cs.toArray ty (0,0)))(e1:a.spot=none)(e2:a.off+vs.length≤cs.length)(k:K (h.set a.block (.cells (List.toArray (cs.take a.off++vs++cs.drop (a.off+vs.length))) ty (0,0)))):stoVC h a vs K:=⟨⟨cs,ty,e,e1,e2,k⟩⟩
theorem bW{xs:List Value}{K:List UInt8→Prop}(bs:List UInt8)(e:xs=bs.map (fun b=> .int .u8 (b.toNat:Int)))(k:K bs):bytesVC xs K:=⟨⟨bs,e,k⟩⟩
theorem aE{lo hi cap:Int}{K:Nat→Nat→Prop}(l h:Nat)(e1:lo=l)(e2:hi=h)(e3:l≤h)(e4:(h:Int)≤cap)(k:K l h):cutVC lo hi cap K:=⟨⟨l,h,e1,e2,e3,e4,k⟩⟩
theorem nG{μ h:Mem}{r n cap:Nat}{ty:TypeId}{es bytes:Nat}{ys:List Value}{K:Nat→Nat→Mem→Prop}(xs:List Value)(e:xs.length=n)(hr:RowO h r cap ty es xs)(h1:(n+ys.length)*bytes≤140737488355328)(h2:n+ys.length≤maxLen)
  (k:∀r' cap' o,RowO (h.set r' o) r' cap' ty es (xs++ys)→(r'=r∨(h r'=none∧μ r'=none))→K r' cap' (h.set r' o)):appVC μ h r n cap ty es bytes ys K:=⟨⟨xs,ty,e,hr,h1,h2,fun r' c' o ty' ht=>by
 have:ty'=ty:=ht.elim id id
 subst this
 exact k r' c' o⟩⟩
theorem qMo{μ h:Mem}{r n cap:Nat}{ty:TypeId}{es bytes:Nat}{ys:List Value}{K:Nat→Nat→Mem→Prop}(v:appVC μ h r n cap ty es bytes ys K):∃xs ty0,xs.length=n∧RowO h r cap ty0 es xs∧(n+ys.length)*bytes≤140737488355328∧n+ys.length≤maxLen∧
  ∀r' cap' o ty',(ty'=ty0∨ty'=ty)→RowO (h.set r' o) r' cap' ty' es (xs++ys)→(r'=r∨(h r'=none∧μ r'=none))→K r' cap' (h.set r' o):=v.out
theorem yI{μ h:Mem}{r:Nat}{ok:Value→Prop}{key:Value}{K:Option Value→Prop}(v:lookVC μ h r ok key K):ok key∧∃l,(μ r=some (bV l)∨h r=some (bV l))∧MapOk ok l∧K (fZ l key):=v.out
theorem rE{μ h:Mem}{r:Nat}{K:Nat→Prop}(v:mlenVC μ h r K):∃l,(μ r=some (bV l)∨h r=some (bV l))∧K l.length:=v.out
theorem qCv{h:Mem}{r:Nat}{ok:Value→Prop}{key val:Value}{K:Mem→Prop}(v:updVC h r ok key val K):ok key∧∃l,h r=some (bV l)∧MapOk ok l∧K (h.set r (bV (dH l key val))):=v.out
theorem qJs{μ h:Mem}{r:Nat}{over:Prop}{K:Value→Value→Mem→Prop}(v:nextVC μ h r over K):∃m seen c l,h r=some (cW m l.length seen c)∧(μ m=some (bV l)∨h m=some (bV l))∧l.length≤c∧((∀j,j<l.length→j∈seen)→over)∧
  ∀(j:Nat) k v,l[j]? =some (k,v)→j∉seen→K k v (h.set r (cW m l.length (seen++[j]) l.length)):=v.out
theorem qNk{μ h:Mem}{r:Nat}{K:Value→Value→Prop}(v:entVC μ h r K):∃m n seen j l k v,h r=some (cW m n (seen++[j]) l.length)∧(μ m=some (bV l)∨h m=some (bV l))∧l[j]? =some (k,v)∧K k v:=v.out
theorem aD{p K:Prop}(h:p)(k:K):needVC p K:=⟨⟨h,k⟩⟩
theorem aK{s:ByteArray}{i:Int}{K:UInt8→Prop}(j:Nat)(b:UInt8)(e:i=j)(h:s.data.toList[j]? =some b)(k:K b):byteVC s i K:=⟨⟨j,b,e,h,k⟩⟩
theorem aN{μ:Mem}{base:Option Addr}{n es:Nat}{K:List Value→Prop}(ys:List Value)(h:uD μ base n es ys)(k:K ys):srcVC μ base n es K:=⟨⟨ys,h,k⟩⟩
theorem rV{need bytes:Nat}{empty:Prop}{K:Option Nat→Nat→Prop}(h:need*bytes≤140737488355328)(h':need≤maxLen)(k:∀base' cap',need≤cap'→(base'=none→empty)→K base' cap'):growVC need bytes empty K:=⟨⟨h,h',k⟩⟩
theorem gIn{need bytes:Nat}{empty:Prop}{K:Option Nat→Nat→Prop}(h:need*bytes≤140737488355328)(h':need≤maxLen)(k:∀base' cap',(base'=none→empty)→K base' cap'):growVC need bytes empty K:=⟨⟨h,h',fun b c _ e=>k b c e⟩⟩
theorem cPl{dr:Bool}{P:Program}{f:FuncId}{args:List Value}{s:St}{K:Value→St→Prop}{R:Value→Mem→Prop}(h:Spec P f args s.mem R)
  (k:∀v μ',s.mem.Le μ'→R v μ'→qGk s μ' fun s=>K v s):callVC dr P f args s K:=⟨⟨[],[],fun _=>rfl,.inl ⟨R,h,k⟩⟩⟩
theorem cOw{dr:Bool}{P:Program}{f:FuncId}{args:List Value}{s:St}{K:Value→St→Prop}{R:Value→Mem→Mem→Prop}(h:SpecH P f args s.mem s.own R)
  (k:∀v μ' h',s.mem.Le μ'→Apart μ' h'→R v μ' h'→kV s μ' h' fun s=>K v s):callVC dr P f args s K:=⟨⟨[],[],fun _=>rfl,.inr ⟨R,h,k⟩⟩⟩
theorem tQ{dr:Bool}{P:Program}{f:FuncId}{args:List Value}{s:St}{K:Value→St→Prop}(fz gv:List Nat)(hd:dr=true→gv=[])
  (h : cG fz s fun s => fO gv s fun s => (∃ R, Spec P f args s.mem R ∧ ∀ v μ', s.mem.Le μ' → R v μ' → qGk s μ' fun s => K v s) ∨
   ∃R,SpecH P f args s.mem s.own R∧∀v μ' h',s.mem.Le μ'→Apart μ' h'→R v μ' h'→kV s μ' h' fun s=>K v s):callVC dr P f args s K:=⟨⟨fz,gv,hd,h⟩⟩
theorem qN{P:Program}{f:FuncId}{args:List Value}{μ h0:Mem}{K:Value→Mem→Prop}{K':Value→Mem→Mem→Prop}{R:Value→Mem→Mem→Prop}(h:SpecH P f args μ h0 R)
  (k:∀v μ' h',μ.Le μ'→Apart μ' h'→R v μ' h'→K' v μ' h'):(∃R,Spec P f args μ R∧∀v μ',μ.Le μ'→R v μ'→K v μ')∨∃R,SpecH P f args μ h0 R∧∀v μ' h',μ.Le μ'→Apart μ' h'→R v μ' h'→K' v μ' h':= .inr ⟨R,h,k⟩
theorem bF{dr:Bool}{P:Program}{f:FuncId}{args:List Value}{s:St}{K:Value→St→Prop}(fz:List Nat)
  (h : cG fz s fun s => (∃ R, Spec P f args s.mem R ∧ ∀ v μ', s.mem.Le μ' → R v μ' → qGk s μ' fun s => K v s) ∨
   ∃R,SpecH P f args s.mem s.own R∧∀v μ' h',s.mem.Le μ'→Apart μ' h'→R v μ' h'→kV s μ' h' fun s=>K v s):callVC dr P f args s K:=⟨⟨fz,[],fun _=>rfl,h⟩⟩
theorem cE{P:Program}{f:FuncId}{args:List Value}{μ h0:Mem}{K:Value→Mem→Prop}{K':Value→Mem→Mem→Prop}{R:Value→Mem→Prop}(h:Spec P f args μ R)
  (k:∀v μ',μ.Le μ'→R v μ'→K v μ'):(∃R,Spec P f args μ R∧∀v μ',μ.Le μ'→R v μ'→K v μ')∨∃R,SpecH P f args μ h0 R∧∀v μ' h',μ.Le μ'→Apart μ' h'→R v μ' h'→K' v μ' h':= .inl ⟨R,h,k⟩
theorem rPl{s:St}{v:Value}{R:Value→Mem→Mem→Prop}(h:R v s.mem s.own):retVC s v R:=⟨.inl ⟨[],.inl h⟩⟩
theorem rFz{s:St}{v:Value}{R:Value→Mem→Mem→Prop}(fz:List Nat)(h:cG fz s fun s=>R v s.mem s.own∨∃g k,Parts s.own g k∧R v (s.mem.join g) k):retVC s v R:=⟨.inl ⟨fz,h⟩⟩
theorem iI{s:St}{v:Value}{R:Value→Mem→Mem→Prop}(fz:List Nat)(h:cG fz s fun s=>Apart s.mem s.own→R v s.mem s.own∨∃g k,Parts s.own g k∧R v (s.mem.join g) k):retVC s v R:=⟨.inr (.inl ⟨fz,h⟩)⟩
theorem qMq{s:St}{v:Value}{R:Value→Mem→Mem→Prop}(gv:List Nat)(h:fO gv s fun s=>R v s.mem s.own):retVC s v R:=⟨.inr (.inr ⟨gv,h⟩)⟩
theorem dZ{s:St}{v:Value}{R:Value→Mem→Mem→Prop}(g k:Mem)(hp:Parts s.own g k)(h:R v (s.mem.join g) k):retVC s v R:=⟨.inl ⟨[],.inr ⟨g,k,hp,h⟩⟩⟩
theorem lIn{body:St→(Ex→St→Prop)→Prop}{s:St}{K:Ex→St→Prop}{ι:Type}(I:ι→Prop)(σ:ι→St)(m:ι→Nat)(i0:ι)(h0:I i0)
  (h1:∀i,dF (σ i).nxt (σ i).env=true∧cF (σ i).nxt (σ i).blk=true) (h2:s.Sub (σ i0))
  (h3 : ∀ i, I i → body (σ i) fun e s' => match e with
   | .normal=>∃i',I i'∧m i'<m i∧s'.Sub (σ i')
   |e=>K e s'):loopVC body s K:=⟨.inl ⟨ι,I,σ,m,i0,h0,h1,.inl h2,h3⟩⟩
theorem bS{body:St→(Ex→St→Prop)→Prop}{s:St}{K:Ex→St→Prop}{ι:Type}(I:ι→Prop)(σ:ι→St)(m:ι→Nat)(i0:ι)(h0:I i0)
  (h1:∀i,dF (σ i).nxt (σ i).env=true∧cF (σ i).nxt (σ i).blk=true) (h2:s.SubN (σ i0))
  (h3 : ∀ i, I i → body (σ i) fun e s' => match e with
   | .normal=>∃i',I i'∧m i'<m i∧s'.Sub (σ i')
   |e=>K e s'):loopVC body s K:=⟨.inl ⟨ι,I,σ,m,i0,h0,h1,.inr h2,h3⟩⟩
theorem qKt{l c:Int}{bytes:Nat}{K:Nat→Prop}(h:makeVC l c bytes K):l=c∧∃n:Nat,l=n∧n*bytes≤140737488355328∧n≤maxLen∧K n:=h.out
theorem qIo{b:Bool}{s:St}{A B:St→Prop}(h:ifVC false b s A B):(b=true→A s)∧(b=false→B s):=h.out.resolve_right fun k=>nomatch k.1
theorem qNl{fr b:Bool}{s:St}{A B:St→Prop}(h:ifVC fr b s A B):((b=true→A s)∧(b=false→B s))∨∃fz,cG fz s fun s=>(b=true→A s)∧(b=false→B s):=h.out.imp id fun k=>k.2
theorem cJ{r:Int}{K:Int→Prop}(h:numVC r K):K r:=h.out r rfl
theorem qT{μ:Mem}{base:Option Addr}{n es:Nat}{i:Int}{K:Addr→List Value→Prop}{K':Addr→Prop}(h:elemVC μ base n es i K K'):(∃a cs,ElemAt μ base n es i a cs∧K a cs)∨∃a0,base=some a0∧0≤i∧i<n∧K' (a0.add (i.toNat*es)):=h.out
theorem qEs{n:Nat}{i:Int}{K:Nat→Prop}(h:relVC n i K):∃j:Nat,i=j∧j<n∧K j:=h.out
theorem uB{xs:List Value}{i:Nat}{K:Value→Prop}(h:getVC xs i K):∃v,xs[i]? =some v∧K v:=h.out
theorem wN{μ h0:Mem}{a:Addr}{size:Nat}{K:List Value→Prop}(h:extVC μ h0 a size K):∃cs,cs.length=size∧((∀j v,cs[j]? =some v→μ.cell (a.add j)=some v)∨∀j v,cs[j]? =some v→h0.cell (a.add j)=some v)∧K cs:=h.out
theorem qNr{h:Mem}{a:Addr}{vs:List Value}{K:Mem→Prop}(k:stoVC h a vs K):∃cs ty,h a.block=some (.cells (List.toArray cs) ty (0,0))∧a.spot=none∧a.off+vs.length≤cs.length∧K (h.set a.block (.cells (List.toArray (cs.take a.off++vs++cs.drop (a.off+vs.length))) ty (0,0))):=k.out
theorem uP{xs:List Value}{K:List UInt8→Prop}(h:bytesVC xs K):∃bs:List UInt8,xs=bs.map (fun b=> .int .u8 (b.toNat:Int))∧K bs:=h.out
theorem vT{lo hi cap:Int}{K:Nat→Nat→Prop}(k:cutVC lo hi cap K):∃l h:Nat,lo=l∧hi=h∧l≤h∧(h:Int)≤cap∧K l h:=k.out
theorem eQ{p K:Prop}(h:needVC p K):p∧K:=h.out
theorem zN{s:ByteArray}{i:Int}{K:UInt8→Prop}(h:byteVC s i K):∃(j:Nat) (b:UInt8),i=j∧s.data.toList[j]? =some b∧K b:=h.out
theorem qNp{μ:Mem}{base:Option Addr}{n es:Nat}{K:List Value→Prop}(h:srcVC μ base n es K):∃ys,uD μ base n es ys∧K ys:=h.out
theorem qGo{n:Int}{K:Nat→Prop}(h:zerosVC n K):∃m:Nat,n=m∧K m:=h.out
theorem zL{need bytes:Nat}{empty:Prop}{K:Option Nat→Nat→Prop}(h:growVC need bytes empty K):need*bytes≤140737488355328∧need≤maxLen∧∀base' cap',need≤cap'→(base'=none→empty)→K base' cap':=h.out
theorem qIv{dr:Bool}{P:Program}{f:FuncId}{args:List Value}{s:St}{K:Value→St→Prop}(h:callVC dr P f args s K):
  ∃fz gv,(dr=true→gv=[])∧cG fz s fun s=>fO gv s fun s=>(∃R,Spec P f args s.mem R∧∀v μ',s.mem.Le μ'→R v μ'→qGk s μ' fun s=>K v s)∨
   ∃R,SpecH P f args s.mem s.own R∧∀v μ' h',s.mem.Le μ'→Apart μ' h'→R v μ' h'→kV s μ' h' fun s=>K v s:=h.out
theorem qNd{s:St}{v:Value}{R:Value→Mem→Mem→Prop}(h:retVC s v R):(∃fz,cG fz s fun s=>R v s.mem s.own∨∃g k,Parts s.own g k∧R v (s.mem.join g) k)∨(∃fz,cG fz s fun s=>Apart s.mem s.own→R v s.mem s.own∨∃g k,Parts s.own g k∧R v (s.mem.join g) k)∨∃gv,fO gv s fun s=>R v s.mem s.own:=h.out
theorem lFz{body:St→(Ex→St→Prop)→Prop}{s:St}{K:Ex→St→Prop}{ι:Type}(I:ι→Prop)(σ:ι→St)(m:ι→Nat)(fz:List Nat)
  (h1:∀i,dF (σ i).nxt (σ i).env=true∧cF (σ i).nxt (σ i).blk=true) (h2:cG fz s fun s=>fF fz s fun s=>∃i0,I i0∧s.Sub (σ i0))
  (h3 : ∀ i, I i → body (σ i) fun e s' => match e with
   | .normal=>∃fz,cG fz s' fun s'=>fF fz s' fun s'=>∃i',I i'∧m i'<m i∧s'.Sub (σ i')
   |e=>K e s'):loopVC body s K:=⟨.inr (.inl ⟨ι,I,σ,m,fz,h2,h1,h3⟩)⟩
theorem qKm{body:St→(Ex→St→Prop)→Prop}{s:St}{K:Ex→St→Prop}(h:loopVC body s K):
  (∃(ι:Type) (I:ι→Prop) (σ:ι→St) (m:ι→Nat) (i0:ι),I i0∧(∀i,dF (σ i).nxt (σ i).env=true∧cF (σ i).nxt (σ i).blk=true)∧(s.Sub (σ i0)∨s.SubN (σ i0))∧
  ∀i,I i→body (σ i) fun e s'=>match e with
   | .normal=>∃i',I i'∧m i'<m i∧s'.Sub (σ i')
   |e=>K e s')∨
  (∃ (ι : Type) (I : ι → Prop) (σ : ι → St) (m : ι → Nat) (fz : List Nat), (cG fz s fun s => fF fz s fun s => ∃ i0, I i0 ∧ s.Sub (σ i0)) ∧ (∀ i, dF (σ i).nxt (σ i).env = true ∧ cF (σ i).nxt (σ i).blk = true) ∧
   ∀i,I i→body (σ i) fun e s'=>match e with
    | .normal=>∃fz,cG fz s' fun s'=>fF fz s' fun s'=>∃i',I i'∧m i'<m i∧s'.Sub (σ i')
    |e=>K e s')∨
  ∃(ι:Type) (I:ι→Prop) (σ:ι→St) (m:ι→Nat) (fz:List Nat),(cG fz s fun s=>fF fz s fun s=>∃i0,I i0∧s.SubN (σ i0))∧(∀i,dF (σ i).nxt (σ i).env=true∧cF (σ i).nxt (σ i).blk=true)∧
   ∀i,I i→body (σ i) fun e s'=>match e with
    | .normal=>∃fz,cG fz s' fun s'=>fF fz s' fun s'=>∃i',I i'∧m i'<m i∧s'.Sub (σ i')
    |e=>K e s':=h.out
end Go.Vx
namespace Go.Vx
theorem cZ(sv:SV)(K:Value→Prop):iR sv K=K sv.conc:=by cases sv<;>rfl
theorem dB:∀(l:List SV) (K:List Value→Prop),kL l K=K (l.map SV.conc)
 |[],_=>rfl
 |sv::l,K=>by simp only[kL,cZ,dB l,List.map_cons]
theorem qCc{α:Type}:∀(l m:List α) (K:List α→Prop),qMi l m K=K (l++m)
 |[],_,_=>rfl
 |x::l,m,K=>by simp only[qMi,qCc l m,List.cons_append]
theorem hY{α:Type}:∀(l:List α) (m n:Nat) (K:List α→Prop),sS l m n K→m+n≤l.length∧K ((l.drop m).take n)∨n=0∧K []
 |l,m,0,K,h=> .inr ⟨rfl,by cases l<;>exact h⟩
 |x::l,0,n+1,K,h=>by
  rcases hY l 0 n _ h with⟨a,b⟩|⟨rfl,b⟩
  ·exact .inl ⟨by simp;omega,by simpa using b⟩
  ·exact .inl ⟨by simp,by simpa using b⟩
 |x::l,m+1,n+1,K,h=>by
  rcases hY l m (n+1) _ h with⟨a,b⟩|⟨e,_⟩
  ·exact .inl ⟨by simp;omega,by simpa using b⟩
  ·cases e
 |[],m,n+1,K,h=>by cases m<;>exact h.elim
theorem kF{α:Type}:∀(l:List α) (m:Nat) (vs:List α) (K:List α→Prop),lL l m vs K→m+vs.length≤l.length∧K (l.take m++vs++l.drop (m+vs.length))
 |l,0,[],K,h=>⟨by simp,by cases l<;>(simp only[lL]at h;simpa using h)⟩
 |x::l,0,v::vs,K,h=>by
  obtain⟨a,b⟩:=kF l 0 vs _ h
  refine⟨by simp at a ⊢;omega,?_⟩
  simpa[Nat.add_comm]using b
 |x::l,m+1,vs,K,h=>by
  have h':lL l m vs fun r=>K (x::r):=by cases vs<;>exact h
  obtain⟨a,b⟩:=kF l m vs _ h'
  refine⟨by simp;omega,?_⟩
  rw[show m+1+vs.length=(m+vs.length)+1 from by omega]
  simpa using b
 |[],0,v::vs,K,h=>h.elim
 |[],m+1,vs,K,h=>by cases vs<;>exact h.elim
theorem kO{α:Type}:∀(n:Nat) (l:List α) (A:Prop),qEh n l A→l.length=n∧A
 |0,[],_,h=>⟨rfl,h⟩
 |n+1,_::l,A,h=>by obtain⟨a,b⟩:=kO n l A h;exact⟨by simp[a],b⟩
 |0,_::_,_,h=>h.elim
 |_+1,[],_,h=>h.elim
theorem dI:∀(l:List Value) (A:Prop),hF l A→(∀u∈l,u.oneCell'=true)∧A
 |[],_,h=>⟨by simp,h⟩
 |v::l,A,h=>by
  cases v<;>first
   |exact h.elim
   |(obtain⟨a,b⟩:=dI l A h;exact⟨by simpa[Value.oneCell']using a,b⟩)
theorem gY:∀l:List Value,(vals l).map SV.conc=l
 |[]=>rfl
 |v::l=>by cases v<;>simp[vals,SV.conc,gY l]
theorem pG:∀(l:List Value) (K:List SV→Prop),qCw l K=K (vals l)
 |[],_=>rfl
 |v::l,K=>by cases v<;>simp only[qCw,pG l,vals]
theorem rU(sv:SV)(K:List SV→Prop):pX sv K=K (cellsOf sv):=by
 unfold pX cellsOf
 split<;>simp only[pG]
theorem dU(sv:SV):(cellsOf sv).map SV.conc=aB sv.conc:=by
 unfold cellsOf
 split
 ·simp[gY,SV.conc,aB]
 ·rename_i h
  cases sv with
  |val v=>cases v<;>first|rfl|exact absurd rfl (h _)
  |_=>rfl
theorem aR(v:Value):v.cells.toList=aB v:=by cases v<;>rfl
theorem bI(s:St)(dst:Option Tmp)(sv:SV)(K:St→Prop):eG s dst sv K=K (s.put dst sv):=by
 cases s;cases dst<;>rfl
theorem pU(s:St)(t:Nat)(lb:LB)(K:St→Prop):qDa s t lb K=K (s.setB t lb):=by cases s;rfl
theorem jP(s:St)(lb:LB)(K:Nat→St→Prop):xX s lb K=K s.nxt (s.newB lb):=by cases s;rfl
theorem memK_eq(s:St)(μ:Mem)(K:St→Prop):qGk s μ K=K {s with mem:=μ}:=by cases s;rfl
theorem qCq(s:St)(t:Nat)(μ:Mem)(K:St→Prop):qNt s t μ K=K {s with mem:=μ,blk:=(t,none)::s.blk}:=by cases s;rfl
theorem xY(t:Nat)(sv:SV)(K:SV→Prop):qBn t sv K=K (sv.fade t):=by
 cases sv<;>simp only[qBn,SV.fade]<;>split<;>rfl
theorem yZ(t:Nat):∀(l:List (Nat×SV)) (K:List (Nat×SV)→Prop),qAk t l K=K (mU t l)
 |[],_=>rfl
 |(i,sv)::l,K=>by simp only[qAk,xY,yZ t l,mU]
theorem yC(t:Nat):∀(l:List SV) (K:List SV→Prop),qAx t l K=K (eN t l)
 |[],_=>rfl
 |sv::l,K=>by simp only[qAx,xY,yC t l,eN]
theorem jZ(t:Nat):∀(l:List (Nat×Option LB)) (K:List (Nat×Option LB)→Prop),lZ t l K=K (dX t l)
 |[],_=>rfl
 |(i,lb)::l,K=>by
  match lb with
  |some (.cells r cs ty)=>simp only[lZ,yC,jZ t l,dX]
  |some (.row ..)=>simp only[lZ,jZ t l,dX]
  |some (.map ..)=>simp only[lZ,jZ t l,dX]
  |none=>simp only[lZ,jZ t l,dX]
theorem qDm(s:St)(t:Nat)(K:St→Prop):qIl s t K=K (s.fade t):=by
 cases s;simp only[qIl,yZ,jZ,St.fade]
theorem yK(d:Nat):∀(l:List (Nat×SV)) (K:List (Nat×SV)→Prop),vB d l K=K (l.filter fun p=> !Nat.beq p.1 d)
 |[],_=>rfl
 |(i,sv)::l,K=>by
  simp only[vB]
  split<;>rename_i h<;>simp[yK d l,h]
def St.drop(s:St)(dst:Option Tmp):St:=match dst with|some d=>{s with env:=s.env.filter fun p=> !Nat.beq p.1 d}|none=>s
theorem qMl(s:St)(dst:Option Tmp)(K:St→Prop):qLf s dst K=K (s.drop dst):=by
 cases s;cases dst<;>simp only[qLf,yK,St.drop]
theorem uZ:∀(l:List Value) (i:Nat) (K:List (Nat×SV)→Prop),qMv i l K→∃e,K e∧∀j sv,bD e j=some sv→∃v,sv= .val v∧i≤j∧l[j-i]? =some v
 |[],i,K,h=>⟨[],h,by simp[bD]⟩
 |v::l,i,K,h=>by
  obtain⟨e,hk,he⟩:=uZ l (i+1) _ h
  refine⟨_,hk,fun j sv hj=>?_⟩
  simp only[bD]at hj
  split at hj
  ·rename_i hb
   have:=Nat.eq_of_beq_eq_true hb
   subst this
   cases hj
   exact⟨v,rfl,Nat.le_refl _,by simp⟩
  ·obtain ⟨u, h1, h2, h3⟩ := he j sv hj
   refine⟨u,h1,by omega,?_⟩
   rw[show j-i=(j-(i+1))+1 from by omega]
   simpa using h3
theorem aG{s:St}{x:Operand}{K:SV→Prop}(h:evK s x K):∃sv,ev s x=some sv∧K sv:=by
 unfold evK at h
 split at h
 ·exact⟨_,by assumption,h⟩
 ·exact h.elim
theorem aO{C:Cx}{t:TypeId}{K:TI→Prop}(h:tyK C t K):∃i,bD C.tt t=some i∧K i:=by
 unfold tyK at h
 split at h
 ·exact⟨_,by assumption,h⟩
 ·exact h.elim
theorem gZ{n:Nat}{dst:Option Tmp}{A:Prop}(h:xG n dst A):(∀d,dst=some d→d<n)∧A:=by
 unfold xG at h
 split at h
 ·exact⟨by simp,h⟩
 ·split at h
  ·rename_i hb
   exact⟨fun d hd=>by cases hd;simpa[Nat.blt_eq]using hb,h⟩
  ·exact h.elim
theorem TTok.get{P:Program}:∀{tt:List (Nat×TI)},TTok P tt→∀{t i},bD tt t=some i→TIok P t i
 |[],_,_,_,h=>by cases h
 |(t,i)::r,⟨h1,h2⟩,u,j,h=>by
  simp only[bD]at h
  split at h
  ·rename_i hb
   have:=Nat.eq_of_beq_eq_true hb
   subst this
   cases h
   exact h1
  ·exact h2.get h
section
variable {P:Program} {t:TypeId} {i:TI} (w:World)
theorem TIok.info'(h:TIok P t i):∃x,P.info? t=some x∧x.size=i.size∧x.bytes=i.bytes∧∃z,x.zero=some z∧aB z=i.zero:=by
 have h1:=h.info
 have h2:=h.zero
 cases hx:P.info? t with
 |none=>simp[hx]at h1
 |some x=>
  simp[hx]at h1 h2
  obtain⟨z,hz,e⟩:=h2
  exact⟨x,rfl,h1.1,h1.2,z,hz,e⟩
theorem TIok.run_sizeOf(h:TIok P t i):(sizeOf t).run P w= .ok i.size w:=by
 obtain⟨x,hx,e,_⟩:=h.info'
 simp[sizeOf,typeInfo,hx,e]
theorem TIok.run_isAgg(h:TIok P t i):(isAgg t).run P w= .ok i.agg w:=by
 have h1:=h.agg
 cases hd:P.underlying t with
 |none=>simp[hd]at h1
 |some d=>
  simp only[hd,Option.map_some,Option.some.injEq]at h1
  simp only[isAgg,Sem.run_bind,run_underlying hd,Result.andThen_ok]
  cases d<;>simp_all [qNa]
theorem TIok.run_zero(h:TIok P t i):∃z,aB z=i.zero∧(zeroValue t).run P w= .ok z w:=by
 obtain⟨x,hx,_,_,z,hz,e⟩:=h.info'
 exact⟨z,e,by simp[zeroValue,typeInfo,hx,hz]⟩
end
theorem Addr.add_add'(a:Addr)(x y:Nat):(a.add x).add y=a.add (x+y):=by
 unfold Addr.add
 by_cases hx:x=0
 ·subst hx;simp
 ·by_cases hy : y = 0
  ·subst hy;simp
  ·rw [if_neg hx, if_neg hy, if_neg (by omega)]
   simp[Nat.add_assoc]
theorem Addr.add_lit'(r o j:Nat):(⟨r,o,none⟩:Addr).add j=⟨r,o+j,none⟩:=by
 unfold Addr.add
 by_cases h:j=0
 ·simp[h]
 ·simp[h]
theorem Holds.cell{μ:Mem}{w:World}(h:Holds μ w){a:Addr}{v:Value}(hv:μ.cell a=some v):w.cell? a=some v:=by
 unfold Mem.cell at hv
 unfold World.cell?
 split at hv
 ·rename_i c e f hb
  rw[h _ _ hb]
  exact hv
 ·cases hv
theorem Mem.Le.cell{μ μ':Mem}(h:μ.Le μ'){a:Addr}{v:Value}(hv:μ.cell a=some v):μ'.cell a=some v:=by
 unfold Mem.cell at*
 split at hv
 ·rename_i c e f hb
  rw[h _ _ hb]
  exact hv
 ·cases hv
theorem Mem.Le.refl(μ:Mem):μ.Le μ:=fun _ _ h=>h
theorem Mem.Le.trans{a b c:Mem}(h:a.Le b)(k:b.Le c):a.Le c:=fun _ _ x=>k _ _ (h _ _ x)
theorem dE{P:Program}{t:TypeId}{i:TI}(hi:TIok P t i)(w:World)(a:Addr)(cs:List Value)(hl:cs.length=i.size)(h:∀j v,cs[j]? =some v→w.cell? (a.add j)=some v)(h1:i.agg=false→i.size=1):
  (loadVar t a).run P w= .ok (if i.agg then .agg cs.toArray else cs.getD 0 undef) w:=by
 unfold loadVar
 simp only[Sem.run_bind,hi.run_isAgg,Result.andThen_ok]
 cases hg:i.agg with
 |true=>
  have:=run_loadCells_list (P:=P) w a cs h
  simp[hi.run_sizeOf,←hl,this]
 |false=>
  match cs,hl,h1 hg with
  |[v],_,_=>
   have:=h 0 v rfl
   simp only[Addr.add,if_true]at this
   simp[this]
  |[],e,e'=>simp at e;omega
  |_::_::_,e,e'=>simp at e;omega
end Go.Vx
namespace Go.Vx
open MapKept (IsKey)
theorem rX:∀(l:List (Value×Value)) (i:Nat),(dT l i).length=l.length
 |[],_=>rfl
 |(k,v)::r,i=>by simp[dT,rX r]
theorem eU:∀(l:List (Value×Value)) (i j:Nat),(dT l i)[j]? =(l[j]?).map fun p=>⟨p.1,p.2,i+j⟩
 |[],_,j=>by simp[dT]
 |(k,v)::r,i,0=>by simp[dT]
 |(k,v)::r,i,j+1=>by
  simp only[dT,List.getElem?_cons_succ,eU r (i+1) j]
  rw[show i+1+j=i+(j+1)from by omega]
theorem sH:∀(l m:List (Value×Value)) (i:Nat),dT (l++m) i=dT l i++dT m (i+l.length)
 |[],m,i=>by simp[dT]
 |(k,v)::r,m,i=>by simp only[List.cons_append,dT,sH r m (i+1),List.length_cons];rw[show i+1+r.length=i+(r.length+1)from by omega]
theorem pE{l:List (Value×Value)}{i:Nat}{e:MapEntry}(h:e∈dT l i):∃j,e.born=i+j∧l[j]? =some (e.key,e.val):=by
 obtain⟨j,hj⟩:=List.mem_iff_getElem?.1 h
 rw[eU]at hj
 obtain⟨p,hp,rfl⟩:=Option.map_eq_some_iff.1 hj
 exact⟨j,rfl,hp⟩
theorem xZ{k:Value}:∀{l:List (Value×Value)},(∀p∈l,p.1≠k)→fZ l k=none
 |[],_=>rfl
 |(a,v)::r,h=>by
  rw[fZ,if_neg (h (a,v) (by simp))]
  exact xZ fun p hp=>h p (by simp[hp])
theorem qHz{k v:Value}:∀{l:List (Value×Value)} {j:Nat},(l.map Prod.fst).Nodup→l[j]? =some (k,v)→fZ l k=some v
 |[],j,_,h=>by simp at h
 |(a,x)::r,0,_,h=>by
  simp only[List.getElem?_cons_zero,Option.some.injEq,Prod.mk.injEq]at h
  obtain⟨rfl,rfl⟩:=h
  rw[fZ,if_pos rfl]
 |(a,x)::r,j+1,hn,h=>by
  simp only[List.getElem?_cons_succ]at h
  simp only[List.map_cons,List.nodup_cons]at hn
  rw[fZ,if_neg (fun e=>hn.1 (by subst e;exact List.mem_map.2 ⟨_,List.mem_of_getElem? h,rfl⟩))]
  exact qHz hn.2 h
theorem qCh{k v:Value}:∀{l:List (Value×Value)},(∀p∈l,p.1≠k)→dH l k v=l++[(k,v)]
 |[],_=>rfl
 |(a,x)::r,h=>by
  rw[dH,if_neg (h (a,x) (by simp)),qCh fun p hp=>h p (by simp[hp])]
  rfl
theorem qIh{k v x:Value}:∀{l:List (Value×Value)} {j:Nat},(l.map Prod.fst).Nodup→l[j]? =some (k,x)→dH l k v=l.set j (k,v)
 |[],j,_,h=>by simp at h
 |(a,y)::r,0,_,h=>by
  simp only[List.getElem?_cons_zero,Option.some.injEq,Prod.mk.injEq]at h
  obtain⟨rfl,rfl⟩:=h
  rw[dH,if_pos rfl];rfl
 |(a,y)::r,j+1,hn,h=>by
  simp only[List.getElem?_cons_succ]at h
  simp only[List.map_cons,List.nodup_cons]at hn
  rw[dH,if_neg (fun e=>hn.1 (by subst e;exact List.mem_map.2 ⟨_,List.mem_of_getElem? h,rfl⟩)),qIh hn.2 h]
  rfl
theorem wH(v:Value):∀(l:List (Value×Value)) (k a:Value),a∈(dH l k v).map Prod.fst↔a=k∨a∈l.map Prod.fst
 |[],k,a=>by simp[dH]
 |(b,x)::r,k,a=>by
  rw[dH]
  split
  ·rename_i e;subst e;simp
  ·simp only [List.map_cons, List.mem_cons, wH v r k a]
   constructor
   ·rintro(h|h|h)<;>simp[h]
   ·rintro(h|h|h)<;>simp[h]
theorem MapOk.nil{ok:Value→Prop}:MapOk ok []:=⟨by simp,by simp⟩
theorem MapOk.set{ok:Value→Prop}{l:List (Value×Value)}(h:MapOk ok l){k:Value}(hk:ok k)(v:Value):MapOk ok (dH l k v):=by
 obtain⟨h1,h2⟩:=h
 constructor
 ·intro p hp
  have:p.1∈(dH l k v).map Prod.fst:=List.mem_map.2 ⟨p,hp,rfl⟩
  rcases(wH v l k p.1).1 this with e|e
  ·rw[e];exact hk
  ·obtain ⟨q, hq, e⟩ := List.mem_map.1 e
   rw[←e];exact h1 q hq
 ·induction l with
  |nil=>simp[dH]
  |cons p r ih=>
   obtain⟨a,x⟩:=p
   simp only[List.map_cons,List.nodup_cons]at h2
   rw[dH]
   split
   ·rename_i e;subst e;simpa using h2
   ·rename_i e
    simp only[List.map_cons,List.nodup_cons]
    refine⟨fun hm=>?_,ih (fun p hp=>h1 p (by simp[hp])) h2.2⟩
    rcases(wH v r k a).1 hm with h|h
    ·exact e h
    ·exact h2.1 h
section
variable {P:Program} {w:World}
theorem keys_of{kt:TypeId}{ti:TI}(hk:uV P kt ti.kind){key:Value}(hkey:eS P kt ti key){l:List (Value×Value)}(hl:∀p∈l,eS P kt ti p.1):
  (∃d,P.underlying kt=some d∧IsKey d key∧∀p∈l,IsKey d p.1)∨(WideMaps.KeyLaw P kt∧(∃s,keyOf P kt key=some s)∧∀p∈l,∃s,keyOf P kt p.1=some s):=by
 cases hkk:ti.kind with
 |strct fs=>
  have conv:∀v,eS P kt ti v→WideMaps.KeyLaw P kt∧∃s,keyOf P kt v=some s:=fun v h=>by
   unfold eS at h
   rw[hkk]at h
   cases v<;>exact h
  exact .inr ⟨(conv _ hkey).1,(conv _ hkey).2,fun p hp=>(conv _ (hl p hp)).2⟩
 |int k=>
  rw[hkk]at hk
  have conv:∀v,eS P kt ti v→IsKey (.int k) v:=fun v h=>by
   unfold eS at h
   rw[hkk]at h
   cases v<;>first|exact h|exact h.elim
  exact .inl ⟨_,hk,conv _ hkey,fun p hp=>conv _ (hl p hp)⟩
 |str=>
  rw[hkk]at hk
  have conv:∀v,eS P kt ti v→IsKey .string v:=fun v h=>by
   unfold eS at h
   rw[hkk]at h
   cases v<;>first|exact h|exact h.elim
  exact .inl ⟨_,hk,conv _ hkey,fun p hp=>conv _ (hl p hp)⟩
 |bool=>
  rw[hkk]at hk
  have conv:∀v,eS P kt ti v→IsKey .bool v:=fun v h=>by
   unfold eS at h
   rw[hkk]at h
   cases v<;>first|exact h|exact h.elim
  exact .inl ⟨_,hk,conv _ hkey,fun p hp=>conv _ (hl p hp)⟩
 |_=>
  unfold eS at hkey
  rw[hkk]at hkey
  cases key<;>exact hkey.elim
theorem yO{kt:TypeId}{ti:TI}(hk:uV P kt ti.kind){key:Value}(hkey:eS P kt ti key){l:List (Value×Value)}(hl:MapOk (eS P kt ti) l)(w:World):
  (∀em,(Instr.checkKey em 10000 kt key).run P w= .ok () w)∧(Instr.keyThatStays key key).run P w= .ok key w∧
  (((Instr.findKey kt key (dT l 0)).run P w = .ok none w ∧ ∀ p ∈ l, p.1 ≠ key) ∨
   ∃j v,(Instr.findKey kt key (dT l 0)).run P w= .ok (some (j,v)) w∧l[j]? =some (key,v)):=by
 have back:∀(j:Nat) e,(dT l 0)[j]? =some e→e.key=key→l[j]? =some (key,e.val):=fun j e he hke=>by
  rw[eU]at he
  obtain⟨p,hp,rfl⟩:=Option.map_eq_some_iff.1 he
  rw[hp,←hke]
 have none:(∀e∈dT l 0,e.key≠key)→∀p∈l,p.1≠key:=fun h p hp=>by
  obtain⟨j,hj⟩:=List.mem_iff_getElem?.1 hp
  exact h ⟨p.1,p.2,0+j⟩ (List.mem_iff_getElem?.2 ⟨j,by rw[eU,hj];rfl⟩)
 rcases keys_of hk hkey hl.keys with⟨d,hd,h1,h2⟩|⟨K,⟨s,hs⟩,h2⟩
 ·refine ⟨fun em => MapKept.run_checkKey hd h1 em 9999, MapKept.run_keyThatStays h1, ?_⟩
  have hes:∀x∈dT l 0,IsKey d x.key:=fun x hx=>by
   obtain⟨j,_,hj⟩:=pE hx
   exact h2 _ (List.mem_of_getElem? hj)
  rcases MapKept.findNow_spec h1 (dT l 0) 0 hes with⟨g1,g2⟩|⟨j,e,g1,g2,g3⟩
  ·exact .inl ⟨MapKept.run_findKey hd g1,none g2⟩
  ·rw [Nat.zero_add] at g1
   exact .inr ⟨j,e.val,MapKept.run_findKey hd g1,back j e g2 g3⟩
 ·refine ⟨fun em => K.check w em hs, K.stays w hs, ?_⟩
  rcases K.find w hs (dT l 0) (fun x hx=>by
   obtain⟨j,_,hj⟩:=pE hx
   exact h2 _ (List.mem_of_getElem? hj))with⟨g1,g2⟩|⟨j,e,g1,g2,g3⟩
  ·exact .inl ⟨g1,none g2⟩
  ·exact .inr ⟨j,e.val,g1,back j e g2 g3⟩
theorem qGd{t kt e:TypeId}{ti te:TI}(ht:P.underlying t=some (.map kt e))(hk:uV P kt ti.kind)(he:TIok P e te){key:Value}(hkey:eS P kt ti key){l:List (Value×Value)}(hl:MapOk (eS P kt ti) l){r:Nat}(hb:w.heap[r]? =some (bV l))(ok:Bool):
  (Instr.lookup t (.map (some r)) key ok).run P w = .ok (match ok, fZ l key with
   |true,some v=> .tuple #[v,.bool true]
   |true,none=> .tuple #[cU te,.bool false]
   |false,some v=>v
   |false,none=>cU te) w:=by
 obtain⟨h1,_,h2⟩:=yO hk hkey hl w
 have hz:(zeroValue e).run P w= .ok (cU te) w:=by
  have:=he.zv
  cases hi:P.info? e with
  |none=>simp[hi]at this
  |some inf=>
   simp only[hi,Option.map_some,Option.some.injEq]at this
   simp[zeroValue,typeInfo,hi,this]
 rcases h2 with⟨g1,g2⟩|⟨j,v,g1,g2⟩
 ·rw [xZ g2]
  cases ok<;>simp[Instr.lookup,run_underlying ht,MapKept.run_getObj_map hb,h1,g1,hz,Result.andThen]
 ·rw [qHz hl.nodup g2]
  cases ok<;>simp[Instr.lookup,run_underlying ht,MapKept.run_getObj_map hb,h1,g1,Result.andThen]
theorem qJb{l:List (Value×Value)}(k v:Value):bV (l++[(k,v)])= .map ((dT l 0).toArray.push {key:=k,val:=v,born:=l.length}) (l.length+1):=by
 simp only[bV,sH,Nat.zero_add,List.length_append,List.length_cons,List.length_nil,dT]
 congr 1
 apply Array.ext'
 simp
theorem qMs{l:List (Value×Value)}{j:Nat}{k x:Value}(v:Value)(hj:l[j]? =some (k,x)):bV (l.set j (k,v))= .map ((dT l 0).toArray.modify j fun e=>{e with key:=k,val:=v}) l.length:=by
 simp only[bV,List.length_set]
 congr 1
 apply Array.ext'
 simp only[Array.toList_modify]
 apply List.ext_getElem?
 intro i
 rw[eU,List.getElem?_modify,eU]
 by_cases h:j=i
 ·subst h
  have hlt:=(List.getElem?_eq_some_iff.1 hj).1
  simp[hlt]
 ·simp[h]
theorem oA{t kt e:TypeId}{ti:TI}(ht:P.underlying t=some (.map kt e))(hk:uV P kt ti.kind){key:Value}(val:Value)(hkey:eS P kt ti key){l:List (Value×Value)}(hl:MapOk (eS P kt ti) l){r:Nat}(hb:w.heap[r]? =some (bV l)):
  (Instr.mapUpdate t (.map (some r)) key val).run P w= .ok () {w with heap:=w.heap.setIfInBounds r (bV (dH l key val))}:=by
 obtain⟨h1,h0,h2⟩:=yO hk hkey hl w
 rcases h2 with⟨g1,g2⟩|⟨j,v,g1,g2⟩
 ·rw [qCh g2, qJb]
  simp[Instr.mapUpdate,run_underlying ht,MapKept.run_getObj_map hb,h1,g1,MapKept.run_setObj_map _ hb,Result.andThen]
 ·rw [qIh hl.nodup g2, qMs val g2]
  have he:(dT l 0)[j]? =some ⟨key,v,0+j⟩:=by simp[eU,g2]
  simp[Instr.mapUpdate,run_underlying ht,MapKept.run_getObj_map hb,h1,g1,he,h0,MapKept.run_setObj_map _ hb,Result.andThen]
theorem qCk{t kt e:TypeId}(ty:TypeId)(ht:P.underlying t=some (.map kt e)){l:List (Value×Value)}{r:Nat}(hb:w.heap[r]? =some (bV l)):
  (Builtin.len_ #[t] ty #[.map (some r)]).run P w= .ok (.int .i64 l.length) w:=by
 have hb:w.heap[r]? =some (.map (dT l 0).toArray l.length):=hb
 simp[Builtin.len_,run_underlying ht,MapKept.run_getObj_map hb,goInt,rX]
theorem qKx{ty:TypeId}{r m c:Nat}{seen:List Nat}{l:List (Value×Value)}(hr:w.heap[r]? =some (cW m l.length seen c))(hm:w.heap[m]? =some (bV l))(hc:l.length≤c):
  ((∀j,j<l.length→j∈seen)∧(Instr.next (.pointer (some ⟨r,0,none⟩)) false ty).run P w= .ok (.tuple #[.bool false]) w)∨
  ∃(j:Nat) (k v:Value) (w1:World),l[j]? =some (k,v)∧j∉seen∧(w1=w∨w1=w.drew)∧(Instr.next (.pointer (some ⟨r,0,none⟩)) false ty).run P w= .ok (.tuple #[.bool true,k,v]) {w1 with heap:=w1.heap.setIfInBounds r (cW m l.length (seen++[j]) l.length)}:=by
 have hold:∀x∈(dT l 0).toArray.toList,x.born<l.length:=fun x hx=>by
  obtain⟨j,h1,h2⟩:=pE (show x∈dT l 0 by simpa using hx)
  have:=(List.getElem?_eq_some_iff.1 h2).1
  omega
 rcases run_next_at (P:=P) w ty r m l.length c seen.toArray (dT l 0).toArray l.length hr hm hold hc with⟨h1,h2⟩|⟨e,he,w1,hw1,hrun⟩
 ·refine .inl ⟨fun j hj => ?_, h2⟩
  have hall:=all_seen _ _ h1
  obtain⟨p,hp⟩:∃p,l[j]? =some p:=⟨l[j],List.getElem?_eq_getElem hj⟩
  have hx:(⟨p.1,p.2,0+j⟩:MapEntry)∈(dT l 0).toArray.toList:=by
   simp only[]
   exact List.mem_iff_getElem?.2 ⟨j,by rw[eU,hp];rfl⟩
  have:=hall _ hx
  simpa using this
 ·obtain ⟨h1, h2⟩ := mem_left he
  obtain⟨j,g1,g2⟩:=pE (show e∈dT l 0 by simpa using h1)
  refine .inr ⟨j,e.key,e.val,w1,g2,?_,hw1,?_⟩
  ·rw[g1]at h2;simpa using h2
  ·rw [hrun]
   simp only[ChangeMaps.setBlock,cW,g1,Nat.zero_add]
   congr 5
   apply Array.ext'
   simp
theorem uF:∀(l:List (Value×Value)) (i:Nat),(dT l i).map (·.born)=List.range' i l.length
 |[],_=>rfl
 |(k,v)::r,i=>by simp[dT,uF r,List.range'_succ]
theorem qKg{r m n:Nat}{seen:List Nat}{j:Nat}{l:List (Value×Value)}{k v:Value}(hr:w.heap[r]? =some (cW m n (seen++[j]) l.length))(hm:w.heap[m]? =some (bV l))(hj:l[j]? =some (k,v)):
  (Instr.entry (.pointer (some ⟨r,0,none⟩))).run P w= .ok (.tuple #[k,v]) w:=by
 refine run_entry_at (P:=P) w r m n seen.toArray (dT l 0).toArray l.length ⟨k,v,j⟩ ?_ hm ?_ ?_
 ·rw[hr,cW];simp
 ·rw [List.toList_toArray]
  exact List.mem_iff_getElem?.2 ⟨j,by rw[eU,hj];simp⟩
 ·rw [List.toList_toArray, uF]
  exact List.nodup_range'
end
end Go.Vx
namespace Go.Vx
def aW(s:St):SV→Prop
 | .loc t r _=>t<s.nxt∧∀lb,s.lb t=some lb→∃cs ty,lb= .cells r cs ty
 | .row t base n cap=>t<s.nxt∧∀lb,s.lb t=some lb→∃ty es xs,lb= .row base cap ty es xs∧n=xs.length
 | .elem a cs _=>∀j v,cs[j]? =some v→s.mem.cell (a.add j)=some v
 | .rel t base es i _=>t<s.nxt∧∀lb,s.lb t=some lb→∃cap ty xs,lb= .row base cap ty es xs∧i<xs.length
 |_=>True
def nN(s:St)(a:Act):Prop:=∀i sv,bD s.env i=some sv→a.tmps[i]? =some sv.conc∧aW s sv
def sI(s:St):Prop:=∀t r cs ty,s.lb t=some (.cells r cs ty)→∀sv∈cs,aW s sv
def Sees(s:St)(w:World):Prop:=Holds s.mem w∧∀t lb,s.lb t=some lb→lb.fits (fun b=>w.heap[b]?)
def qEa(s:St)(w:World):Prop:=Sees s w∧Holds s.own w
def pJ(P:Program)(s:St)(x:Sem Value)(sv:SV):Prop:=∀w,qEa s w→x.run P w= .ok sv.conc w
section
variable {C:Cx} {s:St} {a:Act}
theorem getD_of{xs:Array Value}{i:Nat}{v:Value}(h:xs[i]? =some v)(d:Value):xs.getD i d=v:=by
 simp[Array.getD_eq_getD_getElem?,h]
theorem aH(he:nN s a){x:Operand}{sv:SV}(h:ev s x=some sv):a.eval x=sv.conc∧aW s sv:=by
 cases x with
 |tmp t=>obtain⟨h1,h2⟩:=he _ _ h;exact⟨getD_of h1 _,h2⟩
 |const v=>
  simp only[ev]at h
  split at h<;>(cases h;exact⟨rfl,trivial⟩)
 |global g=>cases h;exact⟨rfl,trivial⟩
 |func f=>cases h;exact⟨rfl,trivial⟩
theorem kH(he:nN s a):∀(l:List Operand) (K:List Value→Prop),qDc s l K→K (l.map a.eval)
 |[],_,h=>h
 |x::l,K,h=>by
  obtain⟨sv,h1,h2⟩:=aG h
  rw[cZ]at h2
  have:=kH he l _ h2
  rw[(aH he h1).1.symm]at this
  exact this
theorem qEi(he:nN s a){c x y:Operand}{K:SV→Prop}(h:qDh s c x y K):
  ∃sv,K sv∧aW s sv∧∃b,a.eval c= .bool b∧(if b then a.eval x else a.eval y)=sv.conc:=by
 obtain⟨svc,h1,h2⟩:=aG h
 obtain⟨e1,-⟩:=aH he h1
 split at h2
 ·obtain ⟨sx, h3, h4⟩ := aG h2
  obtain⟨e2,o2⟩:=aH he h3
  exact⟨sx,h4,o2,true,e1,by simpa using e2⟩
 ·obtain ⟨sx, h3, h4⟩ := aG h2
  obtain⟨e2,o2⟩:=aH he h3
  exact⟨sx,h4,o2,false,e1,by simpa using e2⟩
 ·rename_i c
  obtain⟨sx,h3,h4⟩:=aG h2
  obtain⟨e2,-⟩:=aH he h3
  obtain⟨sy,h5,h6⟩:=aG h4
  obtain⟨e3,-⟩:=aH he h5
  split at h6<;>first
   |exact h6.elim
   |(refine⟨_,h6,trivial,c,e1,?_⟩;rw[e2,e3];cases c<;>rfl)
 ·exact h2.elim
theorem qKs{op:UnOp}{x:SV}{K:SV→Prop}(h:unK op x K):∃sv,K sv∧aW s sv∧pJ C.P s (Op.unary op x.conc) sv:=by
 unfold unK at h
 split at h
 ·exact⟨_,h,trivial,fun w _=>rfl⟩
 ·exact⟨_,h,trivial,fun w _=>rfl⟩
 ·exact⟨_,cJ h,trivial,fun w _=>rfl⟩
 ·exact h.elim
theorem qGt{op:BinOp}{t:TypeId}{k:IntKind}{x y:Int}{K:SV→Prop}(h:qJg op k x y K):∃sv,K sv∧aW s sv∧pJ C.P s (binOp op t (.int k x) (.int k y)) sv:=by
 unfold qJg at h
 split at h
 ·exact⟨_,cJ h,trivial,fun w _=>by simp[binOp,Op.intArith,SV.conc]⟩
 ·exact⟨_,cJ h,trivial,fun w _=>by simp[binOp,Op.intArith,SV.conc]⟩
 ·exact⟨_,cJ h,trivial,fun w _=>by simp[binOp,Op.intArith,SV.conc]⟩
 ·obtain ⟨h1, h2⟩ := eQ h
  exact⟨_,cJ h2,trivial,fun w _=>by simp[binOp,Op.intDiv,SV.conc,h1]⟩
 ·obtain ⟨h1, h2⟩ := eQ h
  exact⟨_,cJ h2,trivial,fun w _=>by simp[binOp,Op.intDiv,SV.conc,h1]⟩
 ·exact⟨_,h,trivial,fun w _=>by simp[binOp,Op.intCmp,SV.conc];rfl⟩
 ·exact⟨_,h,trivial,fun w _=>by simp[binOp,Op.intCmp,SV.conc];rfl⟩
 ·exact⟨_,h,trivial,fun w _=>by simp[binOp,Op.intCmp,SV.conc]⟩
 ·exact⟨_,h,trivial,fun w _=>by simp[binOp,Op.intCmp,SV.conc]⟩
 ·exact⟨_,h,trivial,fun w _=>by simp[binOp,Op.intCmp,SV.conc]⟩
 ·exact⟨_,h,trivial,fun w _=>by simp[binOp,Op.intCmp,SV.conc]⟩
 ·exact⟨_,cJ h,trivial,fun w _=>by simp[binOp,intBits_and,SV.conc]⟩
 ·exact⟨_,cJ h,trivial,fun w _=>by simp[binOp,intBits_or,SV.conc]⟩
 ·exact⟨_,cJ h,trivial,fun w _=>by simp[binOp,intBits_xor,SV.conc]⟩
 ·exact h.elim
theorem qBb{op:BinOp}{t:TypeId}{k k':IntKind}{x y:Int}{K:SV→Prop}(h:qZ op k x y K):∃sv,K sv∧aW s sv∧pJ C.P s (binOp op t (.int k x) (.int k' y)) sv:=by
 unfold qZ at h
 split at h
 ·obtain ⟨h1, h2⟩ := eQ h
  exact⟨_,cJ h2,trivial,fun w _=>by simp[binOp,Op.shift,SV.conc,Int.not_lt.2 h1]⟩
 ·obtain ⟨h1, h2⟩ := eQ h
  exact⟨_,cJ h2,trivial,fun w _=>by simp[binOp,Op.shift,SV.conc,Int.not_lt.2 h1]⟩
 ·exact h.elim
theorem zZ(x y:ByteArray):(x.toList==y.toList)=decide (x=y):=by
 rw[Bool.eq_iff_iff]
 simp only[beq_iff_eq,decide_eq_true_eq,ByteArray.toList_eq]
 constructor
 ·intro h
  cases x;cases y
  simp only[ByteArray.mk.injEq]
  exact Array.ext' h
 ·rintro rfl;rfl
theorem gJ:∀x y:List UInt8,(!(Op.bytesLess x y||x==y))=Op.bytesLess y x
 |[],[]=>rfl
 |[],_::_=>rfl
 |_::_,[]=>rfl
 |a::x,b::y=>by
  have ih:=gJ x y
  simp only[Op.bytesLess]
  by_cases h1:a<b
  ·have h2 : ¬ b < a := fun h => absurd (UInt8.lt_trans h1 h) (UInt8.lt_irrefl a)
   have h3:¬b=a:=fun h=>by subst h;exact absurd h1 (UInt8.lt_irrefl _)
   simp[h1,h2,h3]
  ·by_cases h2 : b < a
   ·have h3 : ¬ a = b := fun h => by subst h; exact h1 h2
    simp[h1,h2,h3]
   ·have h3:a=b:=by
     have e1:=UInt8.not_lt.1 h1
     have e2:=UInt8.not_lt.1 h2
     exact UInt8.le_antisymm e2 e1
    subst h3
    simp[h1]at ih ⊢
    exact ih
theorem qGp{op:BinOp}{t:TypeId}{x y:ByteArray}{K:SV→Prop}(h:qJa op x y K):∃sv,K sv∧aW s sv∧pJ C.P s (binOp op t (.string x) (.string y)) sv:=by
 unfold qJa at h
 split at h
 ·exact⟨_,h,trivial,fun w _=>by simp[binOp,Op.stringOp,SV.conc,zZ]⟩
 ·exact⟨_,h,trivial,fun w _=>by simp[binOp,Op.stringOp,SV.conc,zZ]⟩
 ·exact⟨_,h,trivial,fun w _=>by simp[binOp,Op.stringOp,SV.conc,ByteArray.toList_eq]⟩
 ·exact⟨_,h,trivial,fun w _=>by
   have:=gJ x.data.toList y.data.toList
   simp only[binOp,Op.stringOp,SV.conc,ByteArray.toList_eq,Sem.run_pure,this]⟩
 ·obtain ⟨h1, h2⟩ := eQ h
  exact⟨_,h2,trivial,fun w _=>by simp only[binOp];exact run_string_add_sum _ _ _ h1⟩
 ·exact h.elim
theorem wG{op:BinOp}{t:TypeId}{x y:Bool}{K:SV→Prop}(ht:C.P.underlying t=some .bool)(h:qAg op x y K):∃sv,K sv∧aW s sv∧pJ C.P s (binOp op t (.bool x) (.bool y)) sv:=by
 unfold qAg at h
 split at h
 ·exact⟨_,h,trivial,fun w _=>run_eql_bool w t x y ht⟩
 ·exact⟨_,h,trivial,fun w _=>run_neq_bool w t x y ht⟩
 ·exact h.elim
theorem qHj{op:BinOp}{t e:TypeId}{b:Option Addr}{n c:Nat}{K:SV→Prop}(ht:C.P.underlying t=some (.slice e))(h:qDn op b.isNone K):∃sv,K sv∧aW s sv∧pJ C.P s (binOp op t (.slice b n c) (.slice none 0 0)) sv:=by
 unfold qDn at h
 split at h
 ·exact⟨_,h,trivial,fun w _=>by simp[binOp,run_equal_slice_nil w t e b n c ht,SV.conc]⟩
 ·exact⟨_,h,trivial,fun w _=>run_neq_slice_nil w t e b n c ht⟩
 ·exact h.elim
theorem qHc(htt:TTok C.P C.tt){op:BinOp}{t:TypeId}{x y:SV}{K:SV→Prop}(h:qDq C op t x y K):∃sv,K sv∧aW s sv∧pJ C.P s (binOp op t x.conc y.conc) sv:=by
 unfold qDq at h
 split at h
 ·split at h
  ·split at h
   ·exact qBb h
   ·split at h
    ·rename_i k k' b _ _ e _;subst e;exact qGt h
    ·exact h.elim
  ·exact h.elim
 ·split at h
  ·exact qGp h
  ·exact h.elim
 ·obtain ⟨i, h1, h2⟩ := aO h
  have hk:=(htt.get h1).kind
  split at h2<;>first
   |exact h2.elim
   |(rename_i hkk;rw[hkk]at hk;exact wG hk h2)
 ·obtain ⟨i, h1, h2⟩ := aO h
  have hk:=(htt.get h1).kind
  split at h2<;>first
   |exact h2.elim
   |(rename_i hkk;rw[hkk]at hk;exact wG hk h2)
 ·obtain ⟨i, h1, h2⟩ := aO h
  have hk:=(htt.get h1).kind
  split at h2
  ·rename_i hkk;rw[hkk]at hk;exact qHj hk h2
  ·exact h2.elim
 ·exact h.elim
theorem xF{C:Cx}{op:BinOp}{t:TypeId}{x y:SV}{K:SV→Prop}(h:qDq C op t x y K)(ox oy:Operand)(w:World):
  (eqGuard op t ox oy x.conc y.conc).run C.P w= .ok () w:=by
 have key:(∃v,x= .val v∧v≠.nilIface∧∀c,v≠.agg c)∨(∃b,x= .kn b):=by
  unfold qDq at h
  split at h<;>first
   |exact .inl ⟨_,rfl,by simp,by simp⟩
   |exact .inr ⟨_,rfl⟩
   |exact h.elim
 unfold eqGuard
 rcases key with⟨v,rfl,h1,h2⟩|⟨b,rfl⟩
 ·simp only [SV.conc]
  cases v<;>first
   |exact absurd rfl h1
   |exact absurd rfl (h2 _)
   |(cases op<;>rfl)
 ·cases op<;>rfl
end
end Go.Vx
namespace Go.Vx
section
variable {C:Cx} {s:St} {a:Act}
theorem qHh{i:TI}{cs:List SV}{off:Nat}{K:SV→Prop}(h:uW i cs off K):
  ∃l:List SV,l=(cs.drop off).take i.size∧l.length=i.size∧((i.agg=true∧K (.val (.agg (l.map SV.conc).toArray)))∨(i.agg=false∧∃x,l=[x]∧K x)):=by
 unfold uW at h
 split at h
 ·rename_i hg
  rcases hY _ _ _ _ h with⟨h1,h2⟩|⟨h1,h2⟩
  ·rw [dB] at h2
   exact⟨_,rfl,by simp;omega,.inl ⟨hg,h2⟩⟩
  ·rw [dB] at h2
   exact⟨[],by simp[h1],by simp[h1],.inl ⟨hg,h2⟩⟩
 ·rename_i hg
  rcases hY _ _ _ _ h with⟨h1,h2⟩|⟨h1,h2⟩
  ·refine ⟨_, rfl, by simp; omega, .inr ⟨hg, ?_⟩⟩
   generalize (cs.drop off).take i.size=l at h2
   unfold xM at h2
   split at h2
   ·exact⟨_,rfl,h2⟩
   ·exact h2.elim
  ·exact h2.elim
theorem uY{i:TI}{cs:List Value}{off:Nat}{K:SV→Prop}(h:lI i cs off K):
  ∃l:List Value,l=(cs.drop off).take i.size∧l.length=i.size∧((i.agg=true∧K (.val (.agg l.toArray)))∨(i.agg=false∧∃x,l=[x]∧K (.val x))):=by
 unfold lI at h
 split at h
 ·rename_i hg
  rcases hY _ _ _ _ h with⟨h1,h2⟩|⟨h1,h2⟩
  ·exact⟨_,rfl,by simp;omega,.inl ⟨hg,h2⟩⟩
  ·exact⟨[],by simp[h1],by simp[h1],.inl ⟨hg,h2⟩⟩
 ·rename_i hg
  rcases hY _ _ _ _ h with⟨h1,h2⟩|⟨h1,h2⟩
  ·refine ⟨_, rfl, by simp; omega, .inr ⟨hg, ?_⟩⟩
   generalize (cs.drop off).take i.size=l at h2
   unfold xM at h2
   split at h2
   ·exact⟨_,rfl,h2⟩
   ·exact h2.elim
  ·exact h2.elim
theorem jH{α:Type}{cs:List α}{off n j:Nat}{v:α}(h:((cs.drop off).take n)[j]? =some v):cs[off+j]? =some v:=by
 rw[List.getElem?_take]at h
 split at h
 ·simpa[List.getElem?_drop]using h
 ·cases h
theorem qKu{r:Nat}{cs:List SV}{ty:TypeId}{w:World}(h:(LB.cells r cs ty).fits (fun b=>w.heap[b]?))(j:Nat):w.cell? ⟨r,j,none⟩=(cs.map SV.conc)[j]?:=by
 simp only[LB.fits]at h
 simp[World.cell?,h]
theorem qJr{t:TypeId}{i:TI}(hi:TIok C.P t i){cs:List SV}{off:Nat}{K:SV→Prop}(h:uW i cs off K)(hok:∀sv∈cs,aW s sv):
  ∃sv,K sv∧aW s sv∧∀w ad,(∀j v,(cs.map SV.conc)[off+j]? =some v→w.cell? (ad.add j)=some v)→(loadVar t ad).run C.P w= .ok sv.conc w:=by
 obtain⟨l,hl,hn,h⟩:=qHh h
 have hc:∀(w:World) (ad:Addr),(∀j v,(cs.map SV.conc)[off+j]? =some v→w.cell? (ad.add j)=some v)→∀j v,(l.map SV.conc)[j]? =some v→w.cell? (ad.add j)=some v:=fun w ad hw j v hj=>by
  rw[hl,List.map_take,List.map_drop]at hj
  exact hw j v (jH hj)
 rcases h with⟨hg,h⟩|⟨hg,x,rfl,h⟩
 ·refine ⟨_, h, trivial, fun w ad hw => ?_⟩
  rw[dE hi w ad (l.map SV.conc) (by simpa using hn) (hc w ad hw) (by simp[hg])]
  simp[hg,SV.conc]
 ·refine ⟨_, h, hok x (List.mem_of_mem_drop (List.mem_of_mem_take (hl ▸ List.mem_singleton.2 rfl))), fun w ad hw => ?_⟩
  rw[dE hi w ad [x.conc] (by simpa using hn) (hc w ad hw) (by simp at hn;omega)]
  simp[hg]
theorem kX{t:TypeId}{i:TI}(hi:TIok C.P t i){cs:List Value}{off:Nat}{K:SV→Prop}(h:lI i cs off K):
  ∃sv,K sv∧aW s sv∧∀w ad,(∀j v,cs[off+j]? =some v→w.cell? (ad.add j)=some v)→(loadVar t ad).run C.P w= .ok sv.conc w:=by
 obtain⟨l,hl,hn,h⟩:=uY h
 have hc:∀(w:World) (ad:Addr),(∀j v,cs[off+j]? =some v→w.cell? (ad.add j)=some v)→∀j v,l[j]? =some v→w.cell? (ad.add j)=some v:=fun w ad hw j v hj=>by
  rw[hl]at hj
  exact hw j v (jH hj)
 rcases h with⟨hg,h⟩|⟨hg,x,rfl,h⟩
 ·refine ⟨_, h, trivial, fun w ad hw => ?_⟩
  rw[dE hi w ad l (by simpa using hn) (hc w ad hw) (by simp[hg])]
  simp[hg,SV.conc]
 ·refine ⟨_, h, trivial, fun w ad hw => ?_⟩
  rw[dE hi w ad [x] (by simpa using hn) (hc w ad hw) (by simp at hn;omega)]
  simp[hg,SV.conc]
theorem sE{es:Nat}:∀(xs:List Value) (i:Nat) (x:Value) (j:Nat) (v:Value),(∀x∈xs,(aB x).length=es)→xs[i]? =some x→(aB x)[j]? =some v→(xs.flatMap aB)[i*es+j]? =some v
 |[],i,x,j,v,_,h,_=>by simp at h
 |y::xs,0,x,j,v,hl,h,hv=>by
  simp only[List.getElem?_cons_zero,Option.some.injEq]at h
  subst h
  have:j<(aB y).length:=by
   rcases Nat.lt_or_ge j (aB y).length with h|h
   ·exact h
   ·rw[List.getElem?_eq_none h]at hv;cases hv
  simp only[List.flatMap_cons,Nat.zero_mul,Nat.zero_add]
  rw[List.getElem?_append_left this]
  exact hv
 |y::xs,i+1,x,j,v,hl,h,hv=>by
  have hy:=hl y (by simp)
  have ih:=sE xs i x j v (fun x hx=>hl x (by simp[hx])) (by simpa using h) hv
  simp only[List.flatMap_cons]
  rw[List.getElem?_append_right (by rw[hy,Nat.add_mul,Nat.one_mul];omega),hy,show(i+1)*es+j-es=i*es+j from by rw[Nat.add_mul,Nat.one_mul];omega]
  exact ih
theorem nZ{base:Option Nat}{cap:Nat}{ty:TypeId}{es:Nat}{xs:List Value}{w:World}(h:(LB.row base cap ty es xs).fits (fun b=>w.heap[b]?)){i:Nat}{x:Value}(hx:xs[i]? =some x):
  ∃r,base=some r∧∀j v,(aB x)[j]? =some v→w.cell? ⟨r,i*es+j,none⟩=some v:=by
 cases base with
 |none=>obtain⟨rfl,_⟩:=h;simp at hx
 |some r=>
  obtain⟨_,_,h2,arr,h3,h4,h5⟩:=h
  refine⟨r,rfl,fun j v hj=>?_⟩
  have hf:=sE xs i x j v (fun x hx=>(h2 x hx).1) hx hj
  rw[←h5,List.getElem?_take]at hf
  split at hf
  ·simp only [World.cell?, h3]
   simpa using hf
  ·cases hf
theorem sJ(htt:TTok C.P C.tt)(hb:sI s){t:TypeId}{x:SV}(hx:aW s x){K:SV→Prop}(h:sD C s t x K):
  ∃sv,K sv∧aW s sv∧pJ C.P s (Instr.loadAt t x.conc) sv:=by
 obtain⟨i,h1,h2⟩:=aO h
 have hi:=htt.get h1
 split at h2
 ·split at h2
  ·rename_i tag r off _ r' cs ty hlb
   obtain⟨_,hx2⟩:=hx
   obtain⟨cs',ty',e⟩:=hx2 _ hlb
   cases e
   obtain⟨sv,hk,ho,hr⟩:=qJr hi h2 (hb _ _ _ _ hlb)
   refine⟨sv,hk,ho,fun w hw=>?_⟩
   have hf:=hw.1.2 _ _ hlb
   simp only[SV.conc,Instr.loadAt,Instr.sureAddr,Sem.run_bind,Sem.run_pure,Result.andThen_ok]
   exact hr w _ fun j v hj=>by rw[Addr.add_lit',qKu hf];exact hj
  ·exact h2.elim
  ·obtain ⟨cs, hl, hc, h3⟩ := wN h2
   obtain⟨sv,hk,ho,hr⟩:=kX (s:=s) hi h3
   refine⟨sv,hk,ho,fun w hw=>?_⟩
   simp only[SV.conc,Instr.loadAt,Instr.sureAddr,Sem.run_bind,Sem.run_pure,Result.andThen_ok]
   rcases hc with hc|hc
   ·exact hr w _ fun j v hj=>hw.1.1.cell (hc _ _ (by simpa using hj))
   ·exact hr w _ fun j v hj=>hw.2.cell (hc _ _ (by simpa using hj))
 ·rename_i ad cs off
  obtain⟨sv,hk,ho,hr⟩:=kX (s:=s) hi h2
  refine⟨sv,hk,ho,fun w hw=>?_⟩
  simp only[SV.conc,Instr.loadAt,Instr.sureAddr,Sem.run_bind,Sem.run_pure,Result.andThen_ok]
  exact hr w _ fun j v hj=>by rw[Addr.add_add'];exact hw.1.1.cell (hx _ _ hj)
 ·split at h2
  ·rename_i tag base es j off _ base' cap ty es' xs hlb
   obtain⟨_,hx2⟩:=hx
   obtain⟨_,_,_,e,_⟩:=hx2 _ hlb
   cases e
   obtain⟨v,hv,h3⟩:=uB h2
   obtain⟨sv,hk,ho,hr⟩:=kX (s:=s) hi h3
   refine⟨sv,hk,ho,fun w hw=>?_⟩
   obtain⟨r,rfl,hc⟩:=nZ (hw.1.2 _ _ hlb) hv
   simp only[SV.conc,Option.map_some,Instr.loadAt,Instr.sureAddr,Sem.run_bind,Sem.run_pure,Result.andThen_ok]
   exact hr w _ fun j v hj=>by rw[Addr.add_lit',Nat.add_assoc];exact hc _ _ hj
  ·exact h2.elim
 ·obtain ⟨cs, hl, hc, h3⟩ := wN h2
  obtain⟨sv,hk,ho,hr⟩:=kX (s:=s) hi h3
  refine⟨sv,hk,ho,fun w hw=>?_⟩
  simp only[SV.conc,Instr.loadAt,Instr.sureAddr,Sem.run_bind,Sem.run_pure,Result.andThen_ok]
  rcases hc with hc|hc
  ·exact hr w _ fun j v hj=>hw.1.1.cell (hc _ _ (by simpa using hj))
  ·exact hr w _ fun j v hj=>hw.2.cell (hc _ _ (by simpa using hj))
 ·exact h2.elim
theorem gB{P:Program}{t e:TypeId}{te:TI}(ht:P.underlying t=some (.slice e))(he:TIok P e te)(w:World)(a0:Addr)(n c:Nat)(k:IntKind)(i:Int)(h0:0≤i)(h1:i<n):
  (Instr.indexAt t (.slice (some a0) n c) (.int k i)).run P w= .ok (.pointer (some (a0.add (i.toNat*te.size)))) w:=by
 simp[Instr.indexAt,asIntOf,run_underlying ht,h0,h1,he.run_sizeOf]
theorem qHb(htt:TTok C.P C.tt){t:TypeId}{x i:SV}(hx:aW s x){K:SV→Prop}(h:qJo C s t x i K):
  ∃sv,K sv∧aW s sv∧pJ C.P s (Instr.indexAt t x.conc i.conc) sv:=by
 unfold qJo at h
 split at h
 ·rename_i k i
  obtain⟨ti,h1,h2⟩:=aO h
  have ht:=(htt.get h1).kind
  split at h2
  ·rename_i e hke
   rw[hke]at ht
   obtain⟨te,h3,h4⟩:=aO h2
   have he:=htt.get h3
   split at h4
   ·rcases qT h4 with ⟨ad, cs, hel, h5⟩ | ⟨a0, rfl, hlo, hhi, h5⟩
    ·obtain ⟨a0, rfl, rfl⟩ := hel.addr
     refine⟨_,h5,fun j v hj=>hel.cell j v hj,fun w _=>?_⟩
     simp only[SV.conc]
     rw[gB ht he w _ _ _ _ _ hel.lo hel.hi]
     simp[Addr.add_add']
    ·refine ⟨_, h5, trivial, fun w _ => ?_⟩
     simp only[SV.conc]
     rw[gB ht he w _ _ _ _ _ hlo hhi]
   ·rename_i tag base n cap
    split at h4
    ·rename_i b' c' ty es xs hlb
     split at h4
     ·rename_i hes
      have hes:=Nat.eq_of_beq_eq_true hes
      obtain⟨j,rfl,hj,h5⟩:=qEs h4
      obtain⟨hx1,hx2⟩:=hx
      obtain⟨_,_,_,e,en⟩:=hx2 _ hlb
      cases e
      have hsv:aW s (.rel tag base te.size j 0):=by
       refine⟨hx1,fun lb hlb'=>?_⟩
       rw[hlb]at hlb'
       cases hlb'
       exact⟨_,_,_,by rw[hes],by omega⟩
      refine⟨_,h5,hsv,fun w hw=>?_⟩
      have hf:=hw.1.2 _ _ hlb
      cases base with
      |none=>obtain⟨rfl,_⟩:=hf;simp at en;omega
      |some r=>
       simp only[SV.conc,Option.map_some]
       rw[gB ht he w _ _ _ _ _ (by omega) (by omega)]
       simp[Addr.add_lit']
     ·exact h4.elim
    ·exact h4.elim
    ·rcases qT h4 with ⟨ad, cs, hel, h5⟩ | ⟨a0, e0, hlo, hhi, h5⟩
     ·obtain ⟨a0, e0, rfl⟩ := hel.addr
      refine⟨_,h5,fun j v hj=>hel.cell j v hj,fun w _=>?_⟩
      simp only[SV.conc,e0]
      rw[gB ht he w _ _ _ _ _ hel.lo hel.hi]
      simp[Addr.add_add']
     ·refine ⟨_, h5, trivial, fun w _ => ?_⟩
      simp only[SV.conc,e0]
      rw[gB ht he w _ _ _ _ _ hlo hhi]
   ·exact h4.elim
  ·exact h2.elim
 ·exact h.elim
theorem mY{o:Option SV}{d:Int}{K:Int→Prop}(h:sliceK.boundK o d K):∃i:Int,K i∧((o=none∧i=d)∨∃k,o=some (.val (.int k i))):=by
 unfold sliceK.boundK at h
 split at h
 ·exact⟨_,h,.inl ⟨rfl,rfl⟩⟩
 ·exact⟨_,h,.inr ⟨_,rfl⟩⟩
 ·exact h.elim
theorem lH{P:Program}(w:World)(isS:Bool)(n c:Nat){lo hi:Option SV}{l h:Nat}
  (h1:(lo=none∧(l:Int)=0)∨∃k,lo=some (.val (.int k l))) (h2:(hi=none∧(h:Int)=n)∨∃k,hi=some (.val (.int k h))) (e1:l≤h) (e2:h≤c):
  (Instr.sliceBounds isS n c (lo.map SV.conc) (hi.map SV.conc) none).run P w= .ok (l,h,c) w:=by
 have b:∀(k:IntKind) (x y:Nat) code,x≤y→(Instr.sliceBound (.int k x) y code).run P w= .ok x w:=fun k x y code hxy=>by
  simp[Instr.sliceBound,asIntOf,hxy]
 rcases h1 with⟨rfl,e⟩|⟨k,rfl⟩<;>rcases h2 with⟨rfl,e'⟩|⟨k',rfl⟩
 ·have : l = 0 := by omega
  have:h=n:=by omega
  subst_vars
  simp[Instr.sliceBounds]
 ·have : l = 0 := by omega
  subst this
  simp[Instr.sliceBounds,SV.conc,b _ _ _ _ e2]
 ·have : h = n := by omega
  subst this
  simp[Instr.sliceBounds,SV.conc,b _ _ _ _ e1]
 ·simp[Instr.sliceBounds,SV.conc,b _ _ _ _ e1,b _ _ _ _ e2]
theorem zA{a:Act}(he:nN s a){x:Option Operand}{K:Option SV→Prop}(h:qHd s x K):∃o,K o∧x.map a.eval=o.map SV.conc:=by
 unfold qHd at h
 split at h
 ·exact⟨none,h,rfl⟩
 ·obtain ⟨sv, h1, h2⟩ := aG h
  exact⟨some sv,h2,by simp[(aH he h1).1]⟩
theorem qF{t e:TypeId}{te:TI}(ht:C.P.underlying t=some (.slice e))(he:TIok C.P e te){base:Option Addr}{n c:Nat}{lo hi:Option SV}{K:SV→Prop}(h:sliceK te.size base n c lo hi K):
  ∃sv,K sv∧aW s sv∧pJ C.P s (Instr.slice t (.slice base n c) (lo.map SV.conc) (hi.map SV.conc) none) sv:=by
 unfold sliceK at h
 obtain⟨i,h,h1⟩:=mY h
 obtain⟨j,h,h2⟩:=mY h
 obtain⟨l,k,rfl,rfl,e1,e2,h⟩:=vT h
 refine⟨_,h,trivial,fun w _=>?_⟩
 simp only[Instr.slice,Sem.run_bind,run_underlying ht,Result.andThen_ok,lH w true n c h1 h2 e1 (by omega),he.run_sizeOf,Sem.run_pure,SV.conc]
theorem qAe{t:TypeId}(ht:C.P.underlying t=some .string){b:ByteArray}{lo hi:Option SV}{K:SV→Prop}
  (h:sliceK.boundK lo 0 fun l=>sliceK.boundK hi b.size fun h=>cutVC l h b.size fun l h=>K (.val (.string (b.extract l h)))):
  ∃sv,K sv∧aW s sv∧pJ C.P s (Instr.slice t (.string b) (lo.map SV.conc) (hi.map SV.conc) none) sv:=by
 obtain⟨i,h,h1⟩:=mY h
 obtain⟨j,h,h2⟩:=mY h
 obtain⟨l,k,rfl,rfl,e1,e2,h⟩:=vT h
 refine⟨_,h,trivial,fun w _=>?_⟩
 simp[Instr.slice,run_underlying ht,lH w false b.size b.size h1 h2 e1 (by omega),SV.conc]
theorem uK{big:Bool}{ts:Array TypeId}{t:TypeId}{x y:SV}{K:SV→Prop}(h:qHe big x y K):
  ∃sv,K sv∧aW s sv∧pJ C.P s (cond big (Builtin.max_ ts t #[x.conc,y.conc]) (Builtin.min_ ts t #[x.conc,y.conc])) sv:=by
 unfold qHe at h
 split at h
 ·cases big
  ·exact⟨_,h,trivial,fun w _=>by simp[Builtin.min_,Builtin.min2,SV.conc]⟩
  ·exact⟨_,h,trivial,fun w _=>by simp[Builtin.max_,Builtin.max2,SV.conc]⟩
 ·exact h.elim
theorem qHf(htt:TTok C.P C.tt){t ty:TypeId}{x:SV}{K:SV→Prop}(h:qLz C s t x K):
  ∃sv,K sv∧aW s sv∧pJ C.P s (Builtin.len_ #[t] ty #[x.conc]) sv:=by
 obtain⟨i,h1,h2⟩:=aO h
 have hk:=(htt.get h1).kind
 split at h2
 ·rename_i hkk; rw [hkk] at hk
  obtain⟨l,hm,h3⟩:=rE h2
  refine⟨_,h3,trivial,fun w hw=>?_⟩
  exact qCk ty hk (hm.elim (fun h=>hw.1.1 _ _ h) (fun h=>hw.2 _ _ h))
 ·rename_i hkk; rw [hkk] at hk
  exact⟨_,h2,trivial,fun w _=>by simp[Builtin.len_,run_underlying hk,SV.conc,goInt]⟩
 ·rename_i hkk; rw [hkk] at hk
  exact⟨_,h2,trivial,fun w _=>by simp[Builtin.len_,run_underlying hk,SV.conc,goInt]⟩
 ·rename_i hkk; rw [hkk] at hk
  exact⟨_,h2,trivial,fun w _=>by simp[Builtin.len_,run_underlying hk,SV.conc,goInt]⟩
 ·exact h2.elim
end
end Go.Vx
namespace Go.Vx
section
variable {C:Cx} {s:St} {a:Act}
theorem qEd(off:Nat):∀(vs:List Value) (k:Nat) (cells:Array Value),off+k+vs.length≤cells.size→
  (vs.zipIdx k).foldl (fun cs (p:Value×Nat)=>cs.setIfInBounds (off+p.2) p.1) cells=(cells.toList.take (off+k)++vs++cells.toList.drop (off+k+vs.length)).toArray
 |[],k,cells,h=>by simp
 |v::vs,k,cells,h=>by
  simp only[List.length_cons]at h
  simp only[List.zipIdx_cons,List.foldl_cons]
  rw[show k+1=k+1 from rfl,qEd off vs (k+1) _ (by simp;omega)]
  congr 1
  have hlt:off+k<cells.toList.length:=by simp;omega
  simp only[Array.toList_setIfInBounds,List.length_cons]
  rw[show off+(k+1)=off+k+1 from by omega,List.take_succ_eq_append_getElem (by simp;omega),List.drop_set_of_lt (by omega)]
  simp only[List.getElem_set_self]
  rw[List.take_set_of_le (by omega),show off+k+1+vs.length=off+k+(vs.length+1)from by omega]
  simp
theorem qFf{place:Nat→Option (Nat×Nat)}{cells:Array Value}{f off size:Nat}{v:Value}{rest:List (Nat×Value)}(hp:place f=some (off,size))(hs:(aB v).length=size)(hb:off+(aB v).length≤cells.size):
  Instr.fill place cells ((f,v)::rest)=Instr.fill place ((cells.toList.take off++aB v++cells.toList.drop (off+(aB v).length)).toArray) rest:=by
 have hsz:v.cells.size=(aB v).length:=by rw[←aR];simp
 simp only[Instr.fill,hp]
 rw[if_neg (by simp[hsz,hs];omega)]
 congr 1
 have:=qEd off (aB v) 0 cells (by simpa using hb)
 rw[←Array.foldl_toList,Array.toList_zipIdx,aR]
 simpa using this
theorem qJ:∀(n:Nat) (l:List Value) (A:Prop),fillK.needLen n l A→l.length=n∧A
 |0,[],_,h=>⟨rfl,h⟩
 |n+1,_::l,A,h=>by obtain⟨a,b⟩:=qJ n l A h;exact⟨by simp[a],b⟩
 |0,_::_,_,h=>h.elim
 |_+1,[],_,h=>h.elim
theorem qBs(sv:SV)(n:Nat)(A:Prop)(h:fillK.needOne sv n A):n=1∧[sv].map SV.conc=aB sv.conc∧A:=by
 unfold fillK.needOne at h
 split at h
 ·exact h.elim
 ·rename_i hne
  refine⟨rfl,?_,h⟩
  cases sv with
  |val v=>cases v<;>first|rfl|exact absurd rfl (hne _)
  |_=>rfl
 ·exact h.elim
theorem fillK_sound(htt:TTok C.P C.tt)(he:nN s a){fs:List (Nat×TypeId)}{places:List (Nat×Nat)}(hpl:(fs.mapM fun f=>(C.P.info? f.2).map fun i=>(f.1,i.size))=some places):
  ∀(ps:List (Nat×Operand)) (cs:List SV) (K:List SV→Prop),(∀sv∈cs,aW s sv)→fillK C s fs ps cs K→
   ∃cs',K cs'∧(∀sv∈cs',aW s sv)∧Instr.fill (places.toArray[·]?) (cs.map SV.conc).toArray (ps.map fun p=>(p.1,a.eval p.2))=some (cs'.map SV.conc).toArray
 |[],cs,K,ho,h=>⟨cs,h,ho,rfl⟩
 |(f,x)::r,cs,K,ho,h=>by
  simp only[fillK]at h
  split at h
  ·rename_i off ft hf
   obtain⟨ti,h1,h2⟩:=aO h
   obtain⟨sv,h3,h4⟩:=aG h2
   obtain⟨e1,o1⟩:=aH he h3
   have hti:=htt.get h1
   obtain⟨inf,hin,hsz,_⟩:=hti.info'
   have hp:places.toArray[f]? =some (off,ti.size):=by
    have hl:=mapM_get fs places hpl f (off,ft) hf
    simpa[hin,hsz]using hl
   have step:∀(l:List SV) (K':List SV→Prop),(∀sv∈l,aW s sv)→l.map SV.conc=aB sv.conc→l.length=ti.size→lL cs off l K'→(∀cs',K' cs'→fillK C s fs r cs' K)→
     ∃cs',K cs'∧(∀sv∈cs',aW s sv)∧Instr.fill (places.toArray[·]?) (cs.map SV.conc).toArray (((f,x)::r).map fun p=>(p.1,a.eval p.2))=some (cs'.map SV.conc).toArray:=by
    intro l K' hol hlc hln hset hK
    obtain⟨hlen,hk⟩:=kF _ _ _ _ hset
    obtain⟨cs',hk',ho',hfill⟩:=fillK_sound htt he hpl r _ K (fun sv hsv=>by
     simp only[List.mem_append]at hsv
     rcases hsv with(hsv|hsv)|hsv
     ·exact ho _ (List.mem_of_mem_take hsv)
     ·exact hol _ hsv
     ·exact ho _ (List.mem_of_mem_drop hsv)) (hK _ hk)
    refine⟨cs',hk',ho',?_⟩
    simp only[List.map_cons]
    have hll:(aB (a.eval x)).length=l.length:=by rw[e1,←hlc];simp
    rw[qFf hp (by omega) (by simp;omega),←hfill]
    congr 2
    simp only[List.map_append,List.map_take,List.map_drop,hlc,e1]
    rw[show(aB sv.conc).length=l.length from by rw[←hlc];simp]
   split at h4
   ·split at h4
    ·rename_i vs
     obtain⟨hn,h5⟩:=qJ _ _ _ h4
     exact step (vals vs.toList) _ (fun sv hsv=>vals_ok vs.toList sv hsv) (by rw[gY];rfl) (by rw[←hn,←vals_length]) h5 (fun _ h=>h)
    ·exact h4.elim
   ·obtain ⟨hs1, hc1, h5⟩ := qBs _ _ _ h4
    exact step [sv] _ (by simpa using o1) hc1 (by simp[hs1]) h5 (fun _ h=>h)
  ·exact h.elim
where
 mapM_get:∀(fs:List (Nat×TypeId)) (places:List (Nat×Nat)),(fs.mapM fun f=>(C.P.info? f.2).map fun i=>(f.1,i.size))=some places→∀(i:Nat) (p:Nat×TypeId),fs[i]? =some p→places[i]? =(C.P.info? p.2).map (fun(i:TypeInfo)=>(p.1,i.size))
  |[],places,h,i,p,hp=>by simp at hp
  |q::fs,places,h,i,p,hp=>by
   simp only[List.mapM_cons,Option.bind_eq_bind,Option.pure_def]at h
   cases hq:(C.P.info? q.2).map fun i=>(q.1,i.size)with
   |none=>simp[hq]at h
   |some y=>
    cases hr:fs.mapM fun f=>(C.P.info? f.2).map fun i=>(f.1,i.size)with
    |none=>simp[hr]at h
    |some rest=>
     simp[hq,hr]at h
     subst h
     cases i with
     |zero=>simp at hp;subst hp;simpa using hq.symm
     |succ i=>simpa using mapM_get fs rest hr i p (by simpa using hp)
 vals_ok:∀(l:List Value) (sv:SV),sv∈vals l→aW s sv
  |[],_,h=>by simp[vals]at h
  |v::l,sv,h=>by
   cases v<;>(simp only[vals,List.mem_cons]at h;rcases h with rfl|h<;>first|exact trivial|exact vals_ok l sv h)
 vals_length:∀(l:List Value),l.length=(vals l).length
  |[]=>rfl
  |v::l=>by cases v<;>simp[vals,vals_length l]
theorem yE{t f:Nat}{K:Nat→TI→Prop}(htt:TTok C.P C.tt)(h:qJz C t f K):
  ∃(F:Array Field) (fd:Field) (ti:TI),C.P.underlying t=some (.struct F)∧F[f]? =some fd∧TIok C.P fd.type ti∧K fd.offset ti:=by
 obtain⟨i,h1,h2⟩:=aO h
 have hk:=(htt.get h1).kind
 split at h2
 ·rename_i fs hkk
  rw[hkk]at hk
  obtain⟨hk,_⟩:=hk
  split at h2
  ·rename_i off ft hf
   obtain⟨ti,h3,h4⟩:=aO h2
   cases hu:C.P.underlying t with
   |none=>simp[hu]at hk
   |some d=>
    simp only[hu,Option.bind_some]at hk
    cases d<;>simp only[qBi]at hk<;>try (cases hk;done)
    rename_i F
    simp only[Option.some.injEq]at hk
    subst hk
    simp only[List.getElem?_map,Option.map_eq_some_iff,Prod.mk.injEq]at hf
    obtain⟨fd,hfd,rfl,rfl⟩:=hf
    exact⟨F,fd,ti,rfl,by simpa using hfd,htt.get h3,h4⟩
  ·exact h2.elim
 ·exact h2.elim
theorem jN{i:TI}{A:Prop}(h:qEk i A):i.size≠0∧A:=by
 unfold qEk at h
 split at h
 ·exact h.elim
 ·rename_i n hn;exact⟨by omega,h⟩
theorem iX{P:Program}{t f:Nat}{F:Array Field}{fd:Field}{ti:TI}(hu:P.underlying t=some (.struct F))(hf:F[f]? =some fd)(hti:TIok P fd.type ti)(hs:ti.size≠0)(a:Addr)(w:World):
  (Instr.fieldAt t (.pointer (some a)) f).run P w= .ok (.pointer (some (a.add fd.offset))) w:=by
 simp[Instr.fieldAt,run_underlying hu,hf,Instr.sureAddr,fieldPlace,hti.run_sizeOf,hs]
theorem qLd{P:Program}{t:TypeId}{ti:TI}(hti:TIok P t ti){cs:Array Value}{off:Nat}{K:SV→Prop}(h:lI ti cs.toList off K):
  ∃sv,K sv∧aW s sv∧∀w,(part t cs off).run P w= .ok sv.conc w:=by
 obtain⟨l,hl,hn,h⟩:=uY h
 rcases h with⟨hg,h⟩|⟨hg,x,rfl,h⟩
 ·refine ⟨_, h, trivial, fun w => ?_⟩
  simp only[part,Sem.run_bind,hti.run_isAgg,hg,Result.andThen_ok,if_true,hti.run_sizeOf,Sem.run_pure,SV.conc,hl]
  congr 2
  apply Array.ext'
  simp only[Array.toList_extract]
  rw[List.extract_eq_take_drop]
  simp
 ·refine ⟨_, h, trivial, fun w => ?_⟩
  have:cs[off]? =some x:=by
   have:=jH (cs:=cs.toList) (off:=off) (n:=ti.size) (j:=0) (v:=x) (by rw[←hl];rfl)
   simpa using this
  simp[part,hti.run_isAgg,hg,this,SV.conc]
theorem wJ{o:Oper}{x:Sem Value}{sv:SV}(he:execOp a.eval o=(do pure (.value (←x))))(h:pJ C.P s x sv):∀w,qEa s w→(execOp a.eval o).run C.P w= .ok (.value sv.conc) w:=fun w hw=>by
 rw[he]
 simp[h w hw]
theorem sA(htt:TTok C.P C.tt)(he:nN s a)(hb:sI s){o:Oper}{K:SV→Prop}(h:nV C s o.op K):
  ∃sv,K sv∧aW s sv∧∀w,qEa s w→(execOp a.eval o).run C.P w= .ok (.value sv.conc) w:=by
 obtain⟨dst,op,type,pos,after,guard⟩:=o
 simp only at h
 unfold nV at h
 split at h
 ·rename_i src dst' x
  obtain⟨sx,h1,h2⟩:=aG h
  obtain⟨e,o1⟩:=aH he h1
  unfold qCf at h2
  obtain⟨ts,h3,h4⟩:=aO h2
  obtain⟨td,h5,h6⟩:=aO h4
  have k1:=(htt.get h3).kind
  have k2:=(htt.get h5).kind
  split at h6
  ·rename_i e0 tag base n cap hs hd
   rw[hs]at k1
   rw[hd]at k2
   obtain⟨te,h7,h8⟩:=aO h6
   have k3:=(htt.get h7).kind
   split at h8
   ·rename_i b' c' ty es xs hk hlb
    rw[hk]at k3
    obtain⟨bs,rfl,h9⟩:=uP h8
    obtain⟨_,hx2⟩:=o1
    obtain⟨_,_,_,e1,e2⟩:=hx2 _ hlb
    cases e1
    simp only[List.length_map]at e2
    subst e2
    refine⟨_,h9,trivial,fun w hw=>?_⟩
    have hf:=hw.1.2 _ _ hlb
    have hrun:(convert src dst' (SV.row tag base bs.length cap).conc).run C.P w= .ok (.string ⟨bs.toArray⟩) w:=by
     cases base with
     |none=>
      obtain⟨e3,_⟩:=hf
      have:bs=[]:=by simpa using e3
      subst this
      simp only[SV.conc,Option.map_none]
      rw[run_convert_bytes_string w src dst' e0 none _ _ k1 k3 k2]
      rfl
     |some r=>
      simp only[SV.conc,Option.map_some]
      refine run_convert_bytes_back w src dst' e0 ⟨r,0,none⟩ cap bs k1 k3 k2 fun j hj=>?_
      obtain⟨r',hr,hc⟩:=nZ hf (i:=j) (x:= .int .u8 (bs[j].toNat:Int)) (by simp[List.getElem?_eq_getElem hj])
      cases hr
      have hes:es=1:=by
       have:=(hf.2.2.1 (.int .u8 (bs[j].toNat:Int)) (List.mem_map.2 ⟨bs[j],List.getElem_mem hj,rfl⟩)).1
       simpa[aB]using this.symm
      have:=hc 0 _ rfl
      rw[hes]at this
      rw[Addr.add_lit']
      simpa using this
    simp only[execOp,e,Sem.run_bind,hrun,Result.andThen_ok,Sem.run_pure]
    rfl
   ·exact h8.elim
  ·rename_i hs hd
   rw[hs]at k1
   rw[hd]at k2
   refine⟨_,cJ h6,trivial,fun w _=>?_⟩
   simp[execOp,e,SV.conc,convert,run_underlying k1,run_underlying k2,Conv.intToInt]
  ·rename_i hs hd
   rw[hs]at k1
   rw[hd]at k2
   refine⟨_,h6,trivial,fun w _=>?_⟩
   simp[execOp,e,SV.conc,convert,run_underlying k1,run_underlying k2]
  ·exact h6.elim
 ·obtain ⟨sv, h1, h2⟩ := aG h
  obtain⟨e,o⟩:=aH he h1
  exact⟨sv,h2,o,fun w _=>by simp[execOp,e]⟩
 ·obtain ⟨sv, h1, h2⟩ := aG h
  obtain⟨e,o⟩:=aH he h1
  exact⟨sv,h2,o,fun w _=>by simp[execOp,e]⟩
 ·obtain ⟨sv, h1, h2⟩ := aG h
  obtain⟨e,o⟩:=aH he h1
  split at h2
  ·exact⟨_,h2,o,fun w _=>by simp[execOp,e,SV.conc]⟩
  ·exact⟨_,h2,o,fun w _=>by simp[execOp,e,SV.conc]⟩
  ·exact h2.elim
 ·obtain ⟨sv, h1, h2, b, h3, h4⟩ := qEi he h
  refine⟨sv,h1,h2,fun w _=>?_⟩
  simp only[execOp,h3,asBool,Sem.run_bind,Sem.run_pure,Result.andThen_ok]
  exact congrArg (fun v=>Result.ok (Next.value v) w) h4
 ·obtain ⟨x, h1, h2⟩ := aG h
  obtain⟨e,_⟩:=aH he h1
  obtain⟨sv,h3,h4,h5⟩:=qKs (C:=C) (s:=s) h2
  exact⟨sv,h3,h4,wJ (by simp only[execOp,e]) h5⟩
 ·split at h
  ·obtain ⟨i, h1, h2⟩ := aO h
   obtain⟨x,h3,h4⟩:=aG h2
   have e1:=(aH he h3).1
   have e2:=(aH (sv:= .val .nilIface) he (show ev s (.const .nilIface)=some (.val .nilIface)from rfl)).1
   have hk:=(htt.get h1).kind
   split at h4
   ·rename_i hkk
    rw[hkk]at hk
    unfold qDn at h4
    split at h4
    ·exact⟨_,h4,trivial,fun w hw=>by simp[execOp,e1,e2,SV.conc,eqGuard,run_eql_nil_nil w _ hk]⟩
    ·exact⟨_,h4,trivial,fun w hw=>by simp[execOp,e1,e2,SV.conc,eqGuard,run_neq_nil_nil w _ hk]⟩
    ·exact h4.elim
   ·exact h4.elim
  ·obtain ⟨x, h1, h2⟩ := aG h
   obtain⟨e1,_⟩:=aH he h1
   obtain⟨y,h3,h4⟩:=aG h2
   obtain⟨e2,_⟩:=aH he h3
   obtain⟨sv,h5,h6,h7⟩:=qHc (s:=s) htt h4
   refine⟨sv,h5,h6,fun w hw=>?_⟩
   simp[execOp,e1,e2,xF h4,h7 w hw]
 ·obtain ⟨F, fd, ti, hu, hf, hti, h1⟩ := yE htt h
  obtain⟨x,h2,h3⟩:=aG h1
  obtain⟨e1,_⟩:=aH he h2
  split at h3
  ·obtain ⟨sv, h5, h6, h7⟩ := qLd (s := s) hti h3
   refine⟨sv,h5,h6,fun w hw=>?_⟩
   simp[execOp,e1,SV.conc,Instr.field,run_underlying hu,hf,asAgg,h7 w]
  ·exact h3.elim
 ·obtain ⟨F, fd, ti, hu, hf, hti, h1⟩ := yE htt h
  obtain⟨hsz,h1⟩:=jN h1
  obtain⟨x,h2,h3⟩:=aG h1
  obtain⟨e1,o1⟩:=aH he h2
  split at h3
  ·refine ⟨_, h3, o1, fun w _ => ?_⟩
   simp[execOp,e1,SV.conc,iX hu hf hti hsz,Addr.add_lit']
  ·refine ⟨_, h3, o1, fun w _ => ?_⟩
   simp[execOp,e1,SV.conc,iX hu hf hti hsz,Addr.add_add']
  ·rename_i tag base es i off
   split at h3
   case h_2=>exact h3.elim
   rename_i lb hlb
   obtain⟨cap,ty,xs,rfl,hlt⟩:=o1.2 _ hlb
   refine⟨_,h3,o1,fun w hw=>?_⟩
   have hfit:=hw.1.2 _ _ hlb
   cases base with
   |none=>obtain⟨rfl,_⟩:=hfit;simp at hlt
   |some r=>simp[execOp,e1,SV.conc,iX hu hf hti hsz,Addr.add_lit',Nat.add_assoc]
  ·refine ⟨_, h3, trivial, fun w _ => ?_⟩
   simp[execOp,e1,SV.conc,iX hu hf hti hsz]
  ·exact h3.elim
 ·obtain ⟨x, h1, h2⟩ := aG h
  obtain⟨e1,o1⟩:=aH he h1
  obtain⟨y,h3,h4⟩:=aG h2
  obtain⟨e2,_⟩:=aH he h3
  obtain⟨sv,h5,h6,h7⟩:=qHb htt o1 h4
  exact⟨sv,h5,h6,wJ (by simp only[execOp,e1,e2]) h7⟩
 ·obtain ⟨ti, h1, h2⟩ := aO h
  have hk:=(htt.get h1).kind
  obtain⟨x,h3,h4⟩:=aG h2
  obtain⟨e1,_⟩:=aH he h3
  obtain⟨lo,h5,e2⟩:=zA he h4
  obtain⟨hi,h6,e3⟩:=zA he h5
  split at h6
  ·rename_i hkk _
   rw[hkk]at hk
   obtain⟨te,h7,h8⟩:=aO h6
   obtain⟨sv,h9,h10,h11⟩:=qF (s:=s) hk (htt.get h7) h8
   refine⟨sv,h9,h10,fun w hw=>?_⟩
   have h11:=h11 w hw
   simp only[SV.conc]at h11
   simp[execOp,e1,e2,e3,SV.conc,Instr.sliceAt,run_underlying hk,h11]
  ·rename_i hkk _
   rw[hkk]at hk
   obtain⟨te,h7,h8⟩:=aO h6
   obtain⟨sv,h9,h10,h11⟩:=qF (s:=s) hk (htt.get h7) h8
   refine⟨sv,h9,h10,fun w hw=>?_⟩
   have h11:=h11 w hw
   simp only[SV.conc]at h11
   simp[execOp,e1,e2,e3,SV.conc,Instr.sliceAt,run_underlying hk,h11]
  ·rename_i hkk _
   rw[hkk]at hk
   obtain⟨sv,h9,h10,h11⟩:=qAe (s:=s) hk h6
   refine⟨sv,h9,h10,fun w hw=>?_⟩
   have h11:=h11 w hw
   simp only[SV.conc]at h11
   simp[execOp,e1,e2,e3,SV.conc,Instr.sliceAt,run_underlying hk,h11]
  ·exact h6.elim
 ·obtain ⟨ti, h1, h2⟩ := aO h
  have hk:=(htt.get h1).kind
  obtain⟨x,h3,h4⟩:=aG h2
  obtain⟨e1,_⟩:=aH he h3
  obtain⟨y,h5,h6⟩:=aG h4
  obtain⟨e2,_⟩:=aH he h5
  split at h6
  ·rename_i b k i hkk _ _
   rw[hkk]at hk
   obtain⟨j,c,rfl,hc,h7⟩:=zN h6
   refine⟨_,h7,trivial,fun w _=>?_⟩
   have hlt:j<b.size:=by
    rcases Nat.lt_or_ge j b.size with h|h
    ·exact h
    ·rw[List.getElem?_eq_none (by rw[ByteArray.size]at h;simpa using h)]at hc;cases hc
   have hg:b[j]? =some c:=by
    rw[ByteArray.getElem?_lt' b j hlt]
    have:b.data.toList[j]? =some (b.data[j]'hlt):=by simp[Array.getElem?_eq_getElem (show j<b.data.size from hlt)]
    rw[this]at hc
    exact hc
   simp[execOp,e1,e2,SV.conc,Instr.index,asIntOf,run_underlying hk,hg]
  ·exact h6.elim
 ·obtain ⟨ti, h1, h2⟩ := aO h
  have hk:=(htt.get h1).kind
  split at h2
  case h_2=>exact h2.elim
  rename_i kt e hkk
  rw[hkk]at hk
  obtain⟨tk,h3,h4⟩:=aO h2
  have hkt:=(htt.get h3).kind
  obtain⟨te,h5,h6⟩:=aO h4
  have hte:=htt.get h5
  obtain⟨x,h7,h8⟩:=aG h6
  obtain⟨e1,_⟩:=aH he h7
  obtain⟨y,h9,h10⟩:=aG h8
  obtain⟨e2,_⟩:=aH he h9
  rw[cZ]at h10
  split at h10
  case h_2=>exact h10.elim
  rename_i r _
  obtain⟨hok,l,hm,hl,h11⟩:=yI h10
  have hrun:∀w,qEa s w→∀ok,(Instr.lookup _ (SV.val (.map (some r))).conc y.conc ok).run C.P w=_:=fun w hw ok=>qGd (w:=w) hk hkt hte hok hl (hm.elim (fun h=>hw.1.1 _ _ h) (fun h=>hw.2 _ _ h)) ok
  split at h11
  ·rename_i v hmg
   refine⟨_,h11,trivial,fun w hw=>?_⟩
   have:=hrun w hw true
   rw[hmg]at this
   simp only[execOp,e1,e2,Sem.run_bind,this,Result.andThen_ok,Sem.run_pure]
   rfl
  ·rename_i hmg
   refine⟨_,h11,trivial,fun w hw=>?_⟩
   have:=hrun w hw true
   rw[hmg]at this
   simp only[execOp,e1,e2,Sem.run_bind,this,Result.andThen_ok,Sem.run_pure]
   rfl
  ·rename_i v hmg
   refine⟨_,h11,trivial,fun w hw=>?_⟩
   have:=hrun w hw false
   rw[hmg]at this
   simp only[execOp,e1,e2,Sem.run_bind,this,Result.andThen_ok,Sem.run_pure]
   rfl
  ·rename_i hmg
   refine⟨_,h11,trivial,fun w hw=>?_⟩
   have:=hrun w hw false
   rw[hmg]at this
   simp only[execOp,e1,e2,Sem.run_bind,this,Result.andThen_ok,Sem.run_pure]
   rfl
 ·obtain ⟨x, h1, h2⟩ := aG h
  obtain⟨e1,o1⟩:=aH he h1
  obtain⟨sv,h5,h6,h7⟩:=sJ htt hb o1 h2
  exact⟨sv,h5,h6,wJ (by simp only[execOp,e1]) h7⟩
 ·obtain ⟨x, h1, h2⟩ := aG h
  obtain⟨e1,o1⟩:=aH he h1
  split at h2
  ·split at h2
   ·rename_i v hv
    refine⟨_,h2,trivial,fun w _=>?_⟩
    simp only[Array.getElem?_toList]at hv
    simp[execOp,e1,SV.conc,Instr.extract,hv]
   ·exact h2.elim
  ·exact h2.elim
 ·obtain ⟨ti, h1, h2⟩ := aO h
  have hti:=htt.get h1
  have hk:=hti.kind
  split at h2
  ·rename_i t ps _ fs hkk
   rw[hkk]at hk
   obtain⟨hk1,hk2⟩:=hk
   obtain⟨places,hpl⟩:=Option.isSome_iff_exists.1 hk2
   obtain⟨cs',h3,h4,h5⟩:=fillK_sound htt he hpl ps.toList (vals ti.zero) _ (fun sv hsv=>fillK_sound.vals_ok ti.zero sv hsv) h2
   rw[dB]at h3
   refine⟨_,h3,trivial,fun w _=>?_⟩
   simp only[execOp]
   have hb:C.P.built t (ps.map fun p=>(p.1,a.eval p.2)).toList=some (cs'.map SV.conc).toArray:=by
    obtain⟨inf,hin,_,_,z,hz,hzc⟩:=hti.info'
    cases hu:C.P.underlying t with
    |none=>simp[hu]at hk1
    |some d=>
     simp only[hu,Option.bind_some]at hk1
     cases d<;>simp only[qBi]at hk1<;>try (cases hk1;done)
     rename_i F
     simp only[Option.some.injEq]at hk1
     have hm:(F.toList.mapM fun f=>(C.P.info? f.type).map fun i=>(f.offset,i.size))=some places:=by
      rw[←hpl,←hk1,List.mapM_map]
      rfl
     simp only[Program.built,hin,hu,hz,hm]
     rw[←h5,gY,←hzc,←aR]
     simp
   have:=run_build w t (ps.map fun p=>(p.1,a.eval p.2)) _ hb
   simp[this,SV.conc]
  ·exact h2.elim
 ·rename_i fn first caps
  have h1:=kH he _ _ (kH he _ _ h)
  refine⟨_,h1,trivial,fun w _=>?_⟩
  simp only[execOp,Instr.makeFunc,SV.conc,pure_bind,Sem.run_pure]
  congr 3<;>(apply Array.ext';simp)
 ·obtain ⟨ti, h1, h2⟩ := aO h
  have hk:=(htt.get h1).kind
  obtain⟨x,h3,h4⟩:=aG h2
  obtain⟨e1,_⟩:=aH he h3
  split at h4
  ·rename_i e v hkk _
   rw[hkk]at hk
   refine⟨_,h4,trivial,fun w _=>?_⟩
   simp[execOp,e1,SV.conc,Instr.makeInterface,run_underlying hk]
  ·exact h4.elim
 ·rename_i c
  split at h
  ·split at h
   ·rename_i hc _ _ x t hca hct
    obtain⟨y,h1,h2⟩:=aG h
    obtain⟨e1,o1⟩:=aH he h1
    obtain⟨sv,h3,h4,h5⟩:=qHf (ty:=type) htt h2
    refine⟨sv,h3,h4,fun w hw=>?_⟩
    have h5:=h5 w hw
    have ea:c.args.map a.eval= #[y.conc]:=by
     apply Array.ext'
     simp[hca,e1]
    have et:c.argTypes= #[t]:=by
     apply Array.ext'
     simp[hct]
    simp[execOp,resolve,hc,invoke,builtin,ea,et,h5]
   ·exact h.elim
  ·split at h
   ·rename_i hc _ x y hca
    obtain⟨sx,h1,h2⟩:=aG h
    obtain⟨e1,-⟩:=aH he h1
    obtain⟨sy,h3,h4⟩:=aG h2
    obtain⟨e2,-⟩:=aH he h3
    obtain⟨sv,h5,h6,h7⟩:=uK (C:=C) (s:=s) (ts:=c.argTypes) (t:=type) h4
    refine⟨sv,h5,h6,fun w hw=>?_⟩
    have h7:=h7 w hw
    have ea:c.args.map a.eval= #[sx.conc,sy.conc]:=by apply Array.ext';simp[hca,e1,e2]
    simp only[cond_true]at h7
    simp[execOp,resolve,hc,invoke,builtin,ea,h7]
   ·exact h.elim
  ·split at h
   ·rename_i hc _ x y hca
    obtain⟨sx,h1,h2⟩:=aG h
    obtain⟨e1,-⟩:=aH he h1
    obtain⟨sy,h3,h4⟩:=aG h2
    obtain⟨e2,-⟩:=aH he h3
    obtain⟨sv,h5,h6,h7⟩:=uK (C:=C) (s:=s) (ts:=c.argTypes) (t:=type) h4
    refine⟨sv,h5,h6,fun w hw=>?_⟩
    have h7:=h7 w hw
    have ea:c.args.map a.eval= #[sx.conc,sy.conc]:=by apply Array.ext';simp[hca,e1,e2]
    simp only[cond_false]at h7
    simp[execOp,resolve,hc,invoke,builtin,ea,h7]
   ·exact h.elim
  ·exact h.elim
 ·exact h.elim
end
end Go.Vx
namespace Go.Vx
structure Ent where
 w0:World
 μ0:Mem
 h0:Mem
 n:Nat
structure Rel (E:Ent) (a:Act) (w:World) (s:St):Prop where
 defers:a.defers=[]
 size:a.tmps.size=E.n
 env:nN s a
 cells:sI s
 sees:Sees s w
 nxt:∀t lb,s.lb t=some lb→t<s.nxt
 place:∀t lb r,s.lb t=some lb→lb.blk? =some r→s.mem r=none∧s.own r=none∧(E.w0.heap.size≤r∨E.h0 r≠none)
 sep:∀t t' lb lb' r,s.lb t=some lb→s.lb t'=some lb'→lb.blk? =some r→lb'.blk? =some r→t=t'
 own:Holds s.own w∧∀b,s.own b≠none→s.mem b=none∧(E.w0.heap.size≤b∨E.h0 b≠none)
 mono:E.μ0.Le s.mem
 fresh:∀b,E.μ0 b=none→s.mem b≠none→E.w0.heap.size≤b∨E.h0 b≠none
 grow:E.w0.heap.size≤w.heap.size
 keep:∀b,b<E.w0.heap.size→E.h0 b=none→w.heap[b]? =E.w0.heap[b]?
 os:w.os=E.w0.os
 tape:w.tape=E.w0.tape
 output:w.output=E.w0.output
theorem LB.fits_congr{lb:LB}{h h':Nat→Option Obj}(hh:∀r,lb.blk? =some r→h' r=h r)(hf:lb.fits h):lb.fits h':=by
 cases lb with
 |cells r cs ty=>simp only[LB.fits]at*;rw[hh r rfl];exact hf
 |map r en ck=>simp only[LB.fits]at*;rw[hh r rfl];exact hf
 |row base cap ty es xs=>
  cases base with
  |none=>exact hf
  |some r=>
   obtain⟨h1,h2,h3,arr,h4,h5⟩:=hf
   exact⟨h1,h2,h3,arr,by rw[hh r rfl];exact h4,h5⟩
theorem LB.fits_lt{lb:LB}{w:World}(hf:lb.fits (fun b=>w.heap[b]?)){r:Nat}(hr:lb.blk? =some r):r<w.heap.size:=by
 have key:∀o,w.heap[r]? =some o→r<w.heap.size:=fun o h=>(Array.getElem?_eq_some_iff.1 h).1
 cases lb with
 |cells r' cs ty=>cases hr;exact key _ hf
 |map r' en ck=>cases hr;exact key _ hf
 |row base cap ty es xs=>
  cases hr
  obtain⟨_,_,_,arr,h4,_⟩:=hf
  exact key _ h4
theorem Holds.lt{μ:Mem}{w:World}(h:Holds μ w){b:Nat}(hb:μ b≠none):b<w.heap.size:=by
 cases ho:μ b with
 |none=>exact absurd ho hb
 |some o=>exact(Array.getElem?_eq_some_iff.1 (h b o ho)).1
theorem Rel.mem_none{E:Ent}{a:Act}{w:World}{s:St}(hR:Rel E a w s){r:Nat}(h:w.heap.size≤r):s.mem r=none∧s.own r=none:=by
 constructor
 ·cases ho : s.mem r with
  |none=>rfl
  |some o=>have:=hR.sees.1.lt (b:=r) (by simp[ho]);omega
 ·cases ho : s.own r with
  |none=>rfl
  |some o=>have:=hR.own.1.lt (b:=r) (by simp[ho]);omega
theorem Rel.change{E:Ent}{a:Act}{w w':World}{s s':St}(hR:Rel E a w s)(tag:Nat)(lb':LB)
  (hlb:∀t,s'.lb t=if t=tag then some lb' else s.lb t) (hmem:s'.mem=s.mem) (hown:s'.own=s.own) (hnxt:s.nxt≤s'.nxt) (htag:tag<s'.nxt)
  (hE:nN s' a) (hB:sI s') (hfit:lb'.fits (fun b=>w'.heap[b]?))
  (hold:∀r,lb'.blk? =some r→(∃lb,s.lb tag=some lb∧lb.blk? =some r)∨w.heap.size≤r)
  (hkeep:∀b,b<w.heap.size→(∀lb,s.lb tag=some lb→lb.blk?≠some b)→w'.heap[b]? =w.heap[b]?)
  (hsize:w.heap.size≤w'.heap.size) (os:w'.os=w.os) (tape:w'.tape=w.tape) (output:w'.output=w.output):Rel E a w' s':=by
 have hplace:∀r,lb'.blk? =some r→s.mem r=none∧s.own r=none∧(E.w0.heap.size≤r∨E.h0 r≠none):=fun r hr=>by
  rcases hold r hr with⟨lb,h1,h2⟩|h
  ·exact hR.place _ _ _ h1 h2
  ·exact⟨(hR.mem_none h).1,(hR.mem_none h).2,.inl (Nat.le_trans hR.grow h)⟩
 have hoth:∀t lb r,t≠tag→s.lb t=some lb→lb.blk? =some r→lb'.blk?≠some r:=fun t lb r ht hl hr hr'=>by
  rcases hold r hr' with⟨lb2,h1,h2⟩|h
  ·exact ht (hR.sep _ _ _ _ _ hl h1 hr h2)
  ·have:=LB.fits_lt (hR.sees.2 _ _ hl) hr;omega
 have hmk:∀b o,s.mem b=some o→w'.heap[b]? =some o:=fun b o hb=>by
  rw[hkeep b (hR.sees.1.lt (by simp[hb])) (fun lb h1 h2=>by have:=(hR.place _ _ _ h1 h2).1;simp[hb]at this)]
  exact hR.sees.1 b o hb
 refine⟨hR.defers,hR.size,hE,hB,⟨by rw[hmem];exact hmk,fun t lb h=>?_⟩,fun t lb h=>?_,fun t lb r h hr=>?_,fun t t' lb lb2 r h h' hr hr'=>?_,⟨?_,?_⟩,by rw[hmem];exact hR.mono,by rw[hmem];exact hR.fresh,Nat.le_trans hR.grow hsize,fun b hb h0=>?_,os.trans hR.os,tape.trans hR.tape,output.trans hR.output⟩
 ·rw [hlb] at h
  split at h
  ·cases h;exact hfit
  ·rename_i ht
   refine LB.fits_congr (fun r hr=>?_) (hR.sees.2 _ _ h)
   exact hkeep r (LB.fits_lt (hR.sees.2 _ _ h) hr) (fun lb2 h1 h2=>ht (hR.sep _ _ _ _ _ h h1 hr h2))
 ·rw [hlb] at h
  split at h
  ·rename_i ht;subst ht;exact htag
  ·exact Nat.lt_of_lt_of_le (hR.nxt _ _ h) hnxt
 ·rw [hlb] at h
  rw[hmem,hown]
  split at h
  ·cases h;exact hplace r hr
  ·exact hR.place _ _ _ h hr
 ·rw [hlb] at h h'
  split at h
  ·rename_i ht
   split at h'
   ·rename_i ht';rw[ht,ht']
   ·rename_i ht'
    cases h
    exact absurd hr (hoth _ _ _ ht' h' hr')
  ·rename_i ht
   split at h'
   ·rename_i ht'
    cases h'
    exact absurd hr' (hoth _ _ _ ht h hr)
   ·exact hR.sep _ _ _ _ _ h h' hr hr'
 ·rw [hown]
  intro b o hb
  rw[hkeep b (hR.own.1.lt (by simp[hb])) (fun lb h1 h2=>by have:=(hR.place _ _ _ h1 h2).2.1;simp[hb]at this)]
  exact hR.own.1 b o hb
 ·rw[hown,hmem];exact hR.own.2
 ·rw[hkeep b (Nat.lt_of_lt_of_le hb hR.grow) (fun lb h1 h2=>by
   rcases(hR.place _ _ _ h1 h2).2.2 with h|h
   ·omega
   ·exact h h0)]
  exact hR.keep b hb h0
theorem qDk{s:St}{h:Mem}{sv:SV}(hs:aW s sv):aW {s with own:=h} sv:=by cases sv<;>exact hs
theorem Rel.own_none{E:Ent}{a:Act}{w:World}{s:St}(hR:Rel E a w s){b:Nat}(h:s.mem b≠none):s.own b=none:=by
 cases ho:s.own b with
 |none=>rfl
 |some o=>exact absurd (hR.own.2 b (by simp[ho])).1 h
theorem Rel.chown{E:Ent}{a:Act}{w w':World}{s:St}{h':Mem}(hR:Rel E a w s)(hh:Holds h' w')(hnew:∀b,h' b≠none→s.own b≠none∨w.heap.size≤b)
  (hkeep:∀b,b<w.heap.size→s.own b=none→w'.heap[b]? =w.heap[b]?) (hsize:w.heap.size≤w'.heap.size) (os:w'.os=w.os) (tape:w'.tape=w.tape) (output:w'.output=w.output):Rel E a w' {s with own:=h'}:=by
 have hno:∀b,s.mem b≠none→h' b=none:=fun b hb=>by
  cases ho:h' b with
  |none=>rfl
  |some o=>
   rcases hnew b (by simp[ho])with h|h
   ·exact absurd (hR.own_none hb) h
   ·have:=hR.sees.1.lt hb;omega
 refine⟨hR.defers,hR.size,fun i sv h=>⟨(hR.env i sv h).1,qDk (hR.env i sv h).2⟩,fun t r cs ty h sv hsv=>qDk (hR.cells t r cs ty h sv hsv),⟨fun b o hb=>?_,fun t lb h=>?_⟩,hR.nxt,fun t lb r h hr=>?_,hR.sep,⟨hh,fun b hb=>?_⟩,hR.mono,hR.fresh,Nat.le_trans hR.grow hsize,fun b hb h0=>?_,os.trans hR.os,tape.trans hR.tape,output.trans hR.output⟩
 ·rw [hkeep b (hR.sees.1.lt (by simp only at hb; simp [hb])) (hR.own_none (by simp only at hb; simp [hb]))]
  exact hR.sees.1 b o hb
 ·refine LB.fits_congr (fun r hr => ?_) (hR.sees.2 t lb h)
  exact hkeep r (LB.fits_lt (hR.sees.2 t lb h) hr) (hR.place t lb r h hr).2.1
 ·obtain ⟨h1, h2, h3⟩ := hR.place t lb r h hr
  refine⟨h1,?_,h3⟩
  cases ho:h' r with
  |none=>exact ho
  |some o=>
   rcases hnew r (by simp[ho])with h4|h4
   ·exact absurd h2 h4
   ·have:=LB.fits_lt (hR.sees.2 t lb h) hr;omega
 ·rcases hnew b hb with h | h
  ·exact hR.own.2 b h
  ·exact⟨(hR.mem_none h).1,.inl (Nat.le_trans hR.grow h)⟩
 ·rw [hkeep b (Nat.lt_of_lt_of_le hb hR.grow) ?_]
  ·exact hR.keep b hb h0
  ·cases ho : s.own b with
   |none=>rfl
   |some o=>
    rcases(hR.own.2 b (by simp[ho])).2 with h|h
    ·omega
    ·exact absurd h0 h
def LB.alike:LB→LB→Prop
 | .cells r _ _,.cells r' _ _=>r=r'
 | .row b c _ es xs,.row b' c' _ es' xs'=>b=b'∧c=c'∧es=es'∧xs.length=xs'.length
 | .map r _ _,.map r' _ _=>r=r'
 |_,_=>False
theorem LB.alike_refl(lb:LB):lb.alike lb:=by cases lb<;>simp[LB.alike]
theorem eF{s s':St}{sv:SV}(hnxt:s.nxt≤s'.nxt)(hmem:s.mem.Le s'.mem)(h:∀t lb',t<s.nxt→s'.lb t=some lb'→∃lb,s.lb t=some lb∧lb.alike lb')(hs:aW s sv):aW s' sv:=by
 cases sv with
 |loc t r off=>
  obtain⟨h1,h2⟩:=hs
  refine⟨Nat.lt_of_lt_of_le h1 hnxt,fun lb' hl=>?_⟩
  obtain⟨lb,hlb,ha⟩:=h t lb' h1 hl
  obtain⟨cs,ty,rfl⟩:=h2 lb hlb
  cases lb'<;>simp only[LB.alike]at ha
  subst ha
  exact⟨_,_,rfl⟩
 |row t base n cap=>
  obtain⟨h1,h2⟩:=hs
  refine⟨Nat.lt_of_lt_of_le h1 hnxt,fun lb' hl=>?_⟩
  obtain⟨lb,hlb,ha⟩:=h t lb' h1 hl
  obtain⟨ty,es,xs,rfl,hn⟩:=h2 lb hlb
  cases lb'<;>simp only[LB.alike]at ha
  obtain⟨rfl,rfl,rfl,hl⟩:=ha
  exact⟨_,_,_,rfl,by omega⟩
 |elem a cs off=>exact fun j v hj=>hmem.cell (hs j v hj)
 |rel t base es i off=>
  obtain⟨h1,h2⟩:=hs
  refine⟨Nat.lt_of_lt_of_le h1 hnxt,fun lb' hl=>?_⟩
  obtain⟨lb,hlb,ha⟩:=h t lb' h1 hl
  obtain⟨cap,ty,xs,rfl,hn⟩:=h2 lb hlb
  cases lb'<;>simp only[LB.alike]at ha
  obtain⟨rfl,rfl,rfl,hl⟩:=ha
  exact⟨_,_,_,rfl,by omega⟩
 |val v=>trivial
 |kn b=>trivial
theorem aM{α:Type}(i:Nat)(x:α)(l:List (Nat×α))(k:Nat):bD ((i,x)::l) k=if k=i then some x else bD l k:=by
 simp only[bD]
 split
 ·rename_i h;have:=Nat.eq_of_beq_eq_true h;simp[this]
 ·rename_i h
  have:k≠i:=fun e=>by subst e;simp at h
  simp[this]
theorem cY(s:St)(t:Nat)(b:LB)(k:Nat):(s.setB t b).lb k=if k=t then some b else s.lb k:=by
 by_cases h:k=t<;>simp[St.lb,St.setB,aM,h]
theorem cP(s:St)(b:LB)(k:Nat):(s.newB b).lb k=if k=s.nxt then some b else s.lb k:=by
 by_cases h:k=s.nxt<;>simp[St.lb,St.newB,aM,h]
theorem nD(s:St)(t:Nat)(μ:Mem)(k:Nat):(St.lb {s with mem:=μ,blk:=(t,none)::s.blk} k)=if k=t then none else s.lb k:=by
 by_cases h:k=t<;>simp[St.lb,aM,h]
theorem kS{s:St}{t:Nat}{lb:LB}(h:s.lb t=some lb):bD s.blk t=some (some lb):=by
 unfold St.lb at h
 split at h
 ·rename_i x hx;rw[hx,h]
 ·cases h
theorem Rel.put{E:Ent}{a:Act}{w:World}{s:St}(hR:Rel E a w s){dst:Option Tmp}{sv:SV}(hd:∀d,dst=some d→d<E.n)(ho:aW s sv):Rel E (a.put dst sv.conc) w (s.put dst sv):=by
 cases dst with
 |none=>exact hR
 |some d=>
  have hd:=hd d rfl
  have hs:∀x,aW s x→aW (s.put (some d) sv) x:=fun x hx=>eF (s:=s) (Nat.le_refl _) (Mem.Le.refl _) (fun t lb' _ h=>⟨lb',h,lb'.alike_refl⟩) hx
  refine⟨hR.defers,by simp[Act.put,hR.size],fun i x hx=>?_,fun t r cs ty h x hx=>hs x (hR.cells t r cs ty h x hx),hR.sees,hR.nxt,hR.place,hR.sep,hR.own,hR.mono,hR.fresh,hR.grow,hR.keep,hR.os,hR.tape,hR.output⟩
  simp only[St.put,aM]at hx
  split at hx
  ·rename_i e
   cases hx
   subst e
   refine⟨?_,hs _ ho⟩
   simp only[Act.put,Array.getElem?_setIfInBounds,if_true]
   rw[if_pos (by rw[hR.size];exact hd)]
  ·rename_i e
   obtain⟨h1,h2⟩:=hR.env i x hx
   refine⟨?_,hs _ h2⟩
   simp only[Act.put,Array.getElem?_setIfInBounds]
   rw[if_neg (fun h=>e h.symm)]
   exact h1
theorem jV{s:St}{b:LB}{sv:SV}(h:aW s sv):aW (s.newB b) sv:=by
 refine eF (s:=s) (Nat.le_succ _) (Mem.Le.refl _) (fun t lb' ht hl=>?_) h
 rw[cP,if_neg (by omega)]at hl
 exact⟨lb',hl,lb'.alike_refl⟩
theorem Rel.newB{E:Ent}{a:Act}{w w':World}{s:St}(hR:Rel E a w s){b:LB}{o:Obj}(hw:w'=w.alloc o)
  (hfit:b.fits (fun k=>w'.heap[k]?)) (hblk:∀r,b.blk? =some r→r=w.heap.size) (hok:∀r cs ty,b= .cells r cs ty→∀sv∈cs,aW s sv):Rel E a w' (s.newB b):=by
 subst hw
 refine hR.change s.nxt b (fun t=>cP s b t) rfl rfl (Nat.le_succ _) (Nat.lt_succ_self _) (fun i sv h=>?_) (fun t r cs ty h sv hsv=>?_) hfit (fun r hr=> .inr (Nat.le_of_eq (hblk r hr).symm)) (fun k hk _=>Go.RowKit.Below.heap_alloc w o k hk) (by simp) rfl rfl rfl
 ·obtain ⟨h1, h2⟩ := hR.env i sv h
  exact⟨h1,jV h2⟩
 ·rw [cP] at h
  split at h
  ·exact jV (hok r cs ty (by simpa using h) sv hsv)
  ·exact jV (hR.cells t r cs ty h sv hsv)
end Go.Vx
namespace Go.Vx
theorem SV.fade_conc(t:Nat)(sv:SV):(sv.fade t).conc=sv.conc:=by
  cases sv<;>simp only[SV.fade]<;>split<;>rfl
theorem gT(t:Nat):∀l:List SV,eN t l=l.map (SV.fade t)
  |[]=>rfl
  |sv::l=>by simp[eN,gT t l]
theorem gU(t:Nat):∀(l:List (Nat×SV)) (i:Nat),bD (mU t l) i=(bD l i).map (SV.fade t)
  |[],_=>rfl
  | (j, sv) :: l, i => by
    simp only[mU,aM,gU t l]
    split<;>rfl
def LB.fade(t:Nat):LB→LB
  | .cells r cs ty=> .cells r (eN t cs) ty
  |lb=>lb
theorem kK(s:St)(t k:Nat):(s.fade t).lb k=(s.lb k).map (LB.fade t):=by
  have:∀l:List (Nat×Option LB),bD (dX t l) k=(bD l k).map fun o=>o.map (LB.fade t):=by
    intro l
    induction l with
    |nil=>rfl
    | cons p l ih =>
      obtain⟨j,lb⟩:=p
      match lb with
      |some (.cells r cs ty)=>simp only[dX,aM,ih];split<;>rfl
      |some (.row ..)=>simp only[dX,aM,ih];split<;>rfl
      |some (.map ..)=>simp only[dX,aM,ih];split<;>rfl
      |none=>simp only[dX,aM,ih];split<;>rfl
  simp only[St.lb,St.fade,this]
  cases bD s.blk k<;>rfl
theorem LB.fade_blk(t:Nat)(lb:LB):(lb.fade t).blk? =lb.blk?:=by cases lb<;>rfl
theorem LB.fade_fits(t:Nat)(lb:LB)(h:Nat→Option Obj):(lb.fade t).fits h=lb.fits h:=by
  cases lb with
  | cells r cs ty =>
    simp only[LB.fade,LB.fits,gT,List.map_map]
    have:(SV.conc ∘ SV.fade t)=SV.conc:=funext fun sv=>SV.fade_conc t sv
    rw[this]
  |_=>rfl
theorem zX{s:St}(t:Nat){sv:SV}(h:aW s sv):aW (s.fade t) sv:=by
  refine eF (s:=s) (Nat.le_refl _) (Mem.Le.refl _) (fun u lb' _ hl=>?_) h
  rw[kK]at hl
  cases hs:s.lb u with
  |none=>simp[hs]at hl
  | some lb =>
    simp only[hs,Option.map_some,Option.some.injEq]at hl
    subst hl
    exact⟨lb,rfl,by cases lb<;>simp[LB.fade,LB.alike]⟩
theorem vR{s:St}(t:Nat){sv:SV}(h:aW s sv):aW s (sv.fade t):=by
  cases sv<;>simp only[SV.fade]<;>first
    |exact h
    | (split
       · trivial
       · exact h)
theorem Rel.fade{E:Ent}{a:Act}{w:World}{s:St}(hR:Rel E a w s)(t:Nat):Rel E a w (s.fade t):=by
  have hlb:∀{u lb'},(s.fade t).lb u=some lb'→∃lb,s.lb u=some lb∧lb'=lb.fade t:=fun {u lb'} h=>by
    rw[kK]at h
    cases hs:s.lb u with
    |none=>simp[hs]at h
    |some lb=>simp only[hs,Option.map_some,Option.some.injEq]at h;exact⟨lb,rfl,h.symm⟩
  refine⟨hR.defers,hR.size,fun i sv h=>?_,fun u r cs ty h sv hsv=>?_,⟨hR.sees.1,fun u lb' h=>?_⟩,fun u lb' h=>?_,fun u lb' r h hr=>?_,fun u u' lb' lb2' r h h' hr hr'=>?_,hR.own,hR.mono,hR.fresh,hR.grow,hR.keep,hR.os,hR.tape,hR.output⟩
  · simp only [St.fade, gU] at h
    cases hs:bD s.env i with
    |none=>simp[hs]at h
    | some x =>
      simp only[hs,Option.map_some,Option.some.injEq]at h
      subst h
      obtain⟨h1,h2⟩:=hR.env i x hs
      exact⟨by rw[SV.fade_conc];exact h1,zX t (vR t h2)⟩
  · obtain ⟨lb, h1, h2⟩ := hlb h
    cases lb<;>simp only[LB.fade]at h2<;>cases h2
    rw[gT]at hsv
    obtain⟨x,hx,rfl⟩:=List.mem_map.1 hsv
    exact zX t (vR t (hR.cells _ _ _ _ h1 x hx))
  · obtain ⟨lb, h1, rfl⟩ := hlb h
    rw[LB.fade_fits]
    exact hR.sees.2 _ _ h1
  · obtain ⟨lb, h1, rfl⟩ := hlb h
    exact hR.nxt _ _ h1
  · obtain ⟨lb, h1, rfl⟩ := hlb h
    rw[LB.fade_blk]at hr
    exact hR.place _ _ _ h1 hr
  · obtain ⟨lb, h1, rfl⟩ := hlb h
    obtain⟨lb2,h2,rfl⟩:=hlb h'
    rw[LB.fade_blk]at hr hr'
    exact hR.sep _ _ _ _ _ h1 h2 hr hr'
def SV.free(t:Nat):SV→Prop
  | .row t' _ _ _=>t'≠t
  | .rel t' _ _ _ _=>t'≠t
  |_=>True
theorem SV.fade_free(t:Nat)(sv:SV):(sv.fade t).free t:=by
  cases sv <;> simp only [SV.fade] <;> first
    |trivial
    | (split
       · trivial
       · first
         |trivial
         | (rename_i h
            intro e;subst e;simp at h))
theorem rR{s:St}{t:Nat}{lb lb':LB}{sv:SV}(hlb:s.lb t=some lb)(hrow:∃b c y e x,lb= .row b c y e x)(hf:sv.free t)(h:aW s sv):aW (s.setB t lb') sv:=by
  obtain⟨b,c,y,e,x,rfl⟩:=hrow
  cases sv with
  | loc u r off =>
    obtain⟨h1,h2⟩:=h
    refine⟨h1,fun lb2 hl=>?_⟩
    rw[cY]at hl
    split at hl
    · rename_i hu
      subst hu
      obtain⟨_,_,h3⟩:=h2 _ hlb
      cases h3
    · exact h2 _ hl
  | row u base n cap =>
    obtain⟨h1,h2⟩:=h
    refine⟨h1,fun lb2 hl=>?_⟩
    rw[cY,if_neg hf]at hl
    exact h2 _ hl
  | rel u base es i off =>
    obtain⟨h1,h2⟩:=h
    refine⟨h1,fun lb2 hl=>?_⟩
    rw[cY,if_neg hf]at hl
    exact h2 _ hl
  |elem a cs off=>exact h
  |val v=>trivial
  |kn b=>trivial
section
variable {P:Program}
theorem lF{t:TypeId}{i:TI}(hi:TIok P t i)(w:World)(r off:Nat)(cur:Array Value)(ty:TypeId)(hg:w.heap[r]? =some (.cells cur ty (0,0)))(v:Value)
    (hl:(aB v).length=i.size) (hb:off+i.size≤cur.size) (h1:∀u∈aB v,u.oneCell'=true):
    (storeVar t ⟨r,off,none⟩ v).run P w= .ok () (w.setRow r (cur.toList.take off++aB v++cur.toList.drop (off+(aB v).length)).toArray):=by
  have hsz:v.cells.size=i.size:=by rw[←hl,←aR];simp
  have:=run_storeCells_at P r off ty (aB v) 0 cur w hg (by omega) h1
  simp only[Nat.add_zero]at this
  simp[storeVar,hi.run_sizeOf,hsz,aR,this]
theorem rH(w:World)(t ty e e0:TypeId)(i:TypeInfo)(ht:P.underlying t=some (.slice e))(hi:P.info? e=some i)
    (g sLen sCap:Nat) (cur:Array Value) (hg:w.heap[g]? =some (.cells cur e0 (0,0)))
    (a:Addr) (m c:Nat) (news:List Value) (hl:news.length=m*i.size) (hnews:∀j u,news[j]? =some u→w.cell? (a.add j)=some u) (h1:∀u∈news,u.oneCell'=true)
    (hroom:sLen+m≤sCap) (hfit:sLen*i.size+news.length≤cur.size):
    (Builtin.append_ #[t,t] ty #[.slice (some ⟨g,0,none⟩) sLen sCap,.slice (some a) m c]).run P w=
      .ok (.slice (some ⟨g,0,none⟩) (sLen+m) sCap) (w.setRow g (cur.toList.take (sLen*i.size)++news++cur.toList.drop (sLen*i.size+news.length)).toArray):=by
  have hf:=run_firstCells_some (P:=P) w i.size m a m c news hl hnews
  have hst:=run_storeCells_at P g (sLen*i.size) e0 news 0 cur w hg (by simpa using hfit) h1
  simp only[Nat.add_zero]at hst
  simp[Builtin.append_,run_underlying ht,sizeOf,typeInfo,hi,Builtin.lenOf,hroom,hf,Addr.add_lit,hst]
theorem tD {t ty e e0 : TypeId} {te : TI} (ht : P.underlying t = some (.slice e)) (he : TIok P e te) (_hpos : te.size ≠ 0) (w : World) (base : Option Nat) (cap : Nat) (xs ys : List Value)
    (hfit:(LB.row base cap e0 te.size xs).fits (fun k=>w.heap[k]?)) (src:Option Addr) (c:Nat)
    (hys:∀y∈ys,(aB y).length=te.size∧∀u∈aB y,u.oneCell'=true)
    (hsrc:ys=[]∨∃a,src=some a∧∀j v,(ys.flatMap aB)[j]? =some v→w.cell? (a.add j)=some v)
    (hby:(xs.length+ys.length)*te.bytes≤140737488355328) (hmax:xs.length+ys.length≤maxLen):
    ∃ base' cap' w' e', (Builtin.append_ #[t, t] ty #[.slice (base.map fun r => ⟨r, 0, none⟩) xs.length cap, .slice src ys.length c]).run P w = .ok (.slice (base'.map fun r => ⟨r, 0, none⟩) (xs.length + ys.length) cap') w' ∧
      (LB.row base' cap' e' te.size (xs++ys)).fits (fun k=>w'.heap[k]?)∧(∀r,base'=some r→base=some r∨w.heap.size≤r)∧
      (∀k,k<w.heap.size→base≠some k→w'.heap[k]? =w.heap[k]?)∧w.heap.size≤w'.heap.size∧w'.os=w.os∧w'.tape=w.tape∧w'.output=w.output∧(base'=none→xs++ys=[])∧(∀r,base=some r→(base'=some r∨w'.heap[r]? =w.heap[r]?)∧base'≠none)∧(e'=e0∨e'=e):=by
  obtain⟨inf,hin,hsz,hbt,z,hz,hzc⟩:=he.info'
  have hzs:z.cells.size=te.zero.length:=by rw[←hzc,←aR];simp
  have flen:∀l:List Value,(∀y∈l,(aB y).length=te.size)→(l.flatMap aB).length=l.length*te.size:=by
    intro l hl
    induction l with
    |nil=>simp
    | cons y l ih =>
      simp only[List.flatMap_cons,List.length_append,List.length_cons,ih (fun y hy=>hl y (by simp[hy])),hl y (by simp),Nat.add_mul]
      omega
  have yl:=flen ys fun y hy=>(hys y hy).1
  have y1:∀u∈ys.flatMap aB,u.oneCell'=true:=fun u hu=>by
    obtain⟨y,hy,hu⟩:=List.mem_flatMap.1 hu
    exact(hys y hy).2 u hu
  by_cases hyn:ys=[]
  · subst hyn
    refine⟨base,cap,w,e0,?_,by simpa using hfit,fun r h=> .inl h,fun k _ _=>rfl,Nat.le_refl _,rfl,rfl,rfl,fun h=>?_,fun r h=>⟨.inl h,by rw[h];simp⟩,.inl rfl⟩
    · have hle : xs.length ≤ cap := by
        cases base with
        |none=>obtain⟨rfl,rfl⟩:=hfit;simp
        |some r=>exact hfit.1
      cases base<;>cases src<;>
        simp[Builtin.append_,run_underlying ht,sizeOf,typeInfo,hin,Builtin.lenOf,Builtin.firstCells,hle,storeCells,loadCells,loadCellsFrom]
    · subst h
      simpa using hfit.1
  · obtain ⟨a, ea, hsrc'⟩ := hsrc.resolve_left hyn
    subst ea
    have yp:0<ys.length:=List.length_pos_iff.2 hyn
    have h63:((xs.length+ys.length:Nat):Int)≤9223372036854775807:=by simp only[maxLen]at hmax;omega
    cases base with
    | none =>
      obtain⟨rfl,rfl⟩:=hfit
      simp only[List.length_nil,Nat.zero_add]at*
      have hr:=run_append_nil (P:=P) w t ty e inf z ht hin hz a ys.length c (ys.flatMap aB) (by rw[yl,hsz]) hsrc' yp (by omega) (by rw[hbt];omega)
      refine⟨some w.heap.size,_,_,e,hr,⟨?_,?_,by simpa using hys,_,heap_alloc_new w.drew _,?_,?_⟩,fun r h=> .inr (by simp at h;omega),fun k hk _=>Go.RowKit.Below.heap_alloc w.drew _ k hk,by simp,rfl,rfl,rfl,by simp,(fun r h=>nomatch h),.inr rfl⟩
      · simpa using grownCap_ge w ys.length 0 e
      · simpa using hmax
      · have := grownCap_ge w ys.length 0 e
        simp only[Array.size_append,List.size_toArray,size_zeroCells,yl,hzs,he.zlen]
        rw[←Nat.add_mul]
        congr 1
        omega
      · simp only [Array.toList_append, List.nil_append]
        rw[←yl]
        exact List.take_left
    | some r =>
      obtain⟨hc1,hc2,hxs,arr,hg,hs,htk⟩:=hfit
      have xl:=flen xs fun x hx=>(hxs x hx).1
      have hall:∀y∈xs++ys,(aB y).length=te.size∧∀u∈aB y,u.oneCell'=true:=fun y hy=>by
        rcases List.mem_append.1 hy with h|h
        · exact hxs y h
        · exact hys y h
      by_cases hroom:xs.length+ys.length≤cap
      · have hfit' : xs.length * inf.size + (ys.flatMap aB).length ≤ arr.size := by rw [yl, hs, hsz, ← Nat.add_mul]; exact Nat.mul_le_mul_right _ hroom
        have hr:=rH (P:=P) w t ty e e0 inf ht hin r xs.length cap arr hg a ys.length c (ys.flatMap aB) (by rw[yl,hsz]) hsrc' y1 hroom hfit'
        refine⟨some r,cap,_,e0,hr,⟨by simpa using hroom,by simpa using hmax,hall,_,setRow_heap w r arr _ e0 _ hg,?_,?_⟩,fun r' h=> .inl h,fun k _ hk=>setRow_other w r k _ (fun e=>hk (by simp[e])),by simp[World.setRow],rfl,rfl,rfl,by simp,fun r h=>⟨.inl (by cases h;rfl),by simp⟩,.inl rfl⟩
        · simp only [List.size_toArray, List.length_append, List.length_take, List.length_drop, Array.length_toList]
          omega
        · simp only [hsz, htk, List.flatMap_append]
          rw[show(xs++ys).length*te.size=(xs.flatMap aB++ys.flatMap aB).length from by simp only[List.length_append,xl,yl,Nat.add_mul]]
          exact List.take_left
      · have holds : ∀ j v, (xs.flatMap aB)[j]? = some v → w.cell? ((⟨r, 0, none⟩ : Addr).add j) = some v := fun j v hj => by
          rw[Addr.add_lit',Nat.zero_add]
          rw[←htk,List.getElem?_take]at hj
          split at hj
          · simp only [World.cell?, hg]
            simpa using hj
          · cases hj
        have hr:=run_append_grow (P:=P) w t ty e inf z ht hin hz ⟨r,0,none⟩ xs.length cap (xs.flatMap aB) (by rw[xl,hsz]) holds a ys.length c (ys.flatMap aB) (by rw[yl,hsz]) hsrc' (by omega) h63 (growslice_fits (by omega) (by rw[hbt];exact hby))
        refine⟨some w.heap.size,_,_,e,hr,⟨?_,?_,hall,_,heap_alloc_new w.drew _,?_,?_⟩,fun r h=> .inr (by simp at h;omega),fun k hk _=>Go.RowKit.Below.heap_alloc w.drew _ k hk,by simp,rfl,rfl,rfl,by simp,fun r' h=>⟨.inr (Go.RowKit.Below.heap_alloc w.drew _ r' (by cases h;exact(Array.getElem?_eq_some_iff.1 hg).1)),by simp⟩,.inr rfl⟩
        · simpa using grownCap_ge w (xs.length+ys.length) cap e
        · simpa using hmax
        · have := grownCap_ge w (xs.length + ys.length) cap e
          simp only[Array.size_append,List.size_toArray,size_zeroCells,xl,yl,hzs,he.zlen]
          rw[←Nat.add_mul,←Nat.add_mul]
          congr 1
          omega
        · simp only [Array.toList_append, List.flatMap_append, List.append_assoc]
          rw[←List.append_assoc,show(xs++ys).length*te.size=(xs.flatMap aB++ys.flatMap aB).length from by simp only[List.length_append,xl,yl,Nat.add_mul]]
          exact List.take_left
def qAz (P : Program) (e e0 : TypeId) (te : TI) (w : World) (base : Option Nat) (xs ys : List Value) (run : Sem Value) : Prop :=
    ∃ base' cap' w' e', run.run P w = .ok (.slice (base'.map fun r => ⟨r, 0, none⟩) (xs.length + ys.length) cap') w' ∧
      (LB.row base' cap' e' te.size (xs++ys)).fits (fun k=>w'.heap[k]?)∧(∀r,base'=some r→base=some r∨w.heap.size≤r)∧
      (∀k,k<w.heap.size→base≠some k→w'.heap[k]? =w.heap[k]?)∧w.heap.size≤w'.heap.size∧w'.os=w.os∧w'.tape=w.tape∧w'.output=w.output∧(base'=none→xs++ys=[])∧(∀r,base=some r→(base'=some r∨w'.heap[r]? =w.heap[r]?)∧base'≠none)∧(e'=e0∨e'=e)
theorem qFw (n : Nat) (z : Value) (hs : aB z ≠ []) : (List.replicate n z).flatMap aB = (Builtin.zeroCells z.cells n).toList := by
  have hsz:z.cells.size=(aB z).length:=by rw[←aR];simp
  have hpos:0<(aB z).length:=List.length_pos_iff.2 hs
  simp only[Builtin.zeroCells,Array.toList_map,Array.toList_range,hsz]
  induction n with
  |zero=>simp
  | succ n ih =>
    rw[List.replicate_succ,List.flatMap_cons,ih,Nat.succ_mul,Nat.add_comm,List.range_add,List.map_append,List.map_map]
    congr 1
    · apply List.ext_getElem?
      intro i
      simp only[List.getElem?_map]
      by_cases hi:i<(aB z).length
      · rw [List.getElem?_range hi]
        simp only[Option.map_some,Nat.mod_eq_of_lt hi]
        rw[getElem!_pos z.cells i (by omega)]
        have:(aB z)[i]? =z.cells[i]?:=by rw[←aR];simp
        rw[this,Array.getElem?_eq_getElem (by omega)]
      · rw [List.getElem?_eq_none (by omega), List.getElem?_eq_none (by simp; omega)]
        rfl
    · apply List.map_congr_left
      intro j _
      simp only[Function.comp_apply]
      rw[Nat.add_mod_left]
theorem rI(w:World)(t u ty e e0:TypeId)(i:TypeInfo)(z:Value)(kq kn:IntKind)(ht:P.underlying t=some (.slice e))(hu:P.underlying u=some (.int kn))(hi:P.info? e=some i)(hz:i.zero=some z)
    (g sLen sCap:Nat) (cur:Array Value) (hg:w.heap[g]? =some (.cells cur e0 (0,0)))
    (m:Nat) (news:List Value) (hn:news=(Builtin.zeroCells z.cells m).toList) (_hl:news.length=m*i.size) (h1:∀u∈news,u.oneCell'=true) (h0:0<m) (hs:0<i.size) (h63:(m:Int)≤9223372036854775807) (h48:m*i.bytes≤281474976710656)
    (hroom:sLen+m≤sCap) (hfit:sLen*i.size+news.length≤cur.size):
    (Builtin.append_ #[t,u] ty #[.slice (some ⟨g,0,none⟩) sLen sCap,.int kq m]).run P w=
      .ok (.slice (some ⟨g,0,none⟩) (sLen+m) sCap) (w.setRow g (cur.toList.take (sLen*i.size)++news++cur.toList.drop (sLen*i.size+news.length)).toArray):=by
  have hst:=run_storeCells_at P g (sLen*i.size) e0 news 0 cur w hg (by simpa using hfit) h1
  simp only[Nat.add_zero]at hst
  rw[hn]at hst
  have hk:m≠0:=by omega
  have hw:IntKind.i64.wrap (m:Int)=m:=by rw[IntKind.wrap_i64];omega
  have h48i:¬(281474976710656<(m:Int)*(i.bytes:Int)):=by
    rw[←Int.natCast_mul]
    omega
  have hneg:¬((m:Int)<0):=by omega
  have hns:¬(m*i.size=0):=Nat.mul_ne_zero hk (by omega)
  simp[Builtin.append_,run_underlying ht,run_underlying hu,sizeOf,typeInfo,zeroValue,hi,hz,asInt,asIntOf,hw,hroom,hneg,hns,h48i,Addr.add_lit,hst,hn]
theorem qB {t u ty e e0 : TypeId} {te : TI} {kn : IntKind} (kq : IntKind) (ht : P.underlying t = some (.slice e)) (hu : P.underlying u = some (.int kn)) (he : TIok P e te) (_hpos : te.size ≠ 0) (hz1 : aB (cU te) = te.zero ∧ ∀ u ∈ te.zero, u.oneCell' = true) (w : World) (base : Option Nat) (cap : Nat) (xs : List Value) (m : Nat)
    (hfit:(LB.row base cap e0 te.size xs).fits (fun k=>w.heap[k]?))
    (hby:(xs.length+(List.replicate m (cU te)).length)*te.bytes≤140737488355328) (hmax:xs.length+(List.replicate m (cU te)).length≤maxLen):
    qAz P e e0 te w base xs (List.replicate m (cU te)) (Builtin.append_ #[t,u] ty #[.slice (base.map fun r=>⟨r,0,none⟩) xs.length cap,.int kq m]):=by
  obtain⟨inf,hin,hsz,hbt,z,hz,hzc⟩:=he.info'
  have hzs:z.cells.size=te.zero.length:=by rw[←hzc,←aR];simp
  obtain⟨hzv,hz2⟩:=hz1
  have hne:aB z≠[]:=by rw[hzc];intro h;have:=he.zlen;rw[h]at this;simp at this;omega
  have hzz:(List.replicate m (cU te)).flatMap aB=(Builtin.zeroCells z.cells m).toList:=by
    have h1:(cU te).cells=z.cells:=by apply Array.ext';rw[aR,aR,hzv,hzc]
    rw[qFw m (cU te) (by rw[hzv];rw[hzc]at hne;exact hne),h1]
  generalize hyd:List.replicate m (cU te)=ys at*
  have hyl:ys.length=m:=by rw[←hyd,List.length_replicate]
  have hys:∀y∈ys,(aB y).length=te.size∧∀u∈aB y,u.oneCell'=true:=fun y hy=>by
    rw[←hyd]at hy
    obtain⟨_,rfl⟩:=List.mem_replicate.1 hy
    rw[hzv]
    exact⟨he.zlen,hz2⟩
  have flen:∀l:List Value,(∀y∈l,(aB y).length=te.size)→(l.flatMap aB).length=l.length*te.size:=by
    intro l hl
    induction l with
    |nil=>simp
    | cons y l ih =>
      simp only[List.flatMap_cons,List.length_append,List.length_cons,ih (fun y hy=>hl y (by simp[hy])),hl y (by simp),Nat.add_mul]
      omega
  have yl:=flen ys fun y hy=>(hys y hy).1
  have y1:∀u∈ys.flatMap aB,u.oneCell'=true:=fun u hu=>by
    obtain⟨y,hy,hu⟩:=List.mem_flatMap.1 hu
    exact(hys y hy).2 u hu
  rw[←hyl]at hzz ⊢
  by_cases hyn:ys=[]
  · subst hyn
    refine⟨base,cap,w,e0,?_,by simpa using hfit,fun r h=> .inl h,fun k _ _=>rfl,Nat.le_refl _,rfl,rfl,rfl,fun h=>?_,fun r h=>⟨.inl h,by rw[h];simp⟩,.inl rfl⟩
    · have hle : xs.length ≤ cap := by
        cases base with
        |none=>obtain⟨rfl,rfl⟩:=hfit;simp
        |some r=>exact hfit.1
      have hw:IntKind.i64.wrap (0:Int)=0:=by rw[IntKind.wrap_i64];rfl
      cases base<;>
        simp[Builtin.append_,run_underlying ht,run_underlying hu,sizeOf,typeInfo,hin,asInt,asIntOf,hw,hle,storeCells]
    · subst h
      simpa using hfit.1
  · have yp : 0 < ys.length := List.length_pos_iff.2 hyn
    have h63:((xs.length+ys.length:Nat):Int)≤9223372036854775807:=by simp only[maxLen]at hmax;omega
    have hby2:ys.length*te.bytes≤140737488355328:=Nat.le_trans (Nat.mul_le_mul_right _ (by omega)) hby
    cases base with
    | none =>
      obtain⟨rfl,rfl⟩:=hfit
      simp only[List.length_nil,Nat.zero_add]at*
      have hr:=Lib.run_append_nil_zeros (P:=P) w t u ty e inf z kq kn ht hu hin hz ys.length yp (by omega) (by omega) (by rw[hbt];omega)
      refine⟨some w.heap.size,_,_,e,by simpa using hr,⟨?_,?_,by simpa using hys,_,heap_alloc_new w.drew _,?_,?_⟩,fun r h=> .inr (by simp at h;omega),fun k hk _=>Go.RowKit.Below.heap_alloc w.drew _ k hk,by simp,rfl,rfl,rfl,by simp,(fun r h=>nomatch h),.inr rfl⟩
      · simpa using grownCap_ge w ys.length 0 e
      · simpa using hmax
      · have := grownCap_ge w ys.length 0 e
        simp only[Array.size_append,size_zeroCells,hzs,he.zlen]
        rw[←Nat.add_mul]
        congr 1
        omega
      · simp only [Array.toList_append, List.nil_append]
        rw[←hzz,←yl]
        exact List.take_left
    | some r =>
      obtain⟨hc1,hc2,hxs,arr,hg,hs,htk⟩:=hfit
      have xl:=flen xs fun x hx=>(hxs x hx).1
      have hall:∀y∈xs++ys,(aB y).length=te.size∧∀u∈aB y,u.oneCell'=true:=fun y hy=>by
        rcases List.mem_append.1 hy with h|h
        · exact hxs y h
        · exact hys y h
      by_cases hroom:xs.length+ys.length≤cap
      · have hfit' : xs.length * inf.size + (ys.flatMap aB).length ≤ arr.size := by rw [yl, hs, hsz, ← Nat.add_mul]; exact Nat.mul_le_mul_right _ hroom
        have hr:=rI (P:=P) w t u ty e e0 inf z kq kn ht hu hin hz r xs.length cap arr hg ys.length (ys.flatMap aB) hzz (by rw[yl,hsz]) y1 yp (by omega) (by omega) (by rw[hbt];omega) hroom hfit'
        refine⟨some r,cap,_,e0,hr,⟨by simpa using hroom,by simpa using hmax,hall,_,setRow_heap w r arr _ e0 _ hg,?_,?_⟩,fun r' h=> .inl h,fun k _ hk=>setRow_other w r k _ (fun e=>hk (by simp[e])),by simp[World.setRow],rfl,rfl,rfl,by simp,fun r h=>⟨.inl (by cases h;rfl),by simp⟩,.inl rfl⟩
        · simp only [List.size_toArray, List.length_append, List.length_take, List.length_drop, Array.length_toList]
          omega
        · simp only [hsz, htk, List.flatMap_append]
          rw[show(xs++ys).length*te.size=(xs.flatMap aB++ys.flatMap aB).length from by simp only[List.length_append,xl,yl,Nat.add_mul]]
          exact List.take_left
      · have holds : ∀ j v, (xs.flatMap aB)[j]? = some v → w.cell? ((⟨r, 0, none⟩ : Addr).add j) = some v := fun j v hj => by
          rw[Addr.add_lit',Nat.zero_add]
          rw[←htk,List.getElem?_take]at hj
          split at hj
          · simp only [World.cell?, hg]
            simpa using hj
          · cases hj
        have hold:=run_firstCells_some (P:=P) w.drew inf.size xs.length ⟨r,0,none⟩ xs.length cap (xs.flatMap aB) (by rw[xl,hsz]) (by simpa using holds)
        have hr:=Lib.run_append_grow_zeros (P:=P) w t u ty e inf z kq kn ht hu hin hz (some ⟨r,0,none⟩) xs.length cap (xs.flatMap aB) hold ys.length yp (by omega) (by omega) h63 (by rw[hbt];omega) (growslice_fits (by omega) (by rw[hbt];exact hby))
        refine⟨some w.heap.size,_,_,e,hr,⟨?_,?_,hall,_,heap_alloc_new w.drew _,?_,?_⟩,fun r h=> .inr (by simp at h;omega),fun k hk _=>Go.RowKit.Below.heap_alloc w.drew _ k hk,by simp,rfl,rfl,rfl,by simp,fun r' h=>⟨.inr (Go.RowKit.Below.heap_alloc w.drew _ r' (by cases h;exact(Array.getElem?_eq_some_iff.1 hg).1)),by simp⟩,.inr rfl⟩
        · simpa using grownCap_ge w (xs.length+ys.length) cap e
        · simpa using hmax
        · have := grownCap_ge w (xs.length + ys.length) cap e
          simp only[Array.size_append,List.size_toArray,size_zeroCells,xl,hzs,he.zlen]
          rw[←Nat.add_mul,←Nat.add_mul]
          congr 1
          omega
        · simp only [Array.toList_append, List.flatMap_append, List.append_assoc, ← hzz]
          rw[←List.append_assoc,show(xs++ys).length*te.size=(xs.flatMap aB++ys.flatMap aB).length from by simp only[List.length_append,xl,yl,Nat.add_mul]]
          exact List.take_left
theorem oJ(s:ByteArray):(aZ s).length=s.size:=Lib.strCells_length s
theorem sR(s:ByteArray):(aZ s).flatMap aB=aZ s:=by
  rw[aZ,List.flatMap_map]
  show List.flatMap (fun c:UInt8=>[Value.int .u8 c.toNat]) _=_
  rw[←List.map_eq_flatMap]
theorem qV(w:World)(t u ty e e0:TypeId)(i:TypeInfo)(ht:P.underlying t=some (.slice e))(hu:P.underlying u=some .string)(hi:P.info? e=some i)(hs1:i.size=1)
    (g sLen sCap:Nat) (cur:Array Value) (hg:w.heap[g]? =some (.cells cur e0 (0,0))) (s:ByteArray)
    (hroom:sLen+s.size≤sCap) (hfit:sLen+s.size≤cur.size):
    (Builtin.append_ #[t,u] ty #[.slice (some ⟨g,0,none⟩) sLen sCap,.string s]).run P w=
      .ok (.slice (some ⟨g,0,none⟩) (sLen+s.size) sCap) (w.setRow g (cur.toList.take sLen++aZ s++cur.toList.drop (sLen+s.size)).toArray):=by
  have hf:=Lib.run_firstCells_string (P:=P) w 1 s
  have hst:=run_storeCells_at P g sLen e0 (Lib.strCells s) 0 cur w hg (by simpa[Lib.strCells_length]using hfit) (Lib.strCells_oneCell s)
  simp only[Nat.add_zero,Lib.strCells_length]at hst
  show _=Result.ok _ (w.setRow g (cur.toList.take sLen++Lib.strCells s++cur.toList.drop (sLen+s.size)).toArray)
  simp[Builtin.append_,run_underlying ht,run_underlying hu,sizeOf,typeInfo,hi,hs1,Builtin.lenOf,hroom,hf,Addr.add_lit,hst]
theorem sZ {t u ty e e0 : TypeId} {te : TI} (ht : P.underlying t = some (.slice e)) (hu : P.underlying u = some .string) (he : TIok P e te) (h1 : te.size = 1) (w : World) (base : Option Nat) (cap : Nat) (xs : List Value) (s : ByteArray)
    (hfit:(LB.row base cap e0 te.size xs).fits (fun k=>w.heap[k]?))
    (hby:(xs.length+(aZ s).length)*te.bytes≤140737488355328) (hmax:xs.length+(aZ s).length≤maxLen):
    qAz P e e0 te w base xs (aZ s) (Builtin.append_ #[t,u] ty #[.slice (base.map fun r=>⟨r,0,none⟩) xs.length cap,.string s]):=by
  obtain⟨inf,hin,hsz,hbt,z,hz,hzc⟩:=he.info'
  have hzs:z.cells.size=te.zero.length:=by rw[←hzc,←aR];simp
  have hzl:=he.zlen
  have hl:=oJ s
  have hfl:=sR s
  have hys:∀y∈aZ s,(aB y).length=te.size∧∀u∈aB y,u.oneCell'=true:=fun y hy=>by
    obtain⟨b,_,rfl⟩:=List.mem_map.1 hy
    refine⟨h1.symm,fun u hu=>?_⟩
    obtain rfl:=List.mem_singleton.1 hu
    rfl
  have flen:∀l:List Value,(∀y∈l,(aB y).length=te.size)→(l.flatMap aB).length=l.length:=by
    intro l hl
    induction l with
    |nil=>simp
    | cons y l ih =>
      simp only[List.flatMap_cons,List.length_append,List.length_cons,ih (fun y hy=>hl y (by simp[hy])),hl y (by simp),h1]
      omega
  have hi1:inf.size=1:=by rw[hsz,h1]
  have hzone:z.cells.size=1:=by rw[hzs,hzl,h1]
  rw[hl]at hby hmax
  by_cases hyn:s.size=0
  · have he0 : aZ s = [] := List.length_eq_zero_iff.1 (by rw [hl, hyn])
    rw[he0]
    refine⟨base,cap,w,e0,?_,by simpa using hfit,fun r h=> .inl h,fun k _ _=>rfl,Nat.le_refl _,rfl,rfl,rfl,fun h=>?_,fun r h=>⟨.inl h,by rw[h];simp⟩,.inl rfl⟩
    · have hle : xs.length ≤ cap := by
        cases base with
        |none=>obtain⟨rfl,rfl⟩:=hfit;simp
        |some r=>exact hfit.1
      have hc0:(Lib.strCells s)=[]:=he0
      have hf:=Lib.run_firstCells_string (P:=P) w inf.size s
      rw[hyn,hc0]at hf
      cases base<;>
        simp[Builtin.append_,run_underlying ht,run_underlying hu,sizeOf,typeInfo,hin,Builtin.lenOf,hyn,hf,hle,storeCells]
    · subst h
      simpa using hfit.1
  · have yp : 0 < s.size := by omega
    have h63:((xs.length+s.size:Nat):Int)≤9223372036854775807:=by simp only[maxLen]at hmax;omega
    have hsc:(s.data.map fun b=>Value.int .u8 b.toNat)=(aZ s).toArray:=by apply Array.ext';simp[aZ]
    cases base with
    | none =>
      obtain⟨rfl,rfl⟩:=hfit
      simp only[List.length_nil,Nat.zero_add]at*
      have hr:=run_append_nil_string (P:=P) w t u ty e inf z ht hu hin hz s yp (by omega) (by rw[hbt];omega)
      rw[hsc]at hr
      refine⟨some w.heap.size,_,_,e,by rw[hl,List.length_nil,Nat.zero_add];exact hr,⟨?_,?_,by simpa using hys,_,heap_alloc_new w.drew _,?_,?_⟩,fun r h=> .inr (by simp at h;omega),fun k hk _=>Go.RowKit.Below.heap_alloc w.drew _ k hk,by simp,rfl,rfl,rfl,by simp,(fun r h=>nomatch h),.inr rfl⟩
      · rw[List.nil_append,hl];simpa using grownCap_ge w s.size 0 e
      · rw[List.nil_append,hl];exact hmax
      · have := grownCap_ge w s.size 0 e
        simp only[Array.size_append,List.size_toArray,size_zeroCells,hl,hzone,h1]
        omega
      · simp only [Array.toList_append, List.nil_append, hl, h1, Nat.mul_one, hfl]
        rw[←hl]
        exact List.take_left
    | some r =>
      obtain⟨hc1,hc2,hxs,arr,hg,hs,htk⟩:=hfit
      rw[h1,Nat.mul_one]at hs htk
      have xl:=flen xs fun x hx=>(hxs x hx).1
      have hall:∀y∈xs++aZ s,(aB y).length=te.size∧∀u∈aB y,u.oneCell'=true:=fun y hy=>by
        rcases List.mem_append.1 hy with h|h
        · exact hxs y h
        · exact hys y h
      have hxl:(xs++aZ s).length=(xs.flatMap aB++aZ s).length:=by rw[List.length_append,List.length_append,xl]
      by_cases hroom:xs.length+s.size≤cap
      · have hr := qV (P := P) w t u ty e e0 inf ht hu hin hi1 r xs.length cap arr hg s hroom (by omega)
        refine⟨some r,cap,_,e0,by rw[hl];exact hr,⟨by rw[List.length_append,hl];exact hroom,by rw[List.length_append,hl];exact hmax,hall,_,setRow_heap w r arr _ e0 _ hg,?_,?_⟩,fun r' h=> .inl h,fun k _ hk=>setRow_other w r k _ (fun e=>hk (by simp[e])),by simp[World.setRow],rfl,rfl,rfl,by simp,fun r h=>⟨.inl (by cases h;rfl),by simp⟩,.inl rfl⟩
        · simp only [List.size_toArray, List.length_append, List.length_take, List.length_drop, Array.length_toList, hl, h1]
          omega
        · rw [h1, Nat.mul_one, List.flatMap_append, hfl, htk, hxl]
          exact List.take_left
      · have holds : ∀ j v, (xs.flatMap aB)[j]? = some v → w.cell? ((⟨r, 0, none⟩ : Addr).add j) = some v := fun j v hj => by
          rw[Addr.add_lit',Nat.zero_add]
          rw[←htk,List.getElem?_take]at hj
          split at hj
          · simp only [World.cell?, hg]
            simpa using hj
          · cases hj
        have hr:=Lib.run_append_grow_string (P:=P) w t u ty e inf z ht hu hin hz ⟨r,0,none⟩ xs.length cap (xs.flatMap aB) (by rw[xl,hi1,Nat.mul_one]) holds s (by omega) h63 (growslice_fits (by omega) (by rw[hbt];exact hby))
        refine⟨some w.heap.size,_,_,e,by rw[hl];exact hr,⟨?_,?_,hall,_,heap_alloc_new w.drew _,?_,?_⟩,fun r h=> .inr (by simp at h;omega),fun k hk _=>Go.RowKit.Below.heap_alloc w.drew _ k hk,by simp,rfl,rfl,rfl,by simp,fun r' h=>⟨.inr (Go.RowKit.Below.heap_alloc w.drew _ r' (by cases h;exact(Array.getElem?_eq_some_iff.1 hg).1)),by simp⟩,.inr rfl⟩
        · rw[List.length_append,hl];simpa using grownCap_ge w (xs.length+s.size) cap e
        · rw[List.length_append,hl];exact hmax
        · have := grownCap_ge w (xs.length + s.size) cap e
          simp only[Array.size_append,List.size_toArray,size_zeroCells,xl,Lib.strCells_length,hzone,h1]
          omega
        · rw [h1, Nat.mul_one, List.flatMap_append, hfl, hxl]
          simp only[Array.toList_append,List.append_assoc]
          rw[←List.append_assoc]
          exact List.take_left
end
end Go.Vx
namespace Go.Vx
theorem fH{es:Nat}:∀l:List Value,(∀y∈l,(aB y).length=es)→(l.flatMap aB).length=l.length*es
 |[],_=>by simp
 |y::l,hl=>by
  simp only[List.flatMap_cons,List.length_append,List.length_cons,fH l (fun y hy=>hl y (by simp[hy])),hl y (by simp),Nat.add_mul]
  omega
theorem qDb{es off:Nat}{nv:Value}{vs:List Value}:∀(xs:List Value) (j:Nat) (v:Value),(∀y∈xs,(aB y).length=es)→xs[j]? =some v→off+vs.length≤es→
  aB nv=(aB v).take off++vs++(aB v).drop (off+vs.length)→
  (xs.set j nv).flatMap aB=(xs.flatMap aB).take (j*es+off)++vs++(xs.flatMap aB).drop (j*es+off+vs.length)
 |[],j,v,_,h,_,_=>by simp at h
 |x::xs,0,v,hl,h,hb,hn=>by
  simp only[List.getElem?_cons_zero,Option.some.injEq]at h
  subst h
  have hx:=hl x (by simp)
  simp only[List.set_cons_zero,List.flatMap_cons,Nat.zero_mul,Nat.zero_add,hn]
  rw[List.take_append_of_le_length (by omega),List.drop_append_of_le_length (by omega)]
  simp[List.append_assoc]
 |x::xs,j+1,v,hl,h,hb,hn=>by
  have hx:=hl x (by simp)
  have ih:=qDb xs j v (fun y hy=>hl y (by simp[hy])) (by simpa using h) hb hn
  simp only[List.set_cons_succ,List.flatMap_cons,ih]
  rw[show(j+1)*es+off=(aB x).length+(j*es+off)from by rw[hx,Nat.add_mul,Nat.one_mul];omega,List.take_length_add_append,
   show(aB x).length+(j*es+off)+vs.length=(aB x).length+(j*es+off+vs.length)from by omega,List.drop_length_add_append]
  simp[List.append_assoc]
theorem arr_set{arr flat vs:List Value}{A n:Nat}(ht:arr.take n=flat)(hf:flat.length=n)(hA:A+vs.length≤n):
  (arr.take A++vs++arr.drop (A+vs.length)).take n=flat.take A++vs++flat.drop (A+vs.length):=by
 have e:arr=flat++arr.drop n:=by rw[←ht];simp
 generalize arr.drop n=rest at e
 subst e
 have e1:(flat++rest).take A=flat.take A:=List.take_append_of_le_length (by omega)
 have e2:(flat++rest).drop (A+vs.length)=flat.drop (A+vs.length)++rest:=List.drop_append_of_le_length (by omega)
 rw[e1,e2,←List.append_assoc]
 have hl:(flat.take A++vs++flat.drop (A+vs.length)).length=n:=by simp;omega
 rw[←hl]
 exact List.take_left
section
variable {C:Cx} {E:Ent} {s:St} {a:Act} {w:World}
theorem vals_ok(s:St):∀(l:List Value) (sv:SV),sv∈vals l→aW s sv
 |[],_,h=>by simp[vals]at h
 |v::l,sv,h=>by
  cases v<;>(simp only[vals,List.mem_cons]at h;rcases h with rfl|h<;>first|exact trivial|exact vals_ok s l sv h)
theorem uU{x:SV}(hx:aW s x):∀sv∈cellsOf x,aW s sv:=by
 unfold cellsOf
 split
 ·exact vals_ok s _
 ·simpa using hx
theorem qP{t:Nat}{lb lb':LB}{sv:SV}(hlb:s.lb t=some lb)(hal:lb.alike lb')(h:aW s sv):aW (s.setB t lb') sv:=by
 refine eF (s:=s) (Nat.le_refl _) (Mem.Le.refl _) (fun u lb2 _ hl=>?_) h
 rw[cY]at hl
 split at hl
 ·rename_i hu;subst hu;cases hl;exact⟨lb,hlb,hal⟩
 ·exact⟨lb2,hl,lb2.alike_refl⟩
theorem Rel.setAlike{w':World}(hR:Rel E a w s){t:Nat}{lb lb':LB}(hlb:s.lb t=some lb)(hal:lb.alike lb')(hblk:lb'.blk? =lb.blk?)
  (hcs:∀r cs ty,lb'= .cells r cs ty→∀sv∈cs,aW s sv) (hfit:lb'.fits (fun b=>w'.heap[b]?)) (hkeep:∀b,lb.blk?≠some b→w'.heap[b]? =w.heap[b]?)
  (hsize:w.heap.size≤w'.heap.size) (os:w'.os=w.os) (tape:w'.tape=w.tape) (output:w'.output=w.output):Rel E a w' (s.setB t lb'):=by
 refine hR.change t lb' (fun k=>cY s t lb' k) rfl rfl (Nat.le_refl _) (hR.nxt _ _ hlb) (fun i sv h=>?_) (fun u r cs ty h sv hsv=>?_) hfit (fun r hr=> .inl ⟨lb,hlb,by rw[←hblk];exact hr⟩) (fun b _ hb=>hkeep b (hb lb hlb)) hsize os tape output
 ·obtain ⟨h1, h2⟩ := hR.env i sv h
  exact⟨h1,qP hlb hal h2⟩
 ·rw [cY] at h
  split at h
  ·exact qP hlb hal (hcs r cs ty (by simpa using h) sv hsv)
  ·exact qP hlb hal (hR.cells u r cs ty h sv hsv)
theorem qJv{α:Type}{l:List α}{K:α→Prop}(h:xM l K):∃x,l=[x]∧K x:=by
 unfold xM at h
 split at h
 ·exact⟨_,rfl,h⟩
 ·exact h.elim
def SV.tag?:SV→Option Nat
 | .loc t _ _=>some t
 | .rel t _ _ _ _=>some t
 |_=>none
structure Evo (w:World) (s:St) (w':World) (s':St) (mods:List Nat) (ow:Bool):Prop where
 keep:∀b,b<w.heap.size→(∀t,t∈mods→∀lb,s.lb t=some lb→lb.blk?≠some b)→(ow=true→s.own b=none)→w'.heap[b]? =w.heap[b]?
 size:w.heap.size≤w'.heap.size
 le:s.mem.Le s'.mem
 out:∀r,r<w.heap.size→s.mem r=none→s.own r=none→(∀t lb,s.lb t=some lb→lb.blk?≠some r)→s'.mem r=none∧s'.own r=none∧∀t lb,s'.lb t=some lb→lb.blk?≠some r
 own:ow=false→s'.own=s.own
 nxt:s.nxt≤s'.nxt
 stay:∀t lb',t<s.nxt→s'.lb t=some lb'→∃lb,s.lb t=some lb∧(lb.alike lb'∨(t∈mods∧(∃b c y e x,lb= .row b c y e x)∧∃b c y e x,lb'= .row b c y e x))
 envs:∀d sv,bD s'.env d=some sv→bD s.env d=some sv∨((∃v,sv= .val v)∧bD s.env d≠none)
 alive:∀t r cs ty,s.lb t=some (.cells r cs ty)→(∃cs' ty',s'.lb t=some (.cells r cs' ty'))∨s'.mem r≠none
theorem Evo.refl(w:World)(s:St)(m:List Nat)(ow:Bool):Evo w s w s m ow:=⟨fun _ _ _ _=>rfl,Nat.le_refl _,Mem.Le.refl _,fun _ _ h1 h2 h3=>⟨h1,h2,h3⟩,fun _=>rfl,Nat.le_refl _,fun _ lb _ h=>⟨lb,h,.inl lb.alike_refl⟩,fun _ _ h=> .inl h,fun _ _ _ _ h=> .inl ⟨_,_,h⟩⟩
theorem Evo.newB(w:World)(s:St)(m:List Nat)(ow:Bool){o:Obj}{lb:LB}(hn:∀t lb,s.lb t=some lb→t<s.nxt)(hb:∀r,lb.blk? =some r→w.heap.size≤r):Evo w s (w.alloc o) (s.newB lb) m ow:=
 ⟨fun b hb _ _ => Go.RowKit.Below.heap_alloc w o b hb, by simp, Mem.Le.refl _, fun r hr h1 h0 h2 => ⟨h1, h0, fun t lb' h hr' => by
  rw[cP]at h
  split at h
  ·cases h;have:=hb r hr';omega
  ·exact h2 t lb' h hr'⟩,fun _=>rfl,Nat.le_succ _,fun t lb' ht h=>⟨lb',by rw[cP,if_neg (by omega)]at h;exact h,.inl lb'.alike_refl⟩,fun _ _ h=> .inl h,fun t r cs ty h=> .inl ⟨cs,ty,by rw[cP,if_neg (by have:=hn _ _ h;omega)];exact h⟩⟩
theorem Evo.setB{w w':World}{s:St}{ow:Bool}{t:Nat}{lb lb':LB}(hlb:s.lb t=some lb)(hal:lb.alike lb')(hblk:lb'.blk? =lb.blk?)(hkeep:∀b,lb.blk?≠some b→w'.heap[b]? =w.heap[b]?)(hsize:w.heap.size≤w'.heap.size):Evo w s w' (s.setB t lb') [t] ow:=
 ⟨fun b _ h _ => hkeep b (h t (by simp) lb hlb), hsize, Mem.Le.refl _, fun r hr h1 h0 h2 => ⟨h1, h0, fun u lb2 h hr' => by
  rw[cY]at h
  split at h
  ·cases h;rw[hblk]at hr';exact h2 t lb hlb hr'
  ·exact h2 u lb2 h hr'⟩, fun _ => rfl, Nat.le_refl _, fun u lb2 _ h => by
   rw[cY]at h
   split at h
   ·rename_i e;subst e;cases h;exact⟨lb,hlb,.inl hal⟩
   ·exact⟨lb2,h,.inl lb2.alike_refl⟩,fun _ _ h=> .inl h,fun u r cs ty h=> .inl (by
   rw[cY]
   split
   ·rename_i e
    subst e
    rw[hlb]at h
    cases h
    cases lb'<;>simp only[LB.alike]at hal
    subst hal
    exact⟨_,_,rfl⟩
   ·exact⟨cs,ty,h⟩)⟩
theorem Evo.chown{w w':World}{s:St}{h':Mem}(m:List Nat)(_hR:Rel E a w s)(hnew:∀b,h' b≠none→s.own b≠none∨w.heap.size≤b)(hkeep:∀b,b<w.heap.size→s.own b=none→w'.heap[b]? =w.heap[b]?)(hsize:w.heap.size≤w'.heap.size):Evo w s w' {s with own:=h'} m true:=by
 have hno:∀r,r<w.heap.size→s.own r=none→h' r=none:=fun r hr h0=>by
  cases ho:h' r with
  |none=>rfl
  |some o=>
   rcases hnew r (by simp[ho])with h|h
   ·exact absurd h0 h
   ·omega
 exact⟨fun b hb _ h=>hkeep b hb (h rfl),hsize,Mem.Le.refl _,fun r hr h1 h0 h2=>⟨h1,hno r hr h0,h2⟩,fun h=>(nomatch h),Nat.le_refl _,fun t lb' _ h=>⟨lb',h,.inl lb'.alike_refl⟩,fun _ _ h=> .inl h,fun t r cs ty h=> .inl ⟨cs,ty,h⟩⟩
def svOw(s:St):SV→Bool
 | .loc t _ _=>(s.lb t).isNone
 | .rel t _ _ _ _=>(s.lb t).isNone
 |_=>true
theorem Mem.set_get(h:Mem)(r:Nat)(o:Obj)(b:Nat):h.set r o b=if b=r then some o else h b:=rfl
theorem rN(hR:Rel E a w s){t:TypeId}{ti:TI}(hi:TIok C.P t ti){ad:Addr}{x:Value}(hlen:(aB x).length=ti.size)(hone:∀u∈aB x,u.oneCell'=true){K:St→Prop}
  (h:stoVC s.own ad (aB x) fun h=>rC s h K) (m:List Nat):
  ∃s' w',K s'∧Rel E a w' s'∧(Instr.storeAt t (.pointer (some ad)) x).run C.P w= .ok () w'∧Evo w s w' s' m true:=by
 obtain⟨cs,ty,h1,h2,h3,h4⟩:=qNr h
 obtain⟨r,off,spot⟩:=ad
 simp only at h1 h2 h3 h4
 subst h2
 have hg:=hR.own.1 r _ h1
 have hrun:=lF hi w r off _ ty hg x hlen (by rw[←hlen];simpa using h3) hone
 have e0:(Instr.storeAt t (.pointer (some ⟨r,off,none⟩)) x).run C.P w=(storeVar t ⟨r,off,none⟩ x).run C.P w:=by simp[Instr.storeAt,Instr.sureAddr]
 have h5:K {s with own:=s.own.set r (.cells (List.toArray (cs.take off++aB x++cs.drop (off+(aB x).length))) ty (0,0))}:=by
  cases s;exact h4
 have hnew:∀b,(s.own.set r (.cells (List.toArray (cs.take off++aB x++cs.drop (off+(aB x).length))) ty (0,0))) b≠none→s.own b≠none∨w.heap.size≤b:=fun b hb=>by
  rw[Mem.set_get]at hb
  split at hb
  ·rename_i e;subst e;exact .inl (by rw[h1];simp)
  ·exact .inl hb
 have hkeep:∀b,b<w.heap.size→s.own b=none→∀z,(w.setRow r z).heap[b]? =w.heap[b]?:=fun b _ hb z=>setRow_other w r b z (fun e=>by subst e;rw[h1]at hb;cases hb)
 refine⟨_,_,h5,hR.chown (fun b o hb=>?_) hnew (fun b h h'=>hkeep b h h' _) (by simp[World.setRow]) rfl rfl rfl,e0.trans hrun,Evo.chown m hR hnew (fun b h h'=>hkeep b h h' _) (by simp[World.setRow])⟩
 rw[Mem.set_get]at hb
 split at hb
 ·rename_i e
  subst e
  cases hb
  rw[setRow_heap w b _ _ ty (0,0) hg]
 ·rename_i e
  rw[setRow_other w r b _ e]
  exact hR.own.1 b o hb
theorem qAq(htt:TTok C.P C.tt)(hR:Rel E a w s){t:TypeId}{ad x:SV}(ha:aW s ad)(hx:aW s x){K:St→Prop}(h:qNu C s t ad x K):
  ∃s' w',K s'∧Rel E a w' s'∧(Instr.storeAt t ad.conc x.conc).run C.P w= .ok () w'∧Evo w s w' s' ad.tag?.toList (svOw s ad):=by
 obtain⟨ti,h1,h2⟩:=aO h
 have hi:=htt.get h1
 rw[rU]at h2
 obtain⟨hlen,h3⟩:=kO _ _ _ h2
 rw[dB,dU]at h3
 obtain⟨hone,h4⟩:=dI _ _ h3
 have hlen':(aB x.conc).length=ti.size:=by rw[←dU];simpa using hlen
 have e0:∀ad v,(Instr.storeAt t (.pointer (some ad)) v).run C.P w=(storeVar t ad v).run C.P w:=fun _ _=>by simp[Instr.storeAt,Instr.sureAddr]
 split at h4
 ·split at h4
  ·rename_i tag r off _ r' cs ty hlb
   obtain⟨_,_,e⟩:=ha.2 _ hlb
   obtain rfl:r'=r:=by cases e;rfl
   clear e
   obtain⟨hb,hk⟩:=kF _ _ _ _ h4
   rw[pU]at hk
   have hf:w.heap[r']? =some (.cells (cs.map SV.conc).toArray ty (0,0)):=hR.sees.2 _ _ hlb
   have hrun:=lF hi w r' off _ ty hf x.conc hlen' (by simp;omega) hone
   refine⟨_,_,hk,hR.setAlike hlb rfl rfl (fun r2 cs2 ty2 e sv hsv=>?_) ?_ (fun b hb=>setRow_other w r' b _ (fun e=>hb (by simp[LB.blk?,e]))) (by simp[World.setRow]) rfl rfl rfl,(e0 _ _).trans hrun,Evo.setB hlb rfl rfl (fun b hb=>setRow_other w r' b _ (fun e=>hb (by simp[LB.blk?,e]))) (by simp[World.setRow])⟩
   ·cases e
    simp only[List.mem_append]at hsv
    rcases hsv with(hsv|hsv)|hsv
    ·exact hR.cells _ _ _ _ hlb _ (List.mem_of_mem_take hsv)
    ·exact uU hx _ hsv
    ·exact hR.cells _ _ _ _ hlb _ (List.mem_of_mem_drop hsv)
   ·simp only [LB.fits]
    rw[setRow_heap w r' _ _ ty (0,0) hf]
    simp only[List.map_append,List.map_take,List.map_drop,dU]
    rw[show(cellsOf x).length=(aB x.conc).length from by rw[←dU];simp]
  ·exact h4.elim
  ·rename_i tag r off _ hlb
   have:svOw s (.loc tag r off)=true:=by simp[svOw,hlb]
   rw[this]
   exact rN hR hi hlen' hone h4 _
 ·exact rN hR hi hlen' hone h4 _
 ·split at h4
  ·rename_i tag base es0 j off _ base' cap ty es xs hlb
   obtain⟨hax1,hax⟩:=ha
   obtain⟨_,_,xs2,e,hjlt⟩:=hax _ hlb
   obtain rfl:base'=base:=by cases e;rfl
   obtain rfl:es=es0:=by cases e;rfl
   obtain rfl:xs=xs2:=by cases e;rfl
   clear e
   obtain⟨v,hv,h5⟩:=uB h4
   obtain⟨hb,hk⟩:=kF _ _ _ _ h5
   have hfit:=hR.sees.2 _ _ hlb
   cases base' with
   |none=>obtain⟨rfl,_⟩:=hfit;simp at hjlt
   |some r=>
    obtain⟨hc1,hc2,hxs,arr,hg,hsz,htk⟩:=hfit
    have hvl:=(hxs v (List.mem_of_getElem? hv)).1
    have hv1:=(hxs v (List.mem_of_getElem? hv)).2
    have fl:=fH xs fun y hy=>(hxs y hy).1
    have hjes:j*es+es≤xs.length*es:=by
     have:(j+1)*es≤xs.length*es:=Nat.mul_le_mul_right _ (by omega)
     rw[Nat.add_mul,Nat.one_mul]at this
     exact this
    have hcap:xs.length*es≤arr.size:=by rw[hsz];exact Nat.mul_le_mul_right _ hc1
    have hrun:=lF hi w r (j*es+off) arr ty hg x.conc hlen' (by omega) hone
    have fin:∀nv:Value,aB nv=(aB v).take off++aB x.conc++(aB v).drop (off+(aB x.conc).length)→K (s.setB tag (.row (some r) cap ty es (xs.set j nv)))→
      ∃s' w',K s'∧Rel E a w' s'∧(Instr.storeAt t (SV.rel tag (some r) es j off).conc x.conc).run C.P w= .ok () w'∧Evo w s w' s' (SV.rel tag (some r) es j off).tag?.toList (svOw s (SV.rel tag (some r) es j off)):=by
     intro nv hnv hK
     refine⟨_,_,hK,hR.setAlike hlb ⟨rfl,rfl,rfl,by simp⟩ rfl (fun _ _ _ e=>by cases e) ?_ (fun b hb=>setRow_other w r b _ (fun e=>hb (by simp[LB.blk?,e]))) (by simp[World.setRow]) rfl rfl rfl,(e0 _ _).trans hrun,Evo.setB hlb ⟨rfl,rfl,rfl,by simp⟩ rfl (fun b hb=>setRow_other w r b _ (fun e=>hb (by simp[LB.blk?,e]))) (by simp[World.setRow])⟩
     refine⟨by simpa using hc1,(by simpa using hc2),fun y hy=>?_,_,setRow_heap w r arr _ ty (0,0) hg,?_,?_⟩
     ·rcases List.mem_or_eq_of_mem_set hy with h | rfl
      ·exact hxs y h
      ·rw [hnv]
       refine⟨by simp;omega,fun u hu=>?_⟩
       simp only[List.mem_append]at hu
       rcases hu with(hu|hu)|hu
       ·exact hv1 u (List.mem_of_mem_take hu)
       ·exact hone u hu
       ·exact hv1 u (List.mem_of_mem_drop hu)
     ·simp;omega
     ·rw [qDb xs j v (fun y hy => (hxs y hy).1) hv (by omega) hnv, List.length_set]
      exact arr_set htk fl (by omega)
    split at hk
    ·rename_i cs
     rw[pU]at hk
     exact fin _ (by simp[aB]) hk
    ·rename_i hne
     obtain⟨c,hc,hk⟩:=qJv hk
     rw[pU]at hk
     have h1:es=1:=by
      have:aB v=[v]:=by cases v<;>first|rfl|exact absurd rfl (hne _)
      rw[this]at hvl;simpa using hvl.symm
     refine fin c ?_ hk
     have hvv:aB v=[v]:=by cases v<;>first|rfl|exact absurd rfl (hne _)
     rw[hc]
     have hcm:c∈aB x.conc∨c=v:=by
      have:c∈(aB v).take off++aB x.conc++(aB v).drop (off+(aB x.conc).length):=by rw[hc];simp
      simp only[List.mem_append,hvv]at this
      rcases this with(h|h)|h
      ·exact .inr (by simpa using List.mem_of_mem_take h)
      ·exact .inl h
      ·exact .inr (by simpa using List.mem_of_mem_drop h)
     have hc1:c.oneCell'=true:=by
      rcases hcm with h|rfl
      ·exact hone c h
      ·exact hv1 _ (by rw[hvv];simp)
     cases c<;>first|rfl|(simp[Value.oneCell']at hc1;done)
  ·exact h4.elim
 ·exact h4.elim
end
end Go.Vx
namespace Go.Vx
section
variable {C:Cx} {E:Ent} {s:St} {a:Act} {w:World}
theorem dK(w:World)(o:Obj):(w.alloc o).heap[w.heap.size]? =some o:=heap_alloc_new w o
theorem qGn (hR : Rel E a w s) {es : Nat} {y : SV} (hy : aW s y) {K : List Value → Prop} (h : srcK s es y K) :
    ∃ ys src c, K ys ∧ y.conc = .slice src ys.length c ∧ (∀ y ∈ ys, (aB y).length = es ∧ ∀ u ∈ aB y, u.oneCell' = true) ∧
      (ys=[]∨∃a,src=some a∧∀j v,(ys.flatMap aB)[j]? =some v→w.cell? (a.add j)=some v):=by
  have frozen:∀(src:Option Addr) (n c:Nat) (h:srcVC s.mem src n es K),∃ys,K ys∧Value.slice src n c= .slice src ys.length c∧(∀y∈ys,(aB y).length=es∧∀u∈aB y,u.oneCell'=true)∧
      (ys=[]∨∃a,src=some a∧∀j v,(ys.flatMap aB)[j]? =some v→w.cell? (a.add j)=some v):=by
    intro src n c h
    obtain⟨ys,⟨hl,hc,hs⟩,hk⟩:=qNp h
    refine⟨ys,hk,by rw[hl],hc,?_⟩
    rcases hs with h0|⟨ad,ha,hj⟩
    · exact .inl (List.eq_nil_of_length_eq_zero (by omega))
    · exact .inr ⟨ad,ha,fun j v hv=>hR.sees.1.cell (hj j v hv)⟩
  unfold srcK at h
  split at h
  · rename_i tag base n cap
    split at h
    · rename_i b' c' ty es' ys hlb
      split at h
      · rename_i hes
        have hes:=Nat.eq_of_beq_eq_true hes
        subst hes
        obtain⟨_,hy2⟩:=hy
        obtain⟨_,_,_,e,hn⟩:=hy2 _ hlb
        cases e
        have hfit:=hR.sees.2 _ _ hlb
        cases base with
        | none =>
          obtain⟨rfl,rfl⟩:=hfit
          exact⟨[],none,0,h,by simp[SV.conc,hn],by simp,.inl rfl⟩
        | some r =>
          obtain⟨_,_,hxs,arr,hg,hsz,htk⟩:=hfit
          refine⟨ys,some ⟨r,0,none⟩,cap,h,by simp[SV.conc,hn],hxs,.inr ⟨_,rfl,fun j v hj=>?_⟩⟩
          rw[Addr.add_lit',Nat.zero_add]
          rw[←htk,List.getElem?_take]at hj
          split at hj
          · simp only [World.cell?, hg]
            simpa using hj
          · cases hj
      · exact h.elim
    · exact h.elim
    · obtain ⟨ys, h1, h2, h3, h4⟩ := frozen _ _ cap h
      exact⟨ys,_,cap,h1,h2,h3,h4⟩
  · rename_i src n c
    obtain⟨ys,h1,h2,h3,h4⟩:=frozen _ _ c h
    exact⟨ys,_,c,h1,h2,h3,h4⟩
  · exact h.elim
def apOw:SV→Bool
  | .val (.slice (some _) _ _)=>true
  |_=>false
def qX:SV→List Nat
  | .row t _ _ _=>[t]
  |_=>[]
theorem qCu{base:Option Nat}{cap:Nat}{ty:TypeId}{es:Nat}{xs ys:List Value}{h:Nat→Option Obj}(k:(LB.row base cap ty es (xs++ys)).fits h):xs.length+ys.length≤cap:=by
  rw[←List.length_append]
  cases base with
  |none=>rw[k.1];exact Nat.zero_le _
  |some r=>exact k.1
theorem sB{P:Program}{e:TypeId}{te:TI}{w:World}{base:Option Nat}{xs ys:List Value}{run:Sem Value}(h:qAz P e e te w base xs ys run):
    ∃ base' cap' w', run.run P w = .ok (.slice (base'.map fun r => ⟨r, 0, none⟩) (xs.length + ys.length) cap') w' ∧
      (LB.row base' cap' e te.size (xs++ys)).fits (fun k=>w'.heap[k]?)∧(∀r,base'=some r→base=some r∨w.heap.size≤r)∧
      (∀k,k<w.heap.size→base≠some k→w'.heap[k]? =w.heap[k]?)∧w.heap.size≤w'.heap.size∧w'.os=w.os∧w'.tape=w.tape∧w'.output=w.output∧(base'=none→xs++ys=[])∧(∀r,base=some r→(base'=some r∨w'.heap[r]? =w.heap[r]?)∧base'≠none):=by
  obtain⟨base',cap',w',e',h1,h2,h3,h4,h5,h6,h7,h8,h9,h10,h11⟩:=h
  have:e'=e:=h11.elim id id
  subst this
  exact⟨base',cap',w',h1,h2,h3,h4,h5,h6,h7,h8,h9,h10⟩
theorem iP (hR : Rel E a w s) {T : Array TypeId} {ty e : TypeId} {te : TI} {x : SV} {yv : Value} {ys : List Value} (hx : aW s x)
    (hG:∀(e0:TypeId) (base:Option Nat) (cap:Nat) (xs:List Value),(LB.row base cap e0 te.size xs).fits (fun k=>w.heap[k]?)→(xs.length+ys.length)*te.bytes≤140737488355328→xs.length+ys.length≤maxLen→
      qAz C.P e e0 te w base xs ys (Builtin.append_ T ty #[.slice (base.map fun r=>⟨r,0,none⟩) xs.length cap,yv])) {K:SV→St→Prop} (h5:mO s e te ys x K):
    ∃sv s' w',K sv s'∧aW s' sv∧Rel E a w' s'∧(Builtin.append_ T ty #[x.conc,yv]).run C.P w= .ok sv.conc w'∧Evo w s w' s' (qX x) (apOw x):=by
  unfold mO at h5
  split at h5
  · rename_i tag base n cap
    split at h5
    case h_2=>exact h5.elim
    rename_i b' c' ety es xs hlb
    split at h5
    case h_2=>exact h5.elim
    rename_i he1 he2
    have he1:=Nat.eq_of_beq_eq_true he1
    have he2:=Nat.eq_of_beq_eq_true he2
    subst he1 he2
    obtain⟨hx1,hx2⟩:=hx
    obtain⟨_,_,_,e,hn⟩:=hx2 _ hlb
    obtain rfl:b'=base:=by cases e;rfl
    obtain rfl:c'=cap:=by cases e;rfl
    obtain rfl:n=xs.length:=by cases e;exact hn
    clear e hn
    obtain⟨hby,hmax,h6⟩:=zL h5
    obtain⟨base',cap',w',hrun,hfit,hblk,hkeep,hsize,hos,htape,hout,hnil,hold⟩:=sB (hG _ b' c' xs (hR.sees.2 _ _ hlb) hby hmax)
    have h7:=h6 base' cap' (qCu hfit) hnil
    rw[qDm,pU]at h7
    have hRf:=hR.fade tag
    have hlbf:(s.fade tag).lb tag=some (.row b' c' ety te.size xs):=by rw[kK,hlb];rfl
    have hfree:∀i sv,bD (s.fade tag).env i=some sv→sv.free tag:=fun i sv h=>by
      simp only[St.fade,gU]at h
      cases hs:bD s.env i with
      |none=>simp[hs]at h
      |some z=>simp only[hs,Option.map_some,Option.some.injEq]at h;subst h;exact SV.fade_free tag z
    have hfreeC:∀u r cs ty,(s.fade tag).lb u=some (.cells r cs ty)→∀sv∈cs,sv.free tag:=fun u r cs ty h sv hsv=>by
      rw[kK]at h
      cases hs:s.lb u with
      |none=>simp[hs]at h
      | some z =>
        simp only[hs,Option.map_some,Option.some.injEq]at h
        cases z<;>simp only[LB.fade]at h<;>cases h
        rw[gT]at hsv
        obtain⟨z,_,rfl⟩:=List.mem_map.1 hsv
        exact SV.fade_free tag z
    have hrow:∃b c y e x,(LB.row b' c' ety te.size xs)= .row b c y e x:=⟨_,_,_,_,_,rfl⟩
    refine⟨_,_,w',h7,⟨hRf.nxt _ _ hlbf,fun lb h=>?_⟩,?_,?_⟩
    · rw [cY, if_pos rfl] at h
      cases h
      exact⟨_,_,_,rfl,rfl⟩
    · refine hRf.change tag _ (fun k => cY _ tag _ k) rfl rfl (Nat.le_refl _) (hRf.nxt _ _ hlbf) (fun i sv h => ?_) (fun u r cs ty h sv hsv => ?_) hfit (fun r hr => ?_) (fun b hb hnb => hkeep b hb ?_) hsize hos htape hout
      · obtain ⟨h1, h2⟩ := hRf.env i sv h
        exact⟨h1,rR hlbf hrow (hfree i sv h) h2⟩
      · rw [cY] at h
        split at h
        · cases h
        · exact rR hlbf hrow (hfreeC u r cs ty h sv hsv) (hRf.cells u r cs ty h sv hsv)
      · rcases hblk r hr with h | h
        · exact .inl ⟨_,hlbf,h⟩
        · exact .inr h
      · exact fun e=>hnb _ hlbf e
    · refine ⟨by simp only [SV.conc, List.length_append]; exact hrun, fun b hb h _ => hkeep b hb (h tag (by simp [qX]) _ hlb), hsize, Mem.Le.refl _, fun r hr h1 h0 h2 => ⟨h1, h0, fun u lb2 h hr' => ?_⟩, fun _ => rfl, Nat.le_refl _, fun u lb2 _ h9 => ?_, fun d sv h => ?_, fun u r cs ty h9 => .inl ?_⟩
      · rw [cY] at h
        split at h
        · cases h
          rcases hblk r hr' with h|h
          · exact h2 tag _ hlb h
          · omega
        · rw [kK] at h
          cases hs:s.lb u with
          |none=>simp[hs]at h
          | some z =>
            simp only[hs,Option.map_some,Option.some.injEq]at h
            subst h
            rw[LB.fade_blk]at hr'
            exact h2 u z hs hr'
      · rw [cY] at h9
        split at h9
        · rename_i e
          subst e
          cases h9
          exact⟨_,hlb,.inr ⟨by simp[qX],⟨_,_,_,_,_,rfl⟩,_,_,_,_,_,rfl⟩⟩
        · rw [kK] at h9
          cases hs:s.lb u with
          |none=>simp[hs]at h9
          | some z =>
            simp only[hs,Option.map_some,Option.some.injEq]at h9
            subst h9
            exact⟨z,rfl,.inl (by cases z<;>simp[LB.fade,LB.alike])⟩
      · simp only [St.setB, St.fade, gU] at h
        cases hs:bD s.env d with
        |none=>simp[hs]at h
        | some z =>
          simp only[hs,Option.map_some,Option.some.injEq]at h
          subst h
          have : z.fade tag = z ∨ ∃ v, z.fade tag = .val v := by
            cases z<;>simp only[SV.fade]<;>first
              |exact .inl trivial
              | (split
                 · exact .inr ⟨_,rfl⟩
                 · exact .inl rfl)
          rcases this with e|e
          · exact .inl (by rw[e])
          · exact .inr ⟨e,by simp⟩
      · rw [cY]
        split
        · rename_i e
          subst e
          rw[hlb]at h9
          cases h9
        · refine ⟨eN tag cs, ty, ?_⟩
          rw[kK,h9]
          rfl
  · obtain ⟨hby, hmax, h6⟩ := zL h5
    obtain⟨base',cap',w',hrun,hfit,hblk,hkeep,hsize,hos,htape,hout,hnil,hold⟩:=sB (hG _ none 0 [] ⟨rfl,rfl⟩ (by simpa using hby) (by simpa using hmax))
    have h7:=h6 base' cap' (by simpa using qCu hfit) (fun h=>by simpa using hnil h)
    rw[jP]at h7
    refine⟨_,_,w',h7,⟨Nat.lt_succ_self _,fun lb h=>?_⟩,?_,?_⟩
    · rw [cP, if_pos rfl] at h
      cases h
      exact⟨_,_,_,rfl,rfl⟩
    · refine hR.change s.nxt _ (fun k => cP s _ k) rfl rfl (Nat.le_succ _) (Nat.lt_succ_self _) (fun i sv h => ?_) (fun u r cs ty h sv hsv => ?_) (by simpa using hfit) (fun r hr => ?_) (fun b hb _ => hkeep b hb (by simp)) hsize hos htape hout
      · obtain ⟨h1, h2⟩ := hR.env i sv h
        exact⟨h1,jV h2⟩
      · rw [cP] at h
        split at h
        · cases h
        · exact jV (hR.cells u r cs ty h sv hsv)
      · rcases hblk r hr with h | h
        · cases h
        · exact .inr h
    · refine ⟨by simpa [SV.conc] using hrun, fun b hb _ _ => hkeep b hb (by simp), hsize, Mem.Le.refl _, fun r hr h1 h0 h2 => ⟨h1, h0, fun u lb2 h hr' => ?_⟩, fun _ => rfl, Nat.le_succ _, fun u lb2 hu h9 => ⟨lb2, by rw [cP, if_neg (by omega)] at h9; exact h9, .inl lb2.alike_refl⟩, fun d sv h => .inl h, fun u r cs ty h => .inl ⟨cs, ty, by rw [cP, if_neg (by have := hR.nxt _ _ h; omega)]; exact h⟩⟩
      rw[cP]at h
      split at h
      · cases h
        rcases hblk r hr' with h|h
        · cases h
        · omega
      · exact h2 u lb2 h hr'
  · rename_i r n cap
    obtain⟨xs,e0,rfl,⟨cs,g1,g2,g3,g4,g5,g6⟩,hby,hmax,h6⟩:=qMo h5
    have hheap:=hR.own.1 r _ g1
    have hfit0:(LB.row (some r) cap e0 te.size xs).fits (fun b=>w.heap[b]?):=⟨g2,g3,g4,cs.toArray,hheap,by simpa using g5,by simpa using g6⟩
    obtain⟨base',cap',w',e',hrun,hfit,hblk,hkeep,hsize,hos,htape,hout,hnil,hold,hty⟩:=hG e0 (some r) cap xs hfit0 hby hmax
    obtain⟨r',rfl⟩:∃r',base'=some r':=by
      cases base' with
      |some r'=>exact⟨r',rfl⟩
      |none=>exact absurd rfl (hold r rfl).2
    obtain⟨f1,f2,f3,arr,f4,f5,f6⟩:=hfit
    have hrr:r'=r∨(s.own r'=none∧s.mem r'=none):=by
      rcases hblk r' rfl with h|h
      · cases h;exact .inl rfl
      · exact .inr ⟨(hR.mem_none h).2,(hR.mem_none h).1⟩
    have h7:=h6 r' cap' (.cells arr e' (0,0)) e' hty ⟨arr.toList,by rw[Mem.set_get,if_pos rfl],f1,f2,f3,by simpa using f5,f6⟩ hrr
    have h8:K (.val (.slice (some ⟨r',0,none⟩) (xs.length+ys.length) cap')) {s with own:=s.own.set r' (.cells arr e' (0,0))}:=by cases s;exact h7
    have hnew:∀b,(s.own.set r' (.cells arr e' (0,0))) b≠none→s.own b≠none∨w.heap.size≤b:=fun b hb=>by
      rw[Mem.set_get]at hb
      split at hb
      · rename_i ee; subst ee
        rcases hblk b rfl with h|h
        · cases h;exact .inl (by rw[g1];simp)
        · exact .inr h
      · exact .inl hb
    have hkp:∀b,b<w.heap.size→s.own b=none→w'.heap[b]? =w.heap[b]?:=fun b hb h0=>hkeep b hb (fun ee=>by cases ee;rw[g1]at h0;cases h0)
    refine⟨_,_,w',h8,trivial,hR.chown (fun b o hb=>?_) hnew hkp hsize hos htape hout,?_,Evo.chown _ hR hnew hkp hsize⟩
    · rw [Mem.set_get] at hb
      split at hb
      · rename_i ee;subst ee;cases hb;exact f4
      · rename_i ee
        have hb2:=hR.own.1 b o hb
        by_cases hbr:b=r
        · subst hbr
          rw[g1]at hb
          cases hb
          rcases(hold b rfl).1 with h|h
          · cases h;exact absurd rfl ee
          · rw[h];exact hheap
        · rw [hkeep b (hR.own.1.lt (by simp [hb])) (fun e2 => hbr (by cases e2; rfl))]
          exact hb2
    · simpa[SV.conc]using hrun
  · exact h5.elim
theorem xS(htt:TTok C.P C.tt)(hR:Rel E a w s){t ty:TypeId}{x y:SV}(hx:aW s x)(hy:aW s y){K:SV→St→Prop}(h:qIt C s t x y K):
    ∃sv s' w',K sv s'∧aW s' sv∧Rel E a w' s'∧(Builtin.append_ #[t,t] ty #[x.conc,y.conc]).run C.P w= .ok sv.conc w'∧Evo w s w' s' (qX x) (apOw x):=by
  obtain⟨ti,h1,h2⟩:=aO h
  have hk:=(htt.get h1).kind
  split at h2
  case h_2=>exact h2.elim
  rename_i e hkk
  rw[hkk]at hk
  obtain⟨te,h3,h4⟩:=aO h2
  have he:=htt.get h3
  obtain⟨hpos,h4⟩:=jN h4
  obtain⟨ys,src,c,h5,hyc,hys,hsrc⟩:=qGn hR hy h4
  rw[hyc]
  exact iP hR hx (fun e0 base cap xs hf hb hm=>tD (ty:=ty) hk he hpos w base cap xs ys hf src c hys hsrc hb hm) h5
theorem xJ(htt:TTok C.P C.tt)(hv1:∀{P:Program} {e:TypeId} {te:TI} (_:TIok P e te) {A:Prop} (_:qI te A),(aB (cU te)=te.zero∧∀u∈te.zero,u.oneCell'=true)∧A)(hR:Rel E a w s){t u ty:TypeId}{x y:SV}(hx:aW s x){K:SV→St→Prop}(h:qIr C s t u x y K):
    ∃sv s' w',K sv s'∧aW s' sv∧Rel E a w' s'∧(Builtin.append_ #[t,u] ty #[x.conc,y.conc]).run C.P w= .ok sv.conc w'∧Evo w s w' s' (qX x) (apOw x):=by
  obtain⟨ti,h1,h2⟩:=aO h
  have hk:=(htt.get h1).kind
  split at h2
  case h_2=>exact h2.elim
  rename_i e hkk
  rw[hkk]at hk
  obtain⟨te,h3,h4⟩:=aO h2
  have he:=htt.get h3
  obtain⟨hpos,h4⟩:=jN h4
  obtain⟨hz,h4⟩:=hv1 he h4
  obtain⟨tu,h6,h7⟩:=aO h4
  have hku:=(htt.get h6).kind
  split at h7
  case h_3=>exact h7.elim
  · clear h h2
    rename_i kn kq n hkk2 _ _
    rw[hkk2]at hku
    obtain⟨m,rfl,h8⟩:=qGo h7
    exact iP hR hx (fun e0 base cap xs hf hb hm=>qB (ty:=ty) kq hk hku he hpos hz w base cap xs m hf hb hm) h8
  · clear h h2
    rename_i b hkk2 _ _
    rw[hkk2]at hku
    split at h7
    case h_2=>exact h7.elim
    rename_i hs1
    exact iP hR hx (fun e0 base cap xs hf hb hm=>sZ (ty:=ty) hk hku he (Nat.eq_of_beq_eq_true hs1) w base cap xs b hf hb hm) h7
theorem dO : ∀ (fz : List Nat) (s : St) (K : St → Prop), Rel E a w s → cG fz s K → ∃ s', K s' ∧ Rel E a w s' ∧ Evo w s w s' [] false
  |[],s,K,hR,h=>⟨s,h,hR,Evo.refl _ _ _ _⟩
  | t :: ts, s, K, hR, h => by
    have one:∀(lb:LB) (μ':Mem),s.lb t=some lb→s.mem.Le μ'→(∀b,μ' b=if lb.blk? =some b then w.heap[b]? else s.mem b)→Rel E a w {s with mem:=μ',blk:=(t,none)::s.blk}:=by
      intro lb μ' hlb hle hμ
      have hext:∀sv,aW s sv→aW {s with mem:=μ',blk:=(t,none)::s.blk} sv:=fun sv hsv=>eF (s:=s) (Nat.le_refl _) hle (fun u lb' _ hl=>by
        rw[nD]at hl
        split at hl
        · cases hl
        · exact⟨lb',hl,lb'.alike_refl⟩) hsv
      have hl2:∀{u lb'},St.lb {s with mem:=μ',blk:=(t,none)::s.blk} u=some lb'→u≠t∧s.lb u=some lb':=fun {u lb'} h=>by
        rw[nD]at h
        split at h
        · cases h
        · rename_i hu;exact⟨hu,h⟩
      have hplace:=fun r hr=>hR.place t lb r hlb hr
      refine⟨hR.defers,hR.size,fun i sv h=>?_,fun u r cs ty h sv hsv=>?_,⟨fun b o hb=>?_,fun u lb' h=>?_⟩,fun u lb' h=>?_,fun u lb' r h hr=>?_,fun u u' lb1 lb2 r h h' hr hr'=>?_,⟨hR.own.1,fun b hb=>?_⟩,fun b o hb=>hle _ _ (hR.mono _ _ hb),fun b hb0 hb=>?_,hR.grow,hR.keep,hR.os,hR.tape,hR.output⟩
      · obtain ⟨h1, h2⟩ := hR.env i sv h
        exact⟨h1,hext _ h2⟩
      · exact hext _ (hR.cells u r cs ty (hl2 h).2 sv hsv)
      · simp only at hb
        rw[hμ]at hb
        split at hb
        · exact hb
        · exact hR.sees.1 b o hb
      · exact hR.sees.2 _ _ (hl2 h).2
      · exact hR.nxt _ _ (hl2 h).2
      · obtain ⟨h1, h2⟩ := hl2 h
        obtain⟨h3,h4,h5⟩:=hR.place _ _ _ h2 hr
        refine⟨?_,h4,h5⟩
        simp only
        rw[hμ,if_neg (fun e=>h1 (hR.sep _ _ _ _ _ h2 hlb hr e))]
        exact h3
      · exact hR.sep _ _ _ _ _ (hl2 h).2 (hl2 h').2 hr hr'
      · obtain ⟨h1, h2⟩ := hR.own.2 b hb
        refine⟨?_,h2⟩
        simp only
        rw[hμ,if_neg (fun e=>hb (hplace b e).2.1)]
        exact h1
      · simp only at hb
        rw[hμ]at hb
        split at hb
        · rename_i e;exact(hplace b e).2.2
        · exact hR.fresh b hb0 hb
    have mk:∀lb,s.lb t=some lb→∃μ':Mem,s.mem.Le μ'∧(∀b,μ' b=if lb.blk? =some b then w.heap[b]? else s.mem b):=fun lb hlb=>
      ⟨fun b=>if lb.blk? =some b then w.heap[b]? else s.mem b,fun b o hb=>by
        simp only
        rw[if_neg (fun e=>by have:=(hR.place t lb b hlb e).1;simp[hb]at this)]
        exact hb,fun _=>rfl⟩
    have evo:∀(lb:LB) (μ':Mem) (s':St),s.lb t=some lb→s.mem.Le μ'→(∀b,μ' b=if lb.blk? =some b then w.heap[b]? else s.mem b)→Evo w {s with mem:=μ',blk:=(t,none)::s.blk} w s' [] false→Evo w s w s' [] false:=by
      intro lb μ' s' hlb hle hμ h
      refine⟨fun _ _ _ _=>rfl,Nat.le_refl _,hle.trans h.le,fun r hr h1 h0 h2=>h.out r hr ?_ h0 (fun u lb2 h3=>?_),h.own,h.nxt,fun u lb2 hu h3=>?_,h.envs,fun u r cs ty h3=>?_⟩
      · simp only
        rw[hμ,if_neg (h2 t lb hlb)]
        exact h1
      · rw [nD] at h3
        split at h3
        · cases h3
        · exact h2 u lb2 h3
      · obtain ⟨lb3, h4, h5⟩ := h.stay u lb2 hu h3
        rw[nD]at h4
        split at h4
        · cases h4
        · exact⟨lb3,h4,h5⟩
      · by_cases hu : u = t
        · subst hu
          rw[hlb]at h3
          cases h3
          have hf:w.heap[r]? =some (.cells (cs.map SV.conc).toArray ty (0,0)):=hR.sees.2 _ _ hlb
          have hm:μ' r=some (.cells (cs.map SV.conc).toArray ty (0,0)):=by rw[hμ,if_pos (by simp[LB.blk?])];exact hf
          exact .inr (by rw[h.le _ _ hm];simp)
        · exact h.alive u r cs ty (by rw[nD,if_neg hu];exact h3)
    simp only[cG]at h
    split at h
    · rename_i r cs ty hlb
      obtain⟨μ',hle,hμ⟩:=mk _ hlb
      rw[dB]at h
      have hfit:w.heap[r]? =some (.cells (cs.map SV.conc).toArray ty (0,0)):=hR.sees.2 _ _ hlb
      have h2:=h μ' hle (hR.place t _ r hlb rfl).1 (by rw[hμ,if_pos (by simp[LB.blk?])];exact hfit)
      rw[qCq]at h2
      obtain⟨s',h3,h4,h5⟩:=dO ts _ K (one _ μ' hlb hle hμ) h2
      exact⟨s',h3,h4,evo _ μ' s' hlb hle hμ h5⟩
    · rename_i base cap ty es xs hlb
      obtain⟨μ',hle,hμ⟩:=mk _ hlb
      have hfit:=hR.sees.2 _ _ hlb
      have h2:=h μ' hle (fun r hr=>(hR.place t _ r hlb hr).1) (by
        cases base with
        |none=>exact hfit.1
        | some r =>
          obtain⟨h1,_,h3,arr,h4,h5,h6⟩:=hfit
          exact⟨h1,h3,arr,ty,by rw[hμ,if_pos (by simp[LB.blk?])];exact h4,h5,h6⟩)
      rw[qCq]at h2
      obtain⟨s',h3,h4,h5⟩:=dO ts _ K (one _ μ' hlb hle hμ) h2
      exact⟨s',h3,h4,evo _ μ' s' hlb hle hμ h5⟩
    · exact h.elim
    · exact dO ts s K hR h
theorem iD : ∀ (gv : List Nat) (s : St) (K : St → Prop), Rel E a w s → fO gv s K → ∃ s', K s' ∧ Rel E a w s'
  |[],s,K,hR,h=>⟨s,h,hR⟩
  | t :: ts, s, K, hR, h => by
    have one:∀(lb:LB) (h':Mem),s.lb t=some lb→(∀b,h' b=if lb.blk? =some b then w.heap[b]? else s.own b)→Rel E a w {s with own:=h',blk:=(t,none)::s.blk}:=by
      intro lb h' hlb hh
      have hkl:∀{u lb'},St.lb {s with own:=h',blk:=(t,none)::s.blk} u=some lb'→u≠t∧s.lb u=some lb':=fun {u lb'} g=>by
        have:St.lb {s with own:=h',blk:=(t,none)::s.blk} u=if u=t then none else s.lb u:=nD s t s.mem u
        rw[this]at g
        split at g
        · cases g
        · rename_i hu;exact⟨hu,g⟩
      have hext:∀sv,aW s sv→aW {s with own:=h',blk:=(t,none)::s.blk} sv:=fun sv hsv=>eF (s:=s) (Nat.le_refl _) (Mem.Le.refl _) (fun u lb' _ hl=>⟨lb',(hkl hl).2,lb'.alike_refl⟩) hsv
      have hplace:=fun r hr=>hR.place t lb r hlb hr
      refine⟨hR.defers,hR.size,fun i sv g=>⟨(hR.env i sv g).1,hext _ (hR.env i sv g).2⟩,fun u r cs ty g sv hsv=>hext _ (hR.cells u r cs ty (hkl g).2 sv hsv),⟨hR.sees.1,fun u lb' g=>hR.sees.2 _ _ (hkl g).2⟩,fun u lb' g=>hR.nxt _ _ (hkl g).2,fun u lb' r g hr=>?_,
        fun u u' lb1 lb2 r g g' hr hr'=>hR.sep _ _ _ _ _ (hkl g).2 (hkl g').2 hr hr',⟨fun b o hb=>?_,fun b hb=>?_⟩,hR.mono,hR.fresh,hR.grow,hR.keep,hR.os,hR.tape,hR.output⟩
      · obtain ⟨g1, g2⟩ := hkl g
        obtain⟨h3,h4,h5⟩:=hR.place _ _ _ g2 hr
        refine⟨h3,?_,h5⟩
        simp only
        rw[hh,if_neg (fun e=>g1 (hR.sep _ _ _ _ _ g2 hlb hr e))]
        exact h4
      · simp only at hb
        rw[hh]at hb
        split at hb
        · exact hb
        · exact hR.own.1 b o hb
      · simp only at hb
        rw[hh]at hb
        split at hb
        · rename_i e
          obtain⟨h3,h4,h5⟩:=hplace b e
          exact⟨h3,h5⟩
        · exact hR.own.2 b hb
    simp only[fO]at h
    split at h
    · rename_i r cs ty hlb
      rw[dB]at h
      have hfit:w.heap[r]? =some (.cells (cs.map SV.conc).toArray ty (0,0)):=hR.sees.2 _ _ hlb
      obtain⟨h1,h2,_⟩:=hR.place t _ r hlb rfl
      have h3:=h h1 h2
      have h4:fO ts {s with own:=s.own.set r (.cells (cs.map SV.conc).toArray ty (0,0)),blk:=(t,none)::s.blk} K:=by cases s;exact h3
      refine iD ts _ K (one _ _ hlb fun b=>?_) h4
      rw[Mem.set_get]
      by_cases e:b=r
      · subst e;rw[if_pos rfl,if_pos (by simp[LB.blk?])];exact hfit.symm
      · rw[if_neg e,if_neg (fun h=>e (by simpa[LB.blk?]using h.symm))]
    · rename_i base cap ty es xs hlb
      have hfit:=hR.sees.2 _ _ hlb
      cases base with
      | none =>
        have h3:=h s.own (fun r hr=>nomatch hr) ⟨hfit.1,rfl⟩
        have h4:fO ts {s with own:=s.own,blk:=(t,none)::s.blk} K:=by cases s;exact h3
        exact iD ts _ K (one _ _ hlb fun b=>by simp[LB.blk?]) h4
      | some r =>
        obtain⟨g1,g2,g3,arr,g4,g5,g6⟩:=hfit
        obtain⟨h1,h2,_⟩:=hR.place t _ r hlb rfl
        have h3:=h (s.own.set r (.cells arr.toList.toArray ty (0,0))) (fun r' hr=>by cases hr;exact h1) ⟨h2,g1,g2,g3,arr.toList,rfl,by simpa using g5,g6⟩
        have h4:fO ts {s with own:=s.own.set r (.cells arr.toList.toArray ty (0,0)),blk:=(t,none)::s.blk} K:=by cases s;exact h3
        refine iD ts _ K (one _ _ hlb fun b=>?_) h4
        rw[Mem.set_get]
        by_cases e:b=r
        · subst e;rw[if_pos rfl,if_pos (by simp[LB.blk?])];exact g4.symm
        · rw[if_neg e,if_neg (fun h=>e (by simpa[LB.blk?]using h.symm))]
    · exact h.elim
end
end Go.Vx
namespace Go.Vx
section
variable {C:Cx} {E:Ent} {s:St} {a:Act} {w:World}
theorem Rel.stepO{μ' h':Mem}{w':World}(hR:Rel E a w s)(hS:Step s.mem s.own w μ' h' w'):Rel E a w' {s with mem:=μ',own:=h'}:=by
 have hext:∀sv,aW s sv→aW {s with mem:=μ',own:=h'} sv:=fun sv h=>eF (s:=s) (Nat.le_refl _) hS.le (fun t lb' _ hl=>⟨lb',hl,lb'.alike_refl⟩) h
 have hnone:∀r,r<w.heap.size→s.mem r=none→s.own r=none→μ' r=none∧h' r=none:=fun r hr h h0=>by
  constructor
  ·cases hm : μ' r with
   |none=>rfl
   |some o=>
    rcases hS.fresh r h (by simp[hm])with h|h
    ·omega
    ·exact absurd h0 h
  ·cases hm : h' r with
   |none=>rfl
   |some o=>
    rcases hS.freshH r (by simp[hm])with h|h
    ·omega
    ·exact absurd h0 h
 refine⟨hR.defers,hR.size,fun i sv h=>⟨(hR.env i sv h).1,hext _ (hR.env i sv h).2⟩,fun t r cs ty h sv hsv=>hext _ (hR.cells t r cs ty h sv hsv),⟨hS.mem,fun t lb h=>?_⟩,hR.nxt,fun t lb r h hr=>?_,hR.sep,⟨hS.own,fun b hb=>?_⟩,hR.mono.trans hS.le,fun b hb0 hb=>?_,Nat.le_trans hR.grow hS.size,fun b hb h0=>?_,hS.os.trans hR.os,hS.tape.trans hR.tape,hS.output.trans hR.output⟩
 ·refine LB.fits_congr (fun r hr => ?_) (hR.sees.2 t lb h)
  exact hS.keep r (LB.fits_lt (hR.sees.2 t lb h) hr) (hR.place t lb r h hr).2.1
 ·obtain ⟨h1, h2, h3⟩ := hR.place t lb r h hr
  obtain⟨g1,g2⟩:=hnone r (LB.fits_lt (hR.sees.2 t lb h) hr) h1 h2
  exact⟨g1,g2,h3⟩
 ·refine ⟨?_, ?_⟩
  ·cases hm : μ' b with
   |none=>exact hm
   |some o=>exact absurd (hS.apart b (by simp[hm])) hb
  ·rcases hS.freshH b hb with h | h
   ·exact .inl (Nat.le_trans hR.grow h)
   ·exact(hR.own.2 b h).2
 ·by_cases hm : s.mem b = none
  ·rcases hS.fresh b hm hb with h | h
   ·exact .inl (Nat.le_trans hR.grow h)
   ·exact(hR.own.2 b h).2
  ·exact hR.fresh b hb0 hm
 ·rw [hS.keep b (Nat.lt_of_lt_of_le hb hR.grow) ?_]
  ·exact hR.keep b hb h0
  ·cases ho : s.own b with
   |none=>rfl
   |some o=>
    rcases(hR.own.2 b (by simp[ho])).2 with h|h
    ·omega
    ·exact absurd h0 h
theorem Rel.step{μ' h':Mem}{w':World}(hR:Rel E a w s)(hS:Step s.mem Mem.nil w μ' h' w'):Rel E a w' {s with mem:=μ'}:=by
 have hnone:∀r,r<w.heap.size→s.mem r=none→μ' r=none:=fun r hr h=>by
  cases hm:μ' r with
  |none=>rfl
  |some o=>
   rcases hS.fresh r h (by simp[hm])with h|h
   ·omega
   ·exact absurd rfl h
 refine hR.stepO (h':=s.own) ⟨hS.le,hS.mem,fun b o hb=>?_,fun b hb=>?_,fun b hb hb'=>?_,fun b hb=> .inr hb,hS.size,fun b hb _=>hS.keep b hb rfl,hS.os,hS.tape,hS.output⟩
 ·rw [hS.keep b (hR.own.1.lt (b := b) (by simp [hb])) rfl]
  exact hR.own.1 b o hb
 ·cases ho : s.own b with
  |none=>rfl
  |some o=>
   have h1:=hR.own.1.lt (b:=b) (by simp[ho])
   have h2:=(hR.own.2 b (by simp[ho])).1
   exact absurd (hnone b h1 h2) hb
 ·rcases hS.fresh b hb hb' with h | h
  ·exact .inl h
  ·exact absurd rfl h
theorem fK(μ:Mem):Apart μ Mem.nil:=fun _ _=>rfl
theorem kE(w:World):Holds Mem.nil w:=fun _ _ h=>by cases h
theorem qBp{dr:Bool}(hR:Rel E a w s){f:FuncId}{args:List Value}{K:Value→St→Prop}(h:callVC dr C.P f args s K):
  Ans C.P f args.toArray w fun e w'=>∃v s',e= .returned v∧K v s'∧Rel E a w' s'∧(dr=true→Evo w s w' s' [] true):=by
 obtain⟨fz,gv,hgv,h1⟩:=qIv h
 obtain⟨s1,h2,hR1,hE1⟩:=dO fz s _ hR h1
 obtain⟨s2,h3,hR2,hE2⟩:∃s2,((∃R,Spec C.P f args s2.mem R∧∀v μ',s2.mem.Le μ'→R v μ'→qGk s2 μ' fun s=>K v s)∨
   ∃R,SpecH C.P f args s2.mem s2.own R∧∀v μ' h',s2.mem.Le μ'→Apart μ' h'→R v μ' h'→kV s2 μ' h' fun s=>K v s)∧Rel E a w s2∧(dr=true→Evo w s w s2 [] false):=by
  cases dr with
  |true=>
   have:=hgv rfl
   subst this
   exact⟨s1,h2,hR1,fun _=>hE1⟩
  |false=>
   obtain⟨s2,h3,hR2⟩:=iD gv s1 _ hR1 h2
   exact⟨s2,h3,hR2,fun h=>nomatch h⟩
 rcases h3 with⟨R,⟨-,hspec⟩,hk⟩|⟨R,⟨-,hspec⟩,hk⟩
 ·refine (hspec w hR2.sees.1 (kE w) (fK _)).mono ?_
  rintro e w' ⟨v,μ',h',rfl,hr,hS⟩
  have h4:=hk v μ' hS.le hr
  rw[memK_eq]at h4
  refine⟨v,_,rfl,h4,hR2.step hS,fun hd=>?_⟩
  have hE:=hE2 hd
  refine⟨fun b hb _ _=>hS.keep b hb rfl,hS.size,hE.le.trans hS.le,fun r hr g1 g0 g2=>?_,fun h=>(nomatch h),hE.nxt,hE.stay,hE.envs,fun t r cs ty h=>(hE.alive t r cs ty h).imp id fun g=>?_⟩
  rotate_left
  ·cases hm : s2.mem r with
   |none=>exact absurd hm g
   |some o=>simp only;rw[hS.le _ _ hm];simp
  obtain⟨g3,g4,g5⟩:=hE.out r hr g1 g0 g2
  refine⟨?_,g4,g5⟩
  cases hm:μ' r with
  |none=>simpa using hm
  |some o=>
   rcases hS.fresh r g3 (by simp[hm])with h|h
   ·omega
   ·exact absurd rfl h
 ·refine (hspec w hR2.sees.1 hR2.own.1 (fun b hb => hR2.own_none hb)).mono ?_
  rintro e w' ⟨v,μ',h',rfl,hr,hS⟩
  have h4:=hk v μ' h' hS.le hS.apart hr
  have h5:K v {s2 with mem:=μ',own:=h'}:=by cases s2;exact h4
  refine⟨v,_,rfl,h5,hR2.stepO hS,fun hd=>?_⟩
  have hE:=hE2 hd
  refine⟨fun b hb _ h=>hS.keep b hb (by rw[hE.own rfl];exact h rfl),hS.size,hE.le.trans hS.le,fun r hr g1 g0 g2=>?_,fun h=>(nomatch h),hE.nxt,hE.stay,hE.envs,fun t r cs ty h=>(hE.alive t r cs ty h).imp id fun g=>?_⟩
  rotate_left
  ·cases hm : s2.mem r with
   |none=>exact absurd hm g
   |some o=>simp only;rw[hS.le _ _ hm];simp
  obtain⟨g3,g4,g5⟩:=hE.out r hr g1 g0 g2
  refine⟨?_,?_,g5⟩
  ·cases hm : μ' r with
   |none=>simpa using hm
   |some o=>
    rcases hS.fresh r g3 (by simp[hm])with h|h
    ·omega
    ·exact absurd g4 h
  ·cases hm : h' r with
   |none=>simpa using hm
   |some o=>
    rcases hS.freshH r (by simp[hm])with h|h
    ·omega
    ·exact absurd g4 h
theorem qCy{m n:Nat}{A:Prop}(h:leK m n A):m≤n∧A:=by
 unfold leK at h
 split at h
 ·rename_i hb;exact⟨Nat.le_of_ble_eq_true hb,h⟩
 ·exact h.elim
theorem pK(he:nN s a){es:Nat}:∀(n i:Nat) (ps:List (Nat×Operand)) (K:List Value→Prop),rB s es n i ps K→
  K (ps.map fun p=>a.eval p.2)∧ps.length=n∧(∀x∈ps.map fun p=>a.eval p.2,(aB x).length=es∧∀u∈aB x,u.oneCell'=true)∧
   ∀cells:Array Value,cells.size=(i+n)*es→Instr.fill (fun i=>some (i*es,es)) cells (ps.map fun p=>(p.1,a.eval p.2))=some (cells.toList.take (i*es)++(ps.map fun p=>a.eval p.2).flatMap aB).toArray
 |0,i,[],K,h=>⟨h,rfl,by simp,fun cells hs=>by simp only[List.map_nil,Instr.fill,List.flatMap_nil,List.append_nil];rw[List.take_of_length_le (by simp[hs])]⟩
 |n+1,i,(j,x)::r,K,h=>by
  simp only[rB]at h
  split at h
  ·rename_i hb
   have hb:=Nat.eq_of_beq_eq_true hb
   subst hb
   obtain⟨sv,h1,h2⟩:=aG h
   obtain⟨e1,_⟩:=aH he h1
   rw[cZ]at h2
   obtain⟨hl,h3⟩:=kO _ _ _ h2
   obtain⟨ho,h4⟩:=dI _ _ h3
   obtain⟨h5,h6,h7,h8⟩:=pK he n (i+1) r _ h4
   rw[←e1]at h5 hl ho
   refine⟨h5,by simp[h6],fun y hy=>?_,fun cells hs=>?_⟩
   ·rcases List.mem_cons.1 hy with rfl | hy
    ·exact⟨hl,ho⟩
    ·exact h7 y hy
   ·have hlt:i*es+es≤cells.size:=by
     rw[hs,←Nat.succ_mul]
     exact Nat.mul_le_mul_right _ (by omega)
    simp only[List.map_cons]
    rw[qFf rfl hl (by omega),h8 _ (by
     simp only[List.size_toArray,List.length_append,List.length_take,List.length_drop,Array.length_toList]
     rw[show(i+1+n)*es=cells.size from by rw[hs];congr 1;omega]
     omega)]
    congr 2
    simp only[List.flatMap_cons]
    rw[←List.append_assoc]
    congr 1
    have hlen:(cells.toList.take (i*es)++aB (a.eval x)).length=(i+1)*es:=by
     simp only[List.length_append,List.length_take,Array.length_toList,hl,Nat.succ_mul]
     omega
    rw[←hlen]
    exact List.take_left
  ·exact h.elim
 |0,_,_::_,_,h=>by simp[rB]at h
 |_+1,_,[],_,h=>by simp[rB]at h
theorem Rel.newCells(hR:Rel E a w s){z:List SV}(hz:∀sv∈z,aW s sv){cells:Array Value}(ty:TypeId)(hc:cells=(z.map SV.conc).toArray):
  Rel E a (w.alloc (.cells cells ty)) (s.newB (.cells w.heap.size z ty))∧aW (s.newB (.cells w.heap.size z ty)) (.loc s.nxt w.heap.size 0):=by
 subst hc
 refine⟨hR.newB (b:= .cells w.heap.size z ty) rfl (dK w _) (fun r hr=>?_) (fun r cs ty e sv hsv=>?_),Nat.lt_succ_self _,fun lb hl=>?_⟩
 ·simp only[LB.blk?,Option.some.injEq]at hr;exact hr.symm
 ·cases e;exact hz sv hsv
 ·rw[cP,if_pos rfl]at hl;cases hl;exact⟨_,_,rfl⟩
theorem Rel.newRow(hR:Rel E a w s){xs:List Value}{es:Nat}(hxs:∀x∈xs,(aB x).length=es∧∀u∈aB x,u.oneCell'=true)(hmax:xs.length≤maxLen){cells:Array Value}(ty:TypeId)(hc:cells=(xs.flatMap aB).toArray):
  Rel E a (w.alloc (.cells cells ty)) (s.newB (.row (some w.heap.size) xs.length ty es xs))∧aW (s.newB (.row (some w.heap.size) xs.length ty es xs)) (.row s.nxt (some w.heap.size) xs.length xs.length):=by
 subst hc
 have fl:=fH xs fun y hy=>(hxs y hy).1
 refine⟨hR.newB (b:= .row (some w.heap.size) xs.length ty es xs) rfl ⟨Nat.le_refl _,hmax,hxs,_,dK w _,by simpa using fl,?_⟩ (fun r hr=>?_) (fun r cs ty e=>by cases e),Nat.lt_succ_self _,fun lb hl=>?_⟩
 ·rw[List.take_of_length_le (by simp only;rw[fl];exact Nat.le_refl _)]
 ·simp only[LB.blk?,Option.some.injEq]at hr;exact hr.symm
 ·rw[cP,if_pos rfl]at hl;cases hl;exact⟨_,_,_,rfl,rfl⟩
theorem vE(n:Nat)(z:Value)(hs:aB z≠[]):((List.replicate n z).flatMap aB)=(madeCells z.cells (n*(aB z).length)).toList:=by
 have hsz:z.cells.size=(aB z).length:=by rw[←aR];simp
 have hpos:0<(aB z).length:=List.length_pos_iff.2 hs
 simp only[madeCells,Array.toList_map,Array.toList_range,hsz]
 induction n with
 |zero=>simp
 |succ n ih=>
  rw[List.replicate_succ,List.flatMap_cons,ih,Nat.succ_mul,Nat.add_comm,List.range_add,List.map_append,List.map_map]
  congr 1
  ·apply List.ext_getElem?
   intro i
   simp only[List.getElem?_map]
   by_cases hi:i<(aB z).length
   ·rw [List.getElem?_range hi]
    simp only[Option.map_some,Nat.mod_eq_of_lt hi]
    rw[getElem!_pos z.cells i (by omega)]
    have:(aB z)[i]? =z.cells[i]?:=by rw[←aR];simp
    rw[this,Array.getElem?_eq_getElem (by omega)]
   ·rw [List.getElem?_eq_none (by omega), List.getElem?_eq_none (by simp; omega)]
    rfl
  ·apply List.map_congr_left
   intro i _
   simp
theorem oY{P:Program}{e:TypeId}{te:TI}(_:TIok P e te){A:Prop}(h:qI te A):(aB (cU te)=te.zero∧∀u∈te.zero,u.oneCell'=true)∧A:=by
 unfold qI at h
 unfold cU
 split at h
 ·rename_i hg
  obtain⟨h1,h2⟩:=dI _ _ h
  exact⟨⟨by simp[aB],h1⟩,h2⟩
 ·rename_i v hg hz
  obtain⟨h1,h2⟩:=dI _ _ h
  refine⟨⟨?_,by rw[hz];exact h1⟩,h2⟩
  simp only[hz]
  have:=h1 v (by simp)
  cases v<;>first|rfl|(simp[Value.oneCell']at this;done)
 ·exact h.elim
theorem Rel.newOwn(hR:Rel E a w s)(cells:Array Value)(t:TypeId):Rel E a (w.alloc (.cells cells t)) {s with own:=s.own.set w.heap.size (.cells cells t (0,0))}:=by
 refine hR.chown (fun b o hb=>?_) (fun b hb=>?_) (fun b hb _=>Go.RowKit.Below.heap_alloc w _ b hb) (by simp) rfl rfl rfl
 ·rw [Mem.set_get] at hb
  split at hb
  ·rename_i e;subst e;cases hb;exact dK w _
  ·rw [Go.RowKit.Below.heap_alloc w _ b (hR.own.1.lt (by simp [hb]))]
   exact hR.own.1 b o hb
 ·rw [Mem.set_get] at hb
  split at hb
  ·rename_i e;subst e;exact .inr (Nat.le_refl _)
  ·exact .inl hb
theorem Rel.newOwnO(hR:Rel E a w s)(o:Obj):Rel E a (w.alloc o) {s with own:=s.own.set w.heap.size o}:=by
 refine hR.chown (fun b x hb=>?_) (fun b hb=>?_) (fun b hb _=>Go.RowKit.Below.heap_alloc w _ b hb) (by simp) rfl rfl rfl
 ·rw [Mem.set_get] at hb
  split at hb
  ·rename_i e;subst e;cases hb;exact dK w _
  ·rw [Go.RowKit.Below.heap_alloc w _ b (hR.own.1.lt (by simp [hb]))]
   exact hR.own.1 b x hb
 ·rw [Mem.set_get] at hb
  split at hb
  ·rename_i e;subst e;exact .inr (Nat.le_refl _)
  ·exact .inl hb
theorem Evo.newOwnO(m:List Nat)(hR:Rel E a w s)(o:Obj):Evo w s (w.alloc o) {s with own:=s.own.set w.heap.size o} m true:=by
 refine Evo.chown m hR (fun b hb=>?_) (fun b hb _=>Go.RowKit.Below.heap_alloc w _ b hb) (by simp)
 rw[Mem.set_get]at hb
 split at hb
 ·rename_i e;subst e;exact .inr (Nat.le_refl _)
 ·exact .inl hb
theorem Rel.turnO(hR:Rel E a w s){r:Nat}{o:Obj}(o':Obj)(hr:s.own r=some o){w1:World}(hw:w1=w∨w1=w.drew)(m:List Nat):
  Rel E a {w1 with heap:=w1.heap.setIfInBounds r o'} {s with own:=s.own.set r o'}∧Evo w s {w1 with heap:=w1.heap.setIfInBounds r o'} {s with own:=s.own.set r o'} m true:=by
 have hheap:w1.heap=w.heap:=by rcases hw with rfl|rfl<;>rfl
 have hg:=hR.own.1 r o hr
 have hset:=MapKept.heap_set (w:=w1) (o':=o') (by rw[hheap];exact hg)
 have hnew:∀b,(s.own.set r o') b≠none→s.own b≠none∨w.heap.size≤b:=fun b hb=>by
  rw[Mem.set_get]at hb
  split at hb
  ·rename_i e;subst e;exact .inl (by rw[hr];simp)
  ·exact .inl hb
 have hkeep:∀b,b<w.heap.size→s.own b=none→(w1.heap.setIfInBounds r o')[b]? =w.heap[b]?:=fun b _ hb=>by
  rw[hset.2 b (fun e=>by subst e;rw[hr]at hb;cases hb),hheap]
 have hsize:w.heap.size≤(w1.heap.setIfInBounds r o').size:=by simp[hheap]
 refine⟨hR.chown (fun b x hb=>?_) hnew hkeep hsize (by rcases hw with rfl|rfl<;>rfl) (by rcases hw with rfl|rfl<;>rfl) (by rcases hw with rfl|rfl<;>rfl),Evo.chown m hR hnew hkeep hsize⟩
 rw[Mem.set_get]at hb
 split at hb
 ·rename_i e;subst e;cases hb;exact hset.1
 ·rename_i e
  rw[hset.2 b e,hheap]
  exact hR.own.1 b x hb
theorem apEvo{w':World}{s':St}{sx:SV}(h:Evo w s w' s' (qX sx) (apOw sx)):
  Evo w s w' s' (match some sx with|some (.row t _ _ _)=>[t]|_=>[]) (match some sx with|some (.val (.slice (some _) _ _))=>true|_=>false):=by
 cases sx with
 |val v=>
  cases v with
  |slice b n c=>cases b<;>exact h
  |_=>exact h
 |_=>exact h
theorem jF(dr:Bool):∀(ps:List (Nat×Operand)) {s:St} {K:St→Prop},Rel E a w s→yX dr ps s K→∃s',K s'∧Rel E a w s'∧(dr=true→s'=s)
 |[],s,K,hR,h=>⟨s,h,hR,fun _=>rfl⟩
 |(_,x)::ps,s,K,hR,h=>by
  simp only[yX]at h
  split at h
  ·split at h
   ·obtain ⟨s1, g1, g2, _⟩ := dO _ s _ hR h
    obtain⟨s2,g3,g4,_⟩:=jF false ps g2 g1
    exact⟨s2,g3,g4,fun h=>nomatch h⟩
   ·obtain ⟨s2, g3, g4, _⟩ := jF false ps hR h
    exact⟨s2,g3,g4,fun h=>nomatch h⟩
  ·exact jF _ ps hR h
theorem uE(htt:TTok C.P C.tt)(hn:C.n=E.n)(hos:C.dr=true→C.os=[])(hR:Rel E a w s){o:Oper}{K:St→Prop}(h:qGu C o s K){next:Act→World→Prop}{Q:Exit→Act→World→Prop}
  (hK:∀v w' s1,K (s1.put o.dst v)→Rel E (a.put o.dst v.conc) w' (s1.put o.dst v)→(C.dr=true→Evo w s w' s1 (jK s o.op) (xE s o.op))→next (a.put o.dst v.conc) w'):o.wp C.P a w next Q:=by
 obtain⟨hd,h⟩:=gZ h
 rw[hn]at hd
 have value:∀{op:Op} (_:o.op=op),(nV C s op fun sv=>eG s o.dst sv K)→o.wp C.P a w next Q:=by
  intro op hop h
  rw[←hop]at h
  obtain⟨sv,h1,h2,h3⟩:=sA htt hR.env hR.cells h
  rw[bI]at h1
  unfold Oper.wp
  rw[h3 w ⟨hR.sees,hR.own.1⟩]
  exact hK _ _ _ h1 (hR.put hd h2) fun _=>Evo.refl _ _ _ _
 split at h
 ·-- alloc
  rename_i t hop
  obtain⟨ti,h1,h2⟩:=aO h
  have hi:=htt.get h1
  obtain⟨z,hz,hrun⟩:=hi.run_zero w
  unfold Oper.wp
  have he:(execOp a.eval o).run C.P w= .ok (.value (.pointer (some ⟨w.heap.size,0,none⟩))) (w.alloc (.cells z.cells t)):=by
   simp only[execOp,hop,Instr.alloc,Sem.run_bind,hrun,Result.andThen_ok]
   rfl
  rw[he]
  split at h2
  ·rename_i hmo
   have hmn:=hR.mem_none (Nat.le_refl _)
   have h3:=h2 w.heap.size hmn.1 hmn.2
   have hzc:ti.zero.toArray=z.cells:=by apply Array.ext';rw[aR,hz]
   rw[hzc]at h3
   have h4:=(hR.newOwn (z.cells) t)
   have h5:K (St.put {s with own:=s.own.set w.heap.size (.cells z.cells t (0,0))} o.dst (.val (.pointer (some ⟨w.heap.size,0,none⟩)))):=by
    refine(bI _ _ _ K).mp ?_;cases s;exact h3
   exact hK _ _ _ h5 (h4.put (sv:= .val (.pointer (some ⟨w.heap.size,0,none⟩))) hd trivial) fun hdr=>by rw[hos hdr]at hmo;cases hod:o.dst<;>(rw[hod]at hmo;cases hmo)
  rw[pG]at h2
  have h3:=h2 w.heap.size
  rw[jP,bI]at h3
  have hn:=hR.newCells (z:=vals ti.zero) (fun sv hsv=>vals_ok s _ sv hsv) (cells:=z.cells) t (by rw[gY,←hz,←aR])
  exact hK _ _ _ h3 (hn.1.put hd hn.2) fun _=>(Evo.newB _ _ _ _ hR.nxt fun r hr=>by simp only[LB.blk?,Option.some.injEq]at hr;omega)
 ·-- box
  rename_i t x hop
  obtain⟨sv,h1,h2⟩:=aG h
  obtain⟨e1,o1⟩:=aH hR.env h1
  rw[rU]at h2
  unfold Oper.wp
  have he:(execOp a.eval o).run C.P w= .ok (.value (.pointer (some ⟨w.heap.size,0,none⟩))) (w.alloc (.cells sv.conc.cells t)):=by
   simp only[execOp,hop,e1,Instr.box]
   rfl
  rw[he]
  split at h2
  ·rename_i hmo
   rw[dB]at h2
   have hmn:=hR.mem_none (Nat.le_refl _)
   have h3:=h2 w.heap.size hmn.1 hmn.2
   have hzc:((cellsOf sv).map SV.conc).toArray=sv.conc.cells:=by apply Array.ext';rw[aR,dU]
   rw[hzc]at h3
   have h4:=(hR.newOwn (sv.conc.cells) t)
   have h5:K (St.put {s with own:=s.own.set w.heap.size (.cells sv.conc.cells t (0,0))} o.dst (.val (.pointer (some ⟨w.heap.size,0,none⟩)))):=by
    refine(bI _ _ _ K).mp ?_;cases s;exact h3
   exact hK _ _ _ h5 (h4.put (sv:= .val (.pointer (some ⟨w.heap.size,0,none⟩))) hd trivial) fun hdr=>by rw[hos hdr]at hmo;cases hod:o.dst<;>(rw[hod]at hmo;cases hmo)
  have h3:=h2 w.heap.size
  rw[jP,bI]at h3
  have hn:=hR.newCells (z:=cellsOf sv) (uU o1) (cells:=sv.conc.cells) t (by rw[dU,←aR])
  exact hK _ _ _ h3 (hn.1.put hd hn.2) fun _=>(Evo.newB _ _ _ _ hR.nxt fun r hr=>by simp only[LB.blk?,Option.some.injEq]at hr;omega)
 ·-- store
  rename_i t x y hop
  split at h
  ·rename_i hdst
   obtain⟨sx,h1,h2⟩:=aG h
   obtain⟨e1,o1⟩:=aH hR.env h1
   obtain⟨sy,h3,h4⟩:=aG h2
   obtain⟨e2,o2⟩:=aH hR.env h3
   obtain⟨s',w',h5,h6,h7,h8⟩:=qAq htt hR o1 o2 h4
   unfold Oper.wp
   have he:(execOp a.eval o).run C.P w= .ok .skip w':=by
    simp[execOp,hop,e1,e2,h7]
   rw[he]
   have this:∀(b:Act) v,b.put o.dst v=b:=fun b v=>by rw[hdst];rfl
   have that:∀(b:St) v,b.put o.dst v=b:=fun b v=>by rw[hdst];rfl
   simp only[Oper.upon,this]
   have:=hK (.val undef) w' s' (by rw[that];exact h5) (by rw[this,that];exact h6) (fun _=>by
    rw[hop]
    simp only[jK,xE,h1]
    cases sx<;>exact h8)
   rw[‹∀ (b:Act) v,b.put o.dst v=b›]at this
   exact this
  ·exact h.elim
 ·-- makeMap
  rename_i t res hop
  split at h
  case h_2=>exact h.elim
  have hmn:=hR.mem_none (Nat.le_refl _)
  have h3:=h w.heap.size hmn.1 hmn.2
  have h5:K (St.put {s with own:=s.own.set w.heap.size (bV [])} o.dst (.val (.map (some w.heap.size)))):=by
   refine(bI _ _ _ K).mp ?_;cases s;exact h3
  unfold Oper.wp
  have he:(execOp a.eval o).run C.P w= .ok (.value (.map (some w.heap.size))) (w.alloc (bV [])):=by
   simp only[execOp,hop,Option.map_none,Instr.makeMap]
   rfl
  rw[he]
  exact hK _ _ _ h5 ((hR.newOwnO (bV [])).put (sv:= .val (.map (some w.heap.size))) hd trivial) fun _=>by rw[hop];exact Evo.newOwnO _ hR _
 ·-- mapUpdate
  rename_i t m k x hop
  split at h
  case h_2=>exact h.elim
  rename_i hdst
  obtain⟨ti,h1,h2⟩:=aO h
  have hk:=(htt.get h1).kind
  split at h2
  case h_2=>exact h2.elim
  rename_i kt e hkk
  rw[hkk]at hk
  obtain⟨tk,h3,h4⟩:=aO h2
  have hkt:=(htt.get h3).kind
  obtain⟨sm,g1,h5⟩:=aG h4
  obtain⟨e1,-⟩:=aH hR.env g1
  obtain⟨sk,g2,h6⟩:=aG h5
  obtain⟨e2,-⟩:=aH hR.env g2
  rw[cZ]at h6
  obtain⟨sx,g3,h7⟩:=aG h6
  obtain⟨e3,-⟩:=aH hR.env g3
  rw[cZ]at h7
  split at h7
  case h_2=>exact h7.elim
  rename_i r
  obtain⟨hok,l,hm,hl,h8⟩:=qCv h7
  have hrun:=oA (w:=w) hk hkt sx.conc hok hl (hR.own.1 _ _ hm)
  obtain⟨hR',hE'⟩:=hR.turnO (bV (dH l sk.conc sx.conc)) hm (.inl rfl) []
  unfold Oper.wp
  have he:(execOp a.eval o).run C.P w= .ok .skip {w with heap:=w.heap.setIfInBounds r (bV (dH l sk.conc sx.conc))}:=by
   simp[execOp,hop,e1,e2,e3,SV.conc]at hrun ⊢
   simp[hrun]
  rw[he]
  have h9:K {s with own:=s.own.set r (bV (dH l sk.conc sx.conc))}:=by cases s;exact h8
  have this:∀(b:Act) v,b.put o.dst v=b:=fun b v=>by rw[hdst];rfl
  have that:∀(b:St) v,b.put o.dst v=b:=fun b v=>by rw[hdst];rfl
  simp only[Oper.upon,this]
  have:=hK (.val undef) _ {s with own:=s.own.set r (bV (dH l sk.conc sx.conc))} (by rw[that];exact h9) (by rw[this,that];exact hR') (fun _=>by rw[hop];exact hE')
  rw[‹∀ (b:Act) v,b.put o.dst v=b›]at this
  exact this
 ·-- insert
  rename_i t m k x hop
  split at h
  case h_2=>exact h.elim
  rename_i hdst
  obtain⟨ti,h1,h2⟩:=aO h
  have hk:=(htt.get h1).kind
  split at h2
  case h_2=>exact h2.elim
  rename_i kt e hkk
  rw[hkk]at hk
  obtain⟨tk,h3,h4⟩:=aO h2
  have hkt:=(htt.get h3).kind
  obtain⟨sm,g1,h5⟩:=aG h4
  obtain⟨e1,-⟩:=aH hR.env g1
  obtain⟨sk,g2,h6⟩:=aG h5
  obtain⟨e2,-⟩:=aH hR.env g2
  rw[cZ]at h6
  obtain⟨sx,g3,h7⟩:=aG h6
  obtain⟨e3,-⟩:=aH hR.env g3
  rw[cZ]at h7
  split at h7
  case h_2=>exact h7.elim
  rename_i r
  obtain⟨hok,l,hm,hl,h8⟩:=qCv h7
  have hrun:=oA (w:=w) hk hkt sx.conc hok hl (hR.own.1 _ _ hm)
  obtain⟨hR',hE'⟩:=hR.turnO (bV (dH l sk.conc sx.conc)) hm (.inl rfl) []
  unfold Oper.wp
  have he:(execOp a.eval o).run C.P w= .ok .skip {w with heap:=w.heap.setIfInBounds r (bV (dH l sk.conc sx.conc))}:=by
   simp[execOp,hop,e1,e2,e3,SV.conc]at hrun ⊢
   simp[hrun]
  rw[he]
  have h9:K {s with own:=s.own.set r (bV (dH l sk.conc sx.conc))}:=by cases s;exact h8
  have this:∀(b:Act) v,b.put o.dst v=b:=fun b v=>by rw[hdst];rfl
  have that:∀(b:St) v,b.put o.dst v=b:=fun b v=>by rw[hdst];rfl
  simp only[Oper.upon,this]
  have:=hK (.val undef) _ {s with own:=s.own.set r (bV (dH l sk.conc sx.conc))} (by rw[that];exact h9) (by rw[this,that];exact hR') (fun _=>by rw[hop];exact hE')
  rw[‹∀ (b:Act) v,b.put o.dst v=b›]at this
  exact this
 ·-- range
  rename_i t x hop
  obtain⟨ti,h1,h2⟩:=aO h
  have hk:=(htt.get h1).kind
  obtain⟨sx,g1,h3⟩:=aG h2
  obtain⟨e1,-⟩:=aH hR.env g1
  split at h3
  case h_2=>exact h3.elim
  rename_i kt e m hkk
  rw[hkk]at hk
  obtain⟨l,hm,h4⟩:=rE h3
  have hmn:=hR.mem_none (Nat.le_refl _)
  have h5:=h4 w.heap.size hmn.1 hmn.2
  have h6:K (St.put {s with own:=s.own.set w.heap.size (cW m l.length [] l.length)} o.dst (.val (.pointer (some ⟨w.heap.size,0,none⟩)))):=by
   refine(bI _ _ _ K).mp ?_;cases s;exact h5
  have hb:w.heap[m]? =some (bV l):=hm.elim (fun h=>hR.sees.1 _ _ h) (fun h=>hR.own.1 _ _ h)
  have hrun:=run_range_map (P:=C.P) w t kt e m _ _ hk hb
  unfold Oper.wp
  have he:(execOp a.eval o).run C.P w= .ok (.value (.pointer (some ⟨w.heap.size,0,none⟩))) (w.alloc (cW m l.length [] l.length)):=by
   simp only[execOp,hop,e1,SV.conc,Sem.run_bind,hrun,Result.andThen_ok]
   rfl
  rw[he]
  exact hK _ _ _ h6 ((hR.newOwnO _).put (sv:= .val (.pointer (some ⟨w.heap.size,0,none⟩))) hd trivial) fun _=>by rw[hop];exact Evo.newOwnO _ hR _
 ·-- next
  rename_i it str hop
  obtain⟨sx,g1,h3⟩:=aG h
  obtain⟨e1,-⟩:=aH hR.env g1
  split at h3
  case h_2=>exact h3.elim
  rename_i r
  obtain⟨m,seen,c,l,hr,hm,hc,hover,hgo⟩:=qJs h3
  have hb:w.heap[m]? =some (bV l):=hm.elim (fun h=>hR.sees.1 _ _ h) (fun h=>hR.own.1 _ _ h)
  unfold Oper.wp
  rcases qKx (P:=C.P) (ty:=o.type) (hR.own.1 _ _ hr) hb hc with⟨hall,hrun⟩|⟨j,k,v,w1,hj,hns,hw1,hrun⟩
  ·have he:(execOp a.eval o).run C.P w= .ok (.value (.tuple #[.bool false])) w:=by
    simp only[execOp,hop,e1,SV.conc,Sem.run_bind,hrun,Result.andThen_ok]
    rfl
   rw[he]
   have h4:=hover hall
   rw[bI]at h4
   exact hK _ _ _ h4 (hR.put (sv:= .val (.tuple #[.bool false])) hd trivial) fun _=>Evo.refl _ _ _ _
  ·have h4 := hgo j k v hj hns
   have h5:K (St.put {s with own:=s.own.set r (cW m l.length (seen++[j]) l.length)} o.dst (.val (.tuple #[.bool true,k,v]))):=by
    refine(bI _ _ _ K).mp ?_;cases s;exact h4
   obtain⟨hR',hE'⟩:=hR.turnO (cW m l.length (seen++[j]) l.length) hr hw1 (jK s (.next it false))
   have he:(execOp a.eval o).run C.P w= .ok (.value (.tuple #[.bool true,k,v])) {w1 with heap:=w1.heap.setIfInBounds r (cW m l.length (seen++[j]) l.length)}:=by
    simp only[execOp,hop,e1,SV.conc,Sem.run_bind,hrun,Result.andThen_ok]
    rfl
   rw[he]
   exact hK _ _ _ h5 (hR'.put (sv:= .val (.tuple #[.bool true,k,v])) hd trivial) fun _=>by rw[hop];exact hE'
 ·-- entry
  rename_i it hop
  obtain⟨sx,g1,h3⟩:=aG h
  obtain⟨e1,-⟩:=aH hR.env g1
  split at h3
  case h_2=>exact h3.elim
  rename_i r
  obtain⟨m,n,seen,j,l,k,v,hr,hm,hj,h4⟩:=qNk h3
  have hb:w.heap[m]? =some (bV l):=hm.elim (fun h=>hR.sees.1 _ _ h) (fun h=>hR.own.1 _ _ h)
  have hrun:=qKg (P:=C.P) (hR.own.1 _ _ hr) hb hj
  unfold Oper.wp
  have he:(execOp a.eval o).run C.P w= .ok (.value (.tuple #[k,v])) w:=by
   simp only[execOp,hop,e1,SV.conc,Sem.run_bind,hrun,Result.andThen_ok]
   rfl
  rw[he]
  rw[bI]at h4
  exact hK _ _ _ h4 (hR.put (sv:= .val (.tuple #[k,v])) hd trivial) fun _=>Evo.refl _ _ _ _
 ·-- buildSlice
  rename_i t n ps hop
  obtain⟨s1,h,hR,hsame⟩:=jF C.dr ps.toList hR h
  obtain⟨ti,h1,h2⟩:=aO h
  have hk:=(htt.get h1).kind
  split at h2
  case h_2=>exact h2.elim
  rename_i e hkk
  rw[hkk]at hk
  obtain⟨te,h3,h4⟩:=aO h2
  have he:=htt.get h3
  obtain⟨hpos,h4⟩:=jN h4
  obtain⟨hsmall,h5⟩:=qCy h4
  obtain⟨z,hz,hzrun⟩:=he.run_zero w
  obtain⟨h6,h7,h8,h9⟩:=pK hR.env n 0 ps.toList _ h5
  simp only[Nat.zero_mul,List.take_zero,List.nil_append,Nat.zero_add]at h9
  unfold Oper.wp
  have hx:(execOp a.eval o).run C.P w= .ok (.value (.slice (some ⟨w.heap.size,0,none⟩) n n)) (w.alloc (.cells ((ps.toList.map fun p=>a.eval p.2).flatMap aB).toArray e)):=by
   have hsm:¬(2 ^ 24<n*te.size):=by omega
   have hl:(ps.map fun p=>(p.1,a.eval p.2)).toList=ps.toList.map fun p=>(p.1,a.eval p.2):=by simp
   by_cases h0:n*te.size=0
   ·have hf := h9 ((Array.range 0).map fun i => (#[] : Array Value)[i % (#[] : Array Value).size]!) (by simp [h0])
    simp only[execOp,hop,Instr.buildSlice,Sem.run_bind,run_underlying hk,Result.andThen_ok,he.run_sizeOf,hl]
    simp only[h0]at*
    simp only[gt_iff_lt,Nat.not_lt_zero,if_false,if_true,Sem.run_pure,pure_bind]at*
    rw[hf]
    simp[newRow]
   ·have hf := h9 ((Array.range (n * te.size)).map fun i => z.cells[i % z.cells.size]!) (by simp)
    simp only[execOp,hop,Instr.buildSlice,Sem.run_bind,run_underlying hk,Result.andThen_ok,he.run_sizeOf,hl,gt_iff_lt,if_neg hsm,if_neg h0,hzrun,Sem.run_pure]
    rw[hf]
    simp[newRow]
  rw[hx]
  split at h6
  ·rename_i hmo
   have hmn:=hR.mem_none (Nat.le_refl _)
   have h3:=h6 w.heap.size hmn.1 hmn.2
   have h5:K (St.put {s1 with own:=s1.own.set w.heap.size (.cells (List.toArray ((ps.toList.map fun p=>a.eval p.2).flatMap aB)) e (0,0))} o.dst (.val (.slice (some ⟨w.heap.size,0,none⟩) n n))):=by
    refine(bI _ _ _ K).mp ?_;cases s1;exact h3
   exact hK _ _ _ h5 ((hR.newOwnO _).put (sv:= .val (.slice (some ⟨w.heap.size,0,none⟩) n n)) hd trivial) fun hdr=>by rw[hos hdr]at hmo;cases hod:o.dst<;>(rw[hod]at hmo;cases hmo)
  have h10:=h6 w.heap.size
  rw[jP,bI]at h10
  have hlen:(ps.toList.map fun p=>a.eval p.2).length=n:=by simpa using h7
  have hmx:n≤maxLen:=by
   have:n*1≤n*te.size:=Nat.mul_le_mul_left _ (by omega)
   simp only[maxLen];omega
  have hn:=hR.newRow h8 (by rw[hlen];exact hmx) e rfl
  rw[hlen]at hn
  exact hK _ _ _ h10 (hn.1.put hd hn.2) fun hdr=>by
   have e:=hsame hdr
   subst e
   exact(Evo.newB _ _ _ _ hR.nxt fun r hr=>by simp only[LB.blk?,Option.some.injEq]at hr;omega)
 ·-- makeSlice
  rename_i t l c hop
  obtain⟨ti,h1,h2⟩:=aO h
  have hk:=(htt.get h1).kind
  split at h2
  case h_2=>exact h2.elim
  rename_i e hkk
  rw[hkk]at hk
  obtain⟨te,h3,h4⟩:=aO h2
  have he:=htt.get h3
  obtain⟨hpos,h4⟩:=jN h4
  obtain⟨⟨hz1,hz2⟩,h4⟩:=oY he h4
  obtain⟨sl,h5,h6⟩:=aG h4
  obtain⟨e1,-⟩:=aH hR.env h5
  obtain⟨sc,h7,h8⟩:=aG h6
  obtain⟨e2,-⟩:=aH hR.env h7
  split at h8
  case h_2=>exact h8.elim
  rename_i kl l' kc c'
  obtain⟨rfl,n,rfl,hby,hmx,h9⟩:=qKt h8
  obtain⟨inf,hin,hsz,hbt,z,hz,hzc⟩:=he.info'
  have hr:=run_make (P:=C.P) w t e inf z hk hin hz kl kc n n (by omega) (Int.le_refl _) (by rw[hbt,Int.mul_comm];omega) (by simp only[maxLen]at hmx;omega)
  simp only[Int.toNat_natCast]at hr
  unfold Oper.wp
  have hx:(execOp a.eval o).run C.P w= .ok (.value (.slice (some ⟨w.heap.size,0,none⟩) n n)) (w.alloc (.cells (madeCells z.cells (n*inf.size)) e)):=by
   simp[execOp,hop,e1,e2,SV.conc,hr]
  rw[hx]
  have hzv:aB (cU te)=aB z:=by rw[hzc];exact hz1
  have hmk:madeCells z.cells (n*inf.size)=((List.replicate n (cU te)).flatMap aB).toArray:=by
   rw[vE n (cU te) (by rw[hz1];intro h;have:=he.zlen;rw[h]at this;simp at this;omega)]
   rw[hz1,he.zlen,hsz]
   have:(cU te).cells=z.cells:=by apply Array.ext';rw[aR,aR,hzv]
   rw[this]
  split at h9
  ·rename_i hmo
   have hmn:=hR.mem_none (Nat.le_refl _)
   have h3:=h9 w.heap.size hmn.1 hmn.2
   rw[hmk]
   have h5:K (St.put {s with own:=s.own.set w.heap.size (.cells (List.toArray ((List.replicate n (cU te)).flatMap aB)) e (0,0))} o.dst (.val (.slice (some ⟨w.heap.size,0,none⟩) n n))):=by
    refine(bI _ _ _ K).mp ?_;cases s;exact h3
   exact hK _ _ _ h5 ((hR.newOwnO _).put (sv:= .val (.slice (some ⟨w.heap.size,0,none⟩) n n)) hd trivial) fun hdr=>by rw[hos hdr]at hmo;cases hod:o.dst<;>(rw[hod]at hmo;cases hmo)
  have h10:=h9 w.heap.size
  rw[jP,bI]at h10
  have hn:=hR.newRow (xs:=List.replicate n (cU te)) (es:=te.size) (fun x hx=>by
   obtain⟨_,rfl⟩:=List.mem_replicate.1 hx
   rw[hz1]
   exact⟨he.zlen,hz2⟩) (by simpa using hmx) (cells:=madeCells z.cells (n*inf.size)) e hmk
  simp only[List.length_replicate]at hn
  exact hK _ _ _ h10 (hn.1.put hd hn.2) fun _=>(Evo.newB _ _ _ _ hR.nxt fun r hr=>by simp only[LB.blk?,Option.some.injEq]at hr;omega)
 ·-- call
  rename_i c hop
  split at h
  ·rename_i f hc
   obtain⟨sv,h1,h2⟩:=aG h
   obtain⟨e1,-⟩:=aH hR.env h1
   split at h2
   case h_2=>exact h2.elim
   rename_i k first caps
   have h3:=kH hR.env _ _ h2
   rw[qCc,qCc]at h3
   have hans:=qBp hR h3
   unfold Oper.wp
   have harr:(first.toList++c.args.toList.map a.eval++caps.toList).toArray=first++c.args.map a.eval++caps:=by
    apply Array.ext';simp
   rw[harr]at hans
   rcases hans with⟨⟨fn,hfn,hbody,hname⟩,hcalls⟩|⟨v0,w0,hrun,hans⟩
   ·have hx:(execOp a.eval o).run C.P w= .ok (.enter k (first++c.args.map a.eval++caps)) w:=by
     have hb:fn.body≠none:=by cases hb:fn.body<;>simp_all
     have hname:fn.name≠ "runtime.NumGoroutine" :=by simpa using hname
     simp[execOp,hop,resolve,hc,e1,SV.conc,Deferred.ofValue,invoke,callFunc,hfn,hname,hb]
    rw[hx]
    refine hcalls.mono ?_
    rintro e w' ⟨v,s',rfl,hk,hR',hE⟩
    rw[bI]at hk
    refine hK (.val v) _ _ hk (hR'.put (sv:= .val v) hd trivial) fun hdr=>?_
    have hE:=hE hdr
    have how:xE s o.op=true:=by rw[hop];simp only[xE,hc]
    rw[how]
    exact⟨fun b hb _=>hE.keep b hb (by simp),hE.size,hE.le,hE.out,hE.own,hE.nxt,fun t lb' ht h=>(hE.stay t lb' ht h).imp fun lb g=>⟨g.1,g.2.imp id fun g=>absurd g.1 (by simp)⟩,hE.envs,hE.alive⟩
   ·have hx:(execOp a.eval o).run C.P w= .ok (.value v0) w0:=by
     rw[Array.append_assoc]at hrun
     simp[execOp,hop,resolve,hc,e1,SV.conc,Deferred.ofValue,invoke,hrun]
    rw[hx]
    obtain⟨v,s',he,hk,hR',hE⟩:=hans
    obtain rfl:v0=v:=by injection he
    rw[bI]at hk
    refine hK (.val v0) _ _ hk (hR'.put (sv:= .val v0) hd trivial) fun hdr=>?_
    have hE:=hE hdr
    have how:xE s o.op=true:=by rw[hop];simp only[xE,hc]
    rw[how]
    exact⟨fun b hb _=>hE.keep b hb (by simp),hE.size,hE.le,hE.out,hE.own,hE.nxt,fun t lb' ht h=>(hE.stay t lb' ht h).imp fun lb g=>⟨g.1,g.2.imp id fun g=>absurd g.1 (by simp)⟩,hE.envs,hE.alive⟩
  ·rename_i hc
   split at h
   ·rename_i x y t u hca hct
    split at h
    ·rename_i htu
     have htu:=Nat.eq_of_beq_eq_true htu
     subst htu
     obtain⟨sx,h1,h2⟩:=aG h
     obtain⟨e1,o1⟩:=aH hR.env h1
     obtain⟨sy,h3,h4⟩:=aG h2
     obtain⟨e2,o2⟩:=aH hR.env h3
     obtain⟨sv,s',w',h5,h6,h7,h8,h9⟩:=xS (ty:=o.type) htt hR o1 o2 h4
     rw[bI]at h5
     unfold Oper.wp
     have ea:c.args.map a.eval= #[sx.conc,sy.conc]:=by apply Array.ext';simp[hca,e1,e2]
     have et:c.argTypes= #[t,t]:=by apply Array.ext';simp[hct]
     have hx:(execOp a.eval o).run C.P w= .ok (.value sv.conc) w':=by
      simp[execOp,hop,resolve,hc,invoke,builtin,ea,et,h8]
     rw[hx]
     exact hK _ _ _ h5 (h7.put hd h6) (fun _=>by rw[hop];simp only[jK,xE,hc,hca,h1];exact apEvo h9)
    ·obtain ⟨sx, h1, h2⟩ := aG h
     obtain⟨e1,o1⟩:=aH hR.env h1
     obtain⟨sy,h3,h4⟩:=aG h2
     obtain⟨e2,o2⟩:=aH hR.env h3
     obtain⟨sv,s',w',h5,h6,h7,h8,h9⟩:=xJ (ty:=o.type) htt (fun h1 _ h2=>oY h1 h2) hR o1 h4
     rw[bI]at h5
     unfold Oper.wp
     have ea:c.args.map a.eval= #[sx.conc,sy.conc]:=by apply Array.ext';simp[hca,e1,e2]
     have et:c.argTypes= #[t,u]:=by apply Array.ext';simp[hct]
     have hx:(execOp a.eval o).run C.P w= .ok (.value sv.conc) w':=by
      simp[execOp,hop,resolve,hc,invoke,builtin,ea,et,h8]
     rw[hx]
     exact hK _ _ _ h5 (h7.put hd h6) (fun _=>by rw[hop];simp only[jK,xE,hc,hca,h1];exact apEvo h9)
   ·exact h.elim
  ·exact value rfl h
 ·exact value rfl h
theorem Rel.know(hR:Rel E a w s){d:Nat}{b:Bool}(h:bD s.env d=some (.val (.bool b))):Rel E a w (s.put (some d) (.kn b)):=by
 have hs:∀x,aW s x→aW (s.put (some d) (.kn b)) x:=fun x hx=>eF (s:=s) (Nat.le_refl _) (Mem.Le.refl _) (fun t lb' _ h=>⟨lb',h,lb'.alike_refl⟩) hx
 refine⟨hR.defers,hR.size,fun i x hx=>?_,fun t r cs ty h x hx=>hs x (hR.cells t r cs ty h x hx),hR.sees,hR.nxt,hR.place,hR.sep,hR.own,hR.mono,hR.fresh,hR.grow,hR.keep,hR.os,hR.tape,hR.output⟩
 simp only[St.put,aM]at hx
 split at hx
 ·rename_i e
  cases hx
  subst e
  exact⟨(hR.env _ _ h).1,trivial⟩
 ·obtain ⟨h1, h2⟩ := hR.env i x hx
  exact⟨h1,hs _ h2⟩
theorem jD(d:Nat):∀(l:List (Nat×SV)) (i:Nat),bD (l.filter fun p=> !Nat.beq p.1 d) i=if i=d then none else bD l i
 |[],i=>by simp[bD]
 |(j,sv)::l,i=>by
  have ih:=jD d l i
  rw[List.filter_cons]
  by_cases hj:Nat.beq j d=true
  ·have := Nat.eq_of_beq_eq_true hj
   subst this
   simp only[hj,Bool.not_true,Bool.false_eq_true,if_false,ih,aM]
   split<;>rfl
  ·have hj' : Nat.beq j d = false := by cases h : Nat.beq j d <;> simp_all
   have hne:j≠d:=fun e=>by subst e;simp at hj'
   simp only[hj',Bool.not_false,if_true,aM,ih]
   split
   ·rename_i e;subst e;simp[hne]
   ·rfl
def qLw(s s':St):Prop:=s'=s∨∃d b,bD s.env d=some (.val (.bool b))∧s'=s.put (some d) (.kn b)
theorem lC{ops:Array Oper}(hR:Rel E a w s){o:Oper}{yes no:St→Prop}(h:mA ops.toList o s yes no):
  (Region.wanted o (yielded ops a.tmps)=true∧∃s',yes s'∧Rel E a w s'∧qLw s s')∨(Region.wanted o (yielded ops a.tmps)=false∧∃s',no s'∧Rel E a w s'∧qLw s s'):=by
 unfold mA at h
 unfold Region.wanted
 split at h
 ·rename_i hg
  simp only[hg]
  exact .inl ⟨trivial,s,h,hR,.inl rfl⟩
 ·rename_i j want hg
  simp only[hg]
  split at h
  case h_2=>exact h.elim
  rename_i oj hoj
  split at h
  case h_2=>exact h.elim
  rename_i d hd
  simp only[Array.getElem?_toList]at hoj
  have hy:∀b,a.tmps[d]? =some (.bool b)→yielded ops a.tmps j=some b:=fun b hb=>by simp[yielded,hoj,hd,hb]
  split at h
  ·rename_i b hb
   have h1:=hy b (hR.env _ _ hb).1
   rw[h1]
   cases b<;>cases want
   ·exact .inl ⟨rfl,s,h,hR,.inl rfl⟩
   ·exact .inr ⟨rfl,s,h,hR,.inl rfl⟩
   ·exact .inr ⟨rfl,s,h,hR,.inl rfl⟩
   ·exact .inl ⟨rfl,s,h,hR,.inl rfl⟩
  ·rename_i vs hb
   have h1:yielded ops a.tmps j=none:=by simp[yielded,hoj,hd,(hR.env _ _ hb).1,SV.conc]
   rw[h1]
   exact .inr ⟨rfl,s,h,hR,.inl rfl⟩
  ·rename_i b hb
   have h1:=hy b (hR.env _ _ hb).1
   rw[h1]
   cases want
   ·obtain ⟨h2, h3⟩ := qIo h
    rw[bI]at h2 h3
    cases b
    ·exact .inl ⟨rfl,_,h3 rfl,hR.know hb,.inr ⟨_,_,hb,rfl⟩⟩
    ·exact .inr ⟨rfl,_,h2 rfl,hR.know hb,.inr ⟨_,_,hb,rfl⟩⟩
   ·obtain ⟨h2, h3⟩ := qIo h
    rw[bI]at h2 h3
    cases b
    ·exact .inr ⟨rfl,_,h3 rfl,hR.know hb,.inr ⟨_,_,hb,rfl⟩⟩
    ·exact .inl ⟨rfl,_,h2 rfl,hR.know hb,.inr ⟨_,_,hb,rfl⟩⟩
  ·exact h.elim
theorem kW(htt:TTok C.P C.tt)(hn:C.n=E.n)(hos:C.dr=true→C.os=[]){ops:Array Oper}{Q:Exit→Act→World→Prop}:∀(l:List Oper) {s:St} {a:Act} {w:World} {K:St→Prop},Rel E a w s→qBz C ops.toList l s K→
  (∀a' w' s',K s'→Rel E a' w' s'→Q .normal a' w')→wpList C.P ops Q l a w
 |[],s,a,w,K,hR,h,hK=>hK _ _ _ h hR
 |o::r,s,a,w,K,hR,h,hK=>by
  have h:mA ops.toList o s (fun s=>qGu C o s fun s'=>qBz C ops.toList r s' K) (fun s=>xG C.n o.dst (eG s o.dst (.val undef) fun s=>qBz C ops.toList r s K)):=h
  unfold wpList
  rcases lC hR h with⟨hw,s',h1,hR',-⟩|⟨hw,s',h1,hR',-⟩
  ·rw [if_pos hw]
   exact .inl (uE htt hn hos hR' h1 fun v w' s'' hk hR'' _=>kW htt hn hos r hR'' hk hK)
  ·rw [hw, if_neg (by simp)]
   obtain⟨hd,h2⟩:=gZ h1
   rw[bI]at h2
   rw[hn]at hd
   exact kW htt hn hos r (hR'.put (sv:= .val undef) hd trivial) h2 hK
end
end Go.Vx
