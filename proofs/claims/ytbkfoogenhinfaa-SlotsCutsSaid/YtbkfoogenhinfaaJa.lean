/- A typed evaluator: it runs the resolved code over values of Lean's own types, and gives a plain function. -/
import Derived.Test.YtbkfoogenhinfaaLb
set_option linter.unusedVariables false
namespace Go.Ideal
deriving instance DecidableEq for SX,LK,ET,SOp,Item
inductive OK where
 |own
 |obj
 |opt
 |root (i:Nat)
 deriving DecidableEq,Inhabited
@[reducible] def OK.den : OK → Type → Type
  |.own,t=>List t
  |.obj,t=>t
  |.opt,t=>Option t
  |.root _,_=>Unit
inductive Ty where
 |int (k:IntKind)
 |bool
 |str
 |unit
 |lst (t:Ty)
 |pair (a b:Ty)
 |arr (n:Nat) (t:Ty)
 |ow (k:OK) (t:Ty)
 deriving DecidableEq,Inhabited
@[reducible] def Ty.den : Ty → Type
  |.int _=>Int
  |.bool=>Bool
  |.str=>List UInt8
  |.unit=>Unit
  |.lst t=>List t.den
  |.pair a b=>a.den×b.den
  |.arr _ t=>List t.den
  |.ow k t=>k.den t.den
def Ty.n:Ty→Nat
 |.unit=>0
 |.pair a b=>a.n+b.n
 |.arr n t=>n*t.n
 |_=>1
def Ty.dep:Ty→Nat
 |.lst t=>t.dep+1
 |.ow _ t=>t.dep+1
 |.pair a b=>max a.dep b.dep
 |.arr _ t=>t.dep
 |_=>0
def Ty.flat:Ty→Bool
 |.lst _=>false
 |.ow _ _=>false
 |.pair a b=>a.flat&&b.flat
 |.arr _ t=>t.flat
 |_=>true
def Ty.pur:Ty→Bool
 |.lst t=>t.pur
 |.pair a b=>a.pur&&b.pur
 |.arr _ t=>t.pur
 |.ow _ _=>false
 |_=>true
inductive Off where
 |st (o:Nat)
 |dyn (o n sz i o2:Nat)
def Off.val:Off→Nat
 |.st o=>o
 |.dyn o _ sz i o2=>o+i*sz+o2
def Off.add:Off→Nat→Off
 |.st o,d=>.st (o+d)
 |.dyn o n sz i o2,d=>.dyn o n sz i (o2+d)
inductive AV where
 |int (k:IntKind) (x:Int)
 |bool (b:Bool)
 |str (s:List UInt8)
 |nils
 |lst (hp ln:Bool) (t:Ty) (l:List t.den)
 |own (B:Nat)
 |own2 (B:Nat)
 |sub (B off len cap:Nat)
 |nilp
 |ptr (B:Nat) (o:Off)
 |eptr (B i:Nat) (o:Off)
  |eptr2 (B i:Nat) (o:Off)
 |rptr (hp ln:Bool) (cs:List AV) (o:Off)
 |arr (hp ln:Bool) (n:Nat) (t:Ty) (l:List t.den)
 |agg (cs:List AV)
 |tup (vs:List AV)
 |fn (f:Nat) (a b:List AV)
 |nilf
 |mark
  |any
inductive ABlk where
 |arr (wr hp ln:Bool) (t:Ty) (l:List t.den)
 |obj (wr:Bool) (cs:List AV)
 |gone
  |arr2 (wr:Bool) (t:Ty) (l:List t.den) (op:Option (Nat×List AV))
 |fold (wr:Bool) (t:Ty) (x:Option t.den)
 |rt (i B:Nat)
inductive ASV where
 |val (a:AV)
 |box (cs:List AV)
 |lptr (slot:Nat) (o:Off)
 |cst (i:Nat)
abbrev AFr:=List (Nat×ASV)
def AFr.get:AFr→Nat→Option ASV
 |[],_=>none
 |(k,v)::r,t=>if k=t then some v else AFr.get r t
def AFr.put (σ:AFr) (t:Nat) (v:ASV):AFr:=(t,v)::σ
def AFr.keep (σ:AFr):List Nat→AFr
 |[]=>[]
 |t::ts=>match σ.get t with
  |some (.val v)=>(t,.val v)::σ.keep ts
  |some (.box cs)=>(t,.box cs)::σ.keep ts
  |some (.cst i)=>(t,.cst i)::σ.keep ts
  |_=>σ.keep ts
abbrev AHp:=List ABlk
structure ASt where
 fr:AFr
 H:AHp
mutual
def AV.refs:AV→List Nat
 |.own B=>[B]
 |.own2 B=>[B]
 |.sub B _ _ _=>[B]
 |.agg cs=>AV.refsL cs
 |.tup cs=>AV.refsL cs
 |_=>[]
def AV.refsL:List AV→List Nat
 |[]=>[]
 |x::r=>x.refs++AV.refsL r
end
def AV.one:AV→Bool
 |.agg _=>false
 |.tup _=>false
 |.arr ..=>false
 |_=>true
mutual
def ofIV:IV→Option AV
 |.bool b=>some (.bool b)
 |.int k n=>some (.int k n)
 |.str s=>some (.str s)
 |.nils=>some .nils
 |.nilp=>some .nilp
 |.nilf=>some .nilf
 |.agg cs=>(ofIVs cs).bind fun l=>if l.all AV.one then some (.agg l) else none
 |.tup cs=>(ofIVs cs).bind fun l=>some (.tup l)
 |_=>none
def ofIVs:List IV→Option (List AV)
 |[]=>some []
 |x::xs=>(ofIV x).bind fun y=>(ofIVs xs).bind fun ys=>some (y::ys)
end
def AV.w:AV→Nat
 |.arr _ _ n t _=>n*t.n
 |_=>1
def widC:List AV→Nat
 |[]=>0
 |c::r=>c.w+widC r
def AV.flat:AV→Option (List AV)
 |.agg cs=>some cs
 |.tup _=>none
 |.arr ..=>none
 |v=>some [v]
def cellsT (hp ln:Bool):(t:Ty)→t.den→List AV
 |.int k,x=>[.int k x]
 |.bool,x=>[.bool x]
 |.str,x=>[.str x]
 |.unit,_=>[]
 |.lst t,l=>[.lst hp ln t l]
 |.pair a b,x=>cellsT hp ln a x.1++cellsT hp ln b x.2
 |.arr n t,l=>[.arr hp ln n t l]
 |.ow _ _,_=>[]
def splitC:List AV→Nat→Option (List AV×List AV)
 |cs,0=>some ([],cs)
 |[],_+1=>none
 |c::r,n+1=>if c.w≤n+1 then (splitC r (n+1-c.w)).bind fun x=>some (c::x.1,x.2) else none
def Ty.strip:Ty→Ty
 |.pair a b=>.pair a.strip b.strip
 |.ow .own t=>.lst t.strip
 |t=>t
def Ty.noLst:Ty→Bool
 |.pair a b=>a.noLst&&b.noLst
 |.ow .own t=>t.noLst
 |.ow _ _=>false
 |.lst _=>false
 |.arr _ t=>t.flat
 |_=>true
def Ty.sOk:Ty→Bool
 |.pair a b=>a.sOk&&b.sOk
 |.ow .own t=>t.sOk
 |.ow _ _=>false
 |.lst t=>t.pur
 |.arr _ t=>t.pur
 |_=>true
theorem strip_den:∀{t:Ty},t.sOk=true→t.den=t.strip.den
 |.pair a b,h=>by
  simp only[Ty.sOk,Bool.and_eq_true]at h
  simp only[Ty.strip,Ty.den]
  rw[strip_den h.1,strip_den h.2]
 |.ow .own t,h=>by
  simp only[Ty.sOk]at h
  simp only[Ty.strip,Ty.den]
  rw[strip_den h]
 |.ow .obj t,h=>by cases h
 |.ow .opt t,h=>by cases h
 |.ow (.root i) t,h=>by cases h
 |.int _,_=>rfl
 |.bool,_=>rfl
 |.str,_=>rfl
 |.unit,_=>rfl
 |.lst _,_=>rfl
 |.arr _ _,_=>rfl
theorem strip_n:∀{t:Ty},t.strip.n=t.n
 |.pair a b=>by simp only[Ty.strip,Ty.n,strip_n]
 |.ow .own t=>rfl
 |.ow .obj t=>rfl
 |.ow .opt t=>rfl
 |.ow (.root i) t=>rfl
 |.int _=>rfl
 |.bool=>rfl
 |.str=>rfl
 |.unit=>rfl
 |.lst _=>rfl
 |.arr _ _=>rfl
def castT {a b:Ty} (h:a=b) (x:a.den):b.den:=h▸x
def castL {a b:Ty} (h:a=b) (x:List a.den):List b.den:=h▸x
def toL (H:AHp) (t:Ty):AV→Option (List t.den)
 |.nils=>some []
 |.lst _ _ t' l=>if h:t'=t then some (castL h l) else none
 |.own B=>match H[B]? with
  |some (.arr _ _ _ t' l)=>if h:t'=t then some (castL h l) else none
  |_=>none
 |.sub B off len _=>match H[B]? with
  |some (.arr _ _ _ t' l)=>if h:t'=t then some ((castL h l).drop off |>.take len) else none
  |_=>none
 |.str s=>if h:.int .u8=t then some (castL h (s.map fun c=>(c.toNat:Int))) else none
 |_=>none
def toLF (H:AHp) (t:Ty):AV→Option (List t.den)
 |.own2 B=>match H[B]? with
  |some (.arr2 _ t' l none)=>if h:t'.sOk=true∧t'.strip=t then some (castL h.2 (cast (congrArg List (strip_den h.1)) l)) else none
  |_=>none
 |a=>toL H t a
def intsOf (k:IntKind):List AV→Option (List Int)
 |[]=>some []
 |.int k' x::r=>if k'=k then (intsOf k r).bind fun l=>some (x::l) else none
 |_=>none
def toInts (n:Nat) (cs:List AV):(t:Ty)→Option (List t.den×List AV)
 |.int k=>(splitC cs n).bind fun x=>(intsOf k x.1).bind fun l=>if l.length=n then some (l,x.2) else none
 |_=>none
def toArr (n:Nat) (t:Ty) (cs:List AV):Option (List t.den×List AV):=
 match cs with
 |.arr _ _ n' t' l::r=>if h:t'=t then if n'=n then some (castL h l,r) else none else none
 |cs=>toInts n cs t
def toC (H:AHp):(t:Ty)→List AV→Option (t.den×List AV)
 |.int k,.int k' x::r=>if k'=k then some (x,r) else none
 |.bool,.bool x::r=>some (x,r)
 |.str,.str x::r=>some (x,r)
 |.unit,r=>some ((),r)
 |.lst t,.str _::r=>none
 |.lst t,a::r=>(toLF H t a).bind fun l=>some (l,r)
 |.pair a b,cs=>(toC H a cs).bind fun x=>(toC H b x.2).bind fun y=>some ((x.1,y.1),y.2)
 |.arr n t,cs=>toArr n t cs
 |_,_=>none
def AV.hpF (H:AHp):AV→Bool
 |.lst hp _ _ _=>hp
 |.own _=>true
 |.own2 _=>true
 |.any=>true
 |.sub ..=>true
 |.rptr hp _ _ _=>hp
 |.arr hp _ _ _ _=>hp
 |.ptr ..=>true
 |.eptr ..=>true
 |.eptr2 ..=>true
 |.fn ..=>true
 |.agg _=>true
 |.tup _=>true
 |_=>false
def AV.lnF (H:AHp):AV→Bool
 |.lst _ ln _ _=>ln
 |.own B=>match H[B]? with
  |some (.arr _ _ ln t _)=>ln&& !t.flat
  |_=>true
 |.sub B _ _ _=>match H[B]? with
  |some (.arr _ _ ln t _)=>ln&& !t.flat
  |_=>true
 |.own2 B=>match H[B]? with
  |some (.arr2 _ t _ _)=>!t.noLst
  |_=>true
 |.arr _ ln _ _ _=>ln
 |.rptr _ ln _ _=>ln
 |.int ..=>false
 |.bool _=>false
 |.str _=>false
 |.nils=>false
 |.nilp=>false
 |.nilf=>false
 |.mark=>false
 |_=>true
def hpL (H:AHp) (l:List AV):Bool:=l.any (·.hpF H)
def lnL (H:AHp) (l:List AV):Bool:=l.any (·.lnF H)
def AV.hpV (H:AHp):AV→Bool
 |.agg cs=>hpL H cs
 |a=>a.hpF H
def AV.lnV (H:AHp):AV→Bool
 |.agg cs=>lnL H cs
 |a=>a.lnF H
def lnVs (H:AHp) (l:List AV):Bool:=l.any (·.lnV H)
def hpVs (H:AHp) (l:List AV):Bool:=l.any (·.hpV H)
def rowTy:List Ty→Ty
 |[]=>.unit
 |[t]=>t
 |t::u::r=>.pair t (rowTy (u::r))
def consD:(t:Ty)→(r:List Ty)→t.den→(rowTy r).den→(rowTy (t::r)).den
 |_,[],x,_=>x
 |_,_::_,x,y=>(x,y)
def headD:(t:Ty)→(r:List Ty)→(rowTy (t::r)).den→t.den
 |_,[],x=>x
 |_,_::_,x=>x.1
def tailD:(t:Ty)→(r:List Ty)→(rowTy (t::r)).den→(rowTy r).den
 |_,[],_=>()
 |_,_::_,x=>x.2
structure VTy where
 agg:Bool
 t:Ty
 deriving DecidableEq,Inhabited
def ofV (hp ln:Bool) (v:VTy) (x:v.t.den):Option AV:=
 if v.agg then some (.agg (cellsT hp ln v.t x)) else match cellsT hp ln v.t x with
  |[a]=>if a.one then some a else none
  |_=>none
def toV (H:AHp) (v:VTy) (a:AV):Option v.t.den:=
 (if v.agg then match a with | .agg cs=>toC H v.t cs|_=>none
  else if a.one then toC H v.t [a] else none).bind fun x=>match x.2 with
   |[]=>some x.1
   |_=>none
def toVs (H:AHp):(vs:List VTy)→List AV→Option (rowTy (vs.map (·.t))).den
 |[],[]=>some ()
 |v::vs,a::as=>(toV H v a).bind fun x=>(toVs H vs as).bind fun y=>some (consD v.t (vs.map (·.t)) x y)
 |_,_=>none
def ofVs (hp ln:Bool):(vs:List VTy)→(rowTy (vs.map (·.t))).den→Option (List AV)
 |[],_=>some []
 |v::vs,x=>(ofV hp ln v (headD v.t (vs.map (·.t)) x)).bind fun a=>(ofVs hp ln vs (tailD v.t (vs.map (·.t)) x)).bind fun as=>some (a::as)
structure Ct where
 args:List VTy
 res:List VTy
 fresh:Bool
 F:(rowTy (args.map (·.t))).den→Option (rowTy (res.map (·.t))).den
section
variable {R:Type}
def cut (b:Bool) (k:Option R):Option R:=bif b then k else none
def getS (cs:List AV) (o n:Nat) (k:List AV→Option R):Option R:=(splitC cs o).bind fun x=>(splitC x.2 n).bind fun y=>k y.1
def setS (cs:List AV) (o:Nat) (new:List AV) (k:List AV→Option R):Option R:=(splitC cs o).bind fun x=>(splitC x.2 (widC new)).bind fun y=>k (x.1++new++y.2)
def getO (cs:List AV) (o:Off) (n:Nat) (k:List AV→Option R):Option R:=
 match o with
 |.st o=>getS cs o n k
 |.dyn o m sz i o2=>(splitC cs o).bind fun x=>(splitC x.2 (m*sz)).bind fun y=>
  match y.1 with
  |[.arr hp ln m' t l]=>if m'=m∧t.n=sz then (l[i]?).bind fun e=>(splitC (cellsT hp ln t e) o2).bind fun u=>(splitC u.2 n).bind fun v=>k v.1 else none
  |.int kd a::r=>if sz=1∧o2=0∧n=1 then (intsOf kd (.int kd a::r)).bind fun l=>if l.length=m then (l[i]?).bind fun e=>k [.int kd e] else none else getS cs (o+i*sz+o2) n k
  |_=>getS cs (o+i*sz+o2) n k
def setO (H:AHp) (cs:List AV) (o:Off) (new:List AV) (k:List AV→Option R):Option R:=
 match o with
 |.st o=>setS cs o new k
 |.dyn o m sz i o2=>(splitC cs o).bind fun x=>(splitC x.2 (m*sz)).bind fun y=>
  match y.1 with
  |[.arr hp ln m' t l]=>if m'=m∧t.n=sz∧AV.refsL new=[] then (l[i]?).bind fun e=>(splitC (cellsT hp ln t e) o2).bind fun u=>(splitC u.2 (widC new)).bind fun v=>
     (toC H t (u.1++new++v.2)).bind fun z=>match z.2 with
       |[]=>k (x.1++[.arr (hp||hpL H new) (ln||lnL H new) m t (l.set i z.1)]++y.2)
       |_=>none
     else none
  |.int kd a::r=>match new with
   |[.int kd' v]=>if sz=1∧o2=0∧kd'=kd then (intsOf kd (.int kd a::r)).bind fun l=>if l.length=m then cut (decide (i<m)) (k (x.1++[.arr false false m (.int kd) (l.set i v)]++y.2)) else none else setS cs (o+i*sz+o2) new k
   |_=>setS cs (o+i*sz+o2) new k
  |_=>setS cs (o+i*sz+o2) new k
def aget (T:List ASV) (σ:AFr) (n:Nat):Option ASV:=
 match σ.get n with
 |some (.cst i)=>T[i]?
 |r=>r
def ax (T:List ASV) (σ:AFr):SX→Option ASV
 |.t n=>match aget T σ n with
  |some (.box _)=>some (.lptr n (.st 0))
  |r=>r
 |.c v=>(ofIV v).bind fun a=>some (.val a)
 |.f id=>some (.val (.fn id [] []))
def av (T:List ASV) (σ:AFr) (x:SX):Option AV:=
 match ax T σ x with
 |some (.val v)=>some v
 |_=>none
def avs (T:List ASV) (σ:AFr) (xs:List SX):Option (List AV):=mapO (fun x=>av T σ x) xs
def afree (T:List ASV) (σ:AFr) (t:Nat):Bool:=match σ.get t with
 |some (.box _)=>false
 |some (.cst i)=>(match T[i]? with
  |some (.val _)=>true
  |_=>false)
 |_=>true
def aBinI (op:BinOp) (k:IntKind) (a b:Int) (K:AV→Option R):Option R:=
 match op with
 |.add=>K (.int k (k.wrap (a+b)))
 |.sub=>K (.int k (k.wrap (a-b)))
 |.mul=>K (.int k (k.wrap (a*b)))
 |.quo=>bif decide (b=0) then none else K (.int k (k.wrap (a.tdiv b)))
 |.rem=>bif decide (b=0) then none else K (.int k (a.tmod b))
 |.and=>K (.int k (k.wrap (BitVec.ofInt k.bits a&&&BitVec.ofInt k.bits b).toNat))
 |.or=>K (.int k (k.wrap (BitVec.ofInt k.bits a|||BitVec.ofInt k.bits b).toNat))
 |.xor=>K (.int k (k.wrap (BitVec.ofInt k.bits a ^^^ BitVec.ofInt k.bits b).toNat))
 |.andNot=>K (.int k (k.wrap (BitVec.ofInt k.bits a&&&~~~ BitVec.ofInt k.bits b).toNat))
 |.shl=>bif decide (b<0) then none else K (.int k (k.wrap (a*2^min b.toNat k.bits)))
 |.shr=>bif decide (b<0) then none else K (.int k (a.fdiv (2^min b.toNat k.bits)))
 |.eql=>K (.bool (a==b))
 |.neq=>K (.bool (a != b))
 |.lss=>K (.bool (decide (a<b)))
 |.leq=>K (.bool (decide (a≤b)))
 |.gtr=>K (.bool (decide (a>b)))
 |.geq=>K (.bool (decide (a≥b)))
def aBinS (op:BinOp) (a b:List UInt8) (K:AV→Option R):Option R:=
 match op with
 |.add=>bif decide (((a.length+b.length:Nat):Int)>IntKind.i64.max) then none else K (.str (a++b))
 |.eql=>K (.bool (a==b))
 |.neq=>K (.bool (!(a==b)))
 |.lss=>K (.bool (Op.bytesLess a b))
 |.leq=>K (.bool (Op.bytesLess a b||a==b))
 |.gtr=>K (.bool (!(Op.bytesLess a b||a==b)))
 |.geq=>K (.bool (!Op.bytesLess a b))
 |_=>none
def aBin (op:BinOp) (x y:AV) (K:AV→Option R):Option R:=
 match x,y with
 |.int k a,.int l b=>if isShift op||decide (k=l) then aBinI op k a b K else none
 |.str a,.str b=>aBinS op a b K
 |_,_=>none
def aUn (op:UnOp) (x:AV) (K:AV→Option R):Option R:=
 match op,x with
 |.neg,.int k n=>K (.int k (k.wrap (0-n)))
 |.xor,.int k n=>aBinI .xor k (if k.signed then -1 else k.max) n K
 |.not,.bool b=>K (.bool (!b))
 |_,_=>none
def aEqL:LK→AV→AV→Option Bool
 |.i k,.int l a,.int m b=>if k=l∧k=m then some (a==b) else none
 |.b,.bool a,.bool b=>some (a==b)
 |.s,.str a,.str b=>some (a==b)
 |_,_,_=>none
def allI (k:IntKind):List LK→Nat→Option (List LK)
 |ks,0=>some ks
 |.i k'::ks,n+1=>if k'=k then allI k ks n else none
 |_,_=>none
def aEqC:List LK→List AV→List AV→Option Bool
 |ks,.arr _ _ n (.int k) l::xs,.arr _ _ n' (.int k') l'::ys=>if k'=k∧n'=n then (allI k ks n).bind fun ks'=>(aEqC ks' xs ys).bind fun b=>some ((l==l')&&b) else none
 |[],[],[]=>some true
 |k::ks,x::xs,y::ys=>(aEqL k x y).bind fun a=>(aEqC ks xs ys).bind fun b=>some (a&&b)
 |_,_,_=>none
def isPtr (H:AHp):ASV→Bool
 |.lptr ..=>true
 |.val (.ptr B _)=>(match H[B]? with
  |some (.obj ..)=>true
  |_=>false)
 |.val (.eptr B _ _)=>(match H[B]? with
  |some (.arr ..)=>true
  |_=>false)
 |.val (.rptr ..)=>true
 |_=>false
def aNil (H:AHp) (x:ASV) (K:Bool→Option R):Option R:=match x with
 |.val (.ptr B o)=>(match H[B]? with
  |some (.obj ..)=>K false
  |some (.fold _ _ x)=>match o with
   |.st 0=>K x.isNone
   |_=>none
  |_=>none)
 |x=>if isPtr H x then K false else none
def aEq (H:AHp) (t:ET) (x y:ASV) (K:Bool→Option R):Option R:=
 match t with
 |.leaf k=>match x,y with
  |.val x,.val y=>(aEqL k x y).bind K
  |_,_=>none
 |.cells ks=>match x,y with
  |.val (.agg xs),.val (.agg ys)=>(aEqC ks xs ys).bind K
  |_,_=>none
 |.ptr=>match x,y with
  |.val .nilp,.val .nilp=>K true
  |.val .nilp,y=>aNil H y K
  |x,.val .nilp=>aNil H x K
  |_,_=>none
 |.sl=>none
 |.fnc=>match x,y with
  |.val .nilf,.val .nilf=>K true
  |.val .nilf,.val (.fn ..)=>K false
  |.val (.fn ..),.val .nilf=>K false
  |_,_=>none
def aNat (x:AV) (K:Nat→Option R):Option R:=match x with
 |.int _ n=>bif decide (0≤n) then K n.toNat else none
 |_=>none
def aOptNat (T:List ASV) (σ:AFr) (d:Nat) (K:Nat→Option R):Option SX→Option R
 |none=>K d
 |some x=>(av T σ x).bind fun a=>aNat a K
def alen (H:AHp):AV→Option Nat
 |.nils=>some 0
 |.lst _ _ _ l=>some l.length
 |.own B=>match H[B]? with
  |some (.arr _ _ _ _ l)=>some l.length
  |_=>none
 |.own2 B=>match H[B]? with
  |some (.arr2 _ _ l _)=>some l.length
  |_=>none
 |.sub B _ len _=>match H[B]? with
  |some (.arr _ _ _ _ _)=>some len
  |_=>none
 |.str s=>some s.length
 |_=>none
noncomputable def both {R:Type} (c:Bool) (a b:Option R):Option R:=open Classical in if c=true→a=b then b else none
theorem both_eq {R:Type} {c:Bool} {a b:Option R} (h:c=true→a=b):both c a b=b:=by unfold both;rw[if_pos h]
theorem both_self {R:Type} {c:Bool} {a:Option R}:both c a a=a:=both_eq fun _=>rfl
theorem both_some {R:Type} {c:Bool} {a b:Option R} {r:R} (e:both c a b=some r):b=some r∧(c=true→a=some r):=by
 unfold both at e
 split at e
 ·rename_i h;exact⟨e,fun hc=>(h hc).trans e⟩
 ·cases e
noncomputable def aNilS {R:Type} (H:AHp) (a:AV) (K:Bool→Option R):Option R:=match a with
 |.str _=>none
 |a=>(alen H a).bind fun n=>both (n==0) (K true) (K false)
def aoff (i:SX) (n sz j:Nat) (o:Off):Option Off:=match o with
 |.st o=>some (.dyn o n sz j 0)
 |o=>match i with
  |.c _=>some (o.add (j*sz))
  |_=>none
def toEs (H:AHp) (t:Ty):List (List AV)→Option (List t.den)
 |[]=>some []
 |e::r=>(toC H t e).bind fun x=>match x.2 with
  |[]=>(toEs H t r).bind fun l=>some (x.1::l)
  |_=>none
def afillE (T:List ASV) (σ:AFr) (sz:Nat) (es:List (List AV)):List (Nat×SX)→Option (List (List AV))
 |[]=>some es
 |(i,x)::r=>(av T σ x).bind fun v=>v.flat.bind fun vs=>if widC vs=sz∧i<es.length then afillE T σ sz (es.set i vs) r else none
def afillC (T:List ASV) (σ:AFr) (cs:List AV):List (Nat×Nat×SX)→Option (List AV)
 |[]=>some cs
 |(off,n,x)::r=>(av T σ x).bind fun v=>v.flat.bind fun vs=>if widC vs=n then
    (splitC cs off).bind fun u=>(splitC u.2 n).bind fun w=>afillC T σ (u.1++vs++w.2) r else none
def isItA (cs:List AV):Bool:=cs.any fun a=>match a with
 |.mark=>true
 |_=>false
def acells (T:List ASV) (st:ASt) (p:ASV) (n:Nat) (K:List AV→Option R):Option R:=
 match p with
 |.lptr slot o=>match aget T st.fr slot with
  |some (.box cs)=>if isItA cs then none else getO cs o n K
  |_=>none
 |.val (.rptr _ _ cs o)=>getO cs o n K
 |.val (.ptr B o)=>match st.H[B]? with
  |some (.obj _ cs)=>getO cs o n K
  |_=>none
 |.val (.eptr B i o)=>match st.H[B]? with
  |some (.arr _ hp ln t l)=>(l[i]?).bind fun x=>getO (cellsT hp ln t x) o n K
  |_=>none
 |_=>none
def aFrzL:List Nat→AHp→Option AHp
 |[],H=>some H
 |B::r,H=>match H[B]? with
  |some (.arr true _ _ _ _)=>aFrzL r (H.set B .gone)
  |_=>none
def astore (st:ASt) (p:ASV) (vs:List AV) (K:ASt→Option R):Option R:=
 match p with
 |.lptr slot o=>match st.fr.get slot with
  |some (.box cs)=>if isItA cs then none else setO st.H cs o vs fun cs'=>K { st with fr:=st.fr.put slot (.box cs') }
  |_=>none
 |.val (.ptr B o)=>match st.H[B]? with
  |some (.obj true cs)=>setO st.H cs o vs fun cs'=>K { st with H:=st.H.set B (.obj true cs') }
  |_=>none
 |.val (.eptr B i o)=>match st.H[B]? with
  |some (.arr true hp ln t l)=>if AV.refsL vs=[] then (l[i]?).bind fun x=>setO st.H (cellsT hp ln t x) o vs fun cs'=>
    (toC st.H t cs').bind fun z=>match z.2 with
      |[]=>K { st with H:=st.H.set B (.arr true (hp||hpL st.H vs) (ln||lnL st.H vs) t (l.set i z.1)) }
      |_=>none
   else (l[i]?).bind fun x=>setO st.H (cellsT hp ln t x) o vs fun cs'=>
    (toC st.H t cs').bind fun z=>match z.2 with
      |[]=>if (AV.refsL cs').contains B then none else (aFrzL (AV.refsL cs') st.H).bind fun H'=>K { st with H:=H'.set B (.arr true true true t (l.set i z.1)) }
      |_=>none
  |_=>none
 |_=>none
def pureVs (H:AHp) (l:List AV):Bool:=l.all fun a=>match a with
 |.lst .. | .int .. | .bool _ | .str _ | .nils | .arr ..=>true
 |_=>false
variable (cs:Nat→Option Ct) (opn:Nat→Bool) (ety:Nat→Option Ty)
 (icall:Nat→List AV→AHp→(AV→AHp→Option R)→Option R)
def resAV (hp ln:Bool) (vs:List VTy) (x:(rowTy (vs.map (·.t))).den):Option AV:=
 (ofVs hp ln vs x).bind fun l=>match l with
   |[a]=>some a
   |l=>some (.tup l)
def aCallC (f:Nat) (args:List AV) (st:ASt) (k:ASV→ASt→Option R):Option R:=
 (cs f).bind fun c=>(toVs st.H c.args args).bind fun x=>
   if c.fresh|| !(hpVs st.H args) then (c.F x).bind fun r=>(resAV false (!c.fresh&&lnVs st.H args) c.res r).bind fun v=>k (.val v) st else none
def aCallF (f:Nat) (args:List AV) (st:ASt) (k:ASV→ASt→Option R):Option R:=
 if opn f then icall f args st.H fun v H=>k (.val v) { st with H:=H }
 else (cs f).bind fun c=>(toVs st.H c.args args).bind fun x=>
  if c.fresh|| !(hpVs st.H args) then (c.F x).bind fun r=>(resAV false (!c.fresh&&lnVs st.H args) c.res r).bind fun v=>k (.val v) st else none
def aAppN (t:Ty) (bytes:Nat) (hp0 ln0:Bool) (new:List t.den) (a:AV) (st:ASt) (k:ASV→ASt→Option R):Option R:=match a with
     |.nils=>cut (decide (new.length*(bytes+1)≤most)) (k (.val (.own st.H.length)) { st with H:=st.H++[.arr true hp0 ln0 t new] })
     |.own B=>match st.H[B]? with
      |some (.arr true hp ln t' l)=>if h:t'=t then cut (decide ((l.length+new.length)*(bytes+1)≤most))
        (k (.val (.own st.H.length)) { st with H:=st.H.set B .gone++[.arr true (hp||hp0) (ln||ln0) t (castL h l++new)] }) else none
      |_=>none
     |_=>none
noncomputable def aOp (T:List ASV) (st:ASt) (dst:Option Nat) (op:SOp) (k:ASV→ASt→Option R):Option R:=
 match op with
 |.mov x=>(ax T st.fr x).bind fun v=>k v st
 |.pick c a b=>(av T st.fr c).bind fun c=>match c with
  |.bool c=>match av T st.fr a,av T st.fr b with
   |some (.bool x),some (.bool y)=>k (.val (.bool (bif c then x else y))) st
   |some (.int kx x),some (.int ky y)=>if kx=ky then k (.val (.int kx (bif c then x else y))) st else none
   |x,y=>bif c then x.bind fun v=>k (.val v) st else y.bind fun v=>k (.val v) st
  |_=>none
 |.alloc loc sz z=>match z with
  |[e]=>(ofIVs e).bind fun e=>if e.all AV.one then
   (if loc then (match dst with
     |some t=>if afree T st.fr t then k (.box e) st else none
     |none=>none)
   else if widC e=sz∧0<sz then k (.val (.ptr st.H.length (.st 0))) { st with H:=st.H++[.obj true e] } else none) else none
  |_=>none
 |.box loc x=>(av T st.fr x).bind fun v=>v.flat.bind fun vs=>if loc then (match dst with
   |some t=>if afree T st.fr t then k (.box vs) st else none
   |none=>none)
  else if 0<widC vs then k (.val (.ptr st.H.length (.st 0))) { st with H:=st.H++[.obj true vs] } else none
 |.build z ps=>(ofIVs z).bind fun z=>if z.all AV.one then (afillC T st.fr z ps).bind fun cs=>k (.val (.agg cs)) st else none
 |.bsl own sz z len ps=>if z.length=sz∧0<sz∧len*sz≤16777216 then (ofIVs z).bind fun z=>if z.all AV.one then (afillE T st.fr sz (List.replicate len z) ps).bind fun es=>
   (dst.bind ety).bind fun t=>if t.n=sz∧es.all (fun e=>decide (AV.refsL e=[])) then (toEs st.H t es).bind fun l=>
     if own then k (.val (.own st.H.length)) { st with H:=st.H++[.arr true (es.any (hpL st.H)) (es.any (lnL st.H)) t l] }
     else if es.any (hpL st.H) then none else k (.val (.lst false (es.any (lnL st.H)) t l)) st
   else if t.n=sz∧own=true then (toEs st.H t es).bind fun l=>(aFrzL (es.flatMap AV.refsL) st.H).bind fun H'=>
    k (.val (.own H'.length)) { st with H:=H'++[.arr true true true t l] }
   else none else none else none
 |.load n x=>(ax T st.fr x).bind fun p=>match n with
  |none=>acells T st p 1 fun cs=>match cs with
   |[v]=>if v.one then k (.val v) st else none
   |_=>none
  |some n=>acells T st p n fun cs=>k (.val (.agg cs)) st
 |.store n p x=>(ax T st.fr p).bind fun p=>(av T st.fr x).bind fun v=>v.flat.bind fun vs=>if widC vs=n then astore st p vs fun st=>k (.val (.tup [])) st else none
 |.nilc x=>(ax T st.fr x).bind fun v=>if isPtr st.H v then k v st else none
 |.bin op x y=>(av T st.fr x).bind fun a=>(av T st.fr y).bind fun b=>aBin op a b fun v=>k (.val v) st
 |.eq neg t x y=>match t,y with
  |.sl,.c .nils=>(av T st.fr x).bind fun a=>aNilS st.H a fun r=>k (.val (.bool (if neg then !r else r))) st
  |_,_=>(ax T st.fr x).bind fun a=>(ax T st.fr y).bind fun b=>aEq st.H t a b fun r=>k (.val (.bool (if neg then !r else r))) st
 |.un op x=>(av T st.fr x).bind fun a=>aUn op a fun v=>k (.val v) st
 |.cvI kd x=>(av T st.fr x).bind fun a=>match a with
  |.int _ n=>k (.val (.int kd (kd.wrap n))) st
  |_=>none
 |.cvSB own x=>(av T st.fr x).bind fun a=>match a with
  |.str b=>cut (decide (b.length≤most)) (if own then k (.val (.own st.H.length)) { st with H:=st.H++[.arr true false false (.int .u8) (b.map fun c=>(c.toNat:Int))] }
   else k (.val (.lst false false (.int .u8) (b.map fun c=>(c.toNat:Int)))) st)
  |_=>none
 |.cvBS x=>(av T st.fr x).bind fun a=>match a with
  |.str _=>none
  |a=>(toL st.H (.int .u8) a).bind fun l=>k (.val (.str (l.map fun n=>UInt8.ofNat n.toNat))) st
 |.cvLL x=>(av T st.fr x).bind fun a=>match a with
  |.own B=>match st.H[B]? with
   |some (.arr _ _ _ t l)=>if t.n=1 then cut (decide (0<l.length)) (k (.val (.own B)) st) else none
   |_=>none
  |_=>none
 |.cvIS x=>(av T st.fr x).bind fun a=>match a with
  |.int _ n=>k (.val (.str (Utf8.encode n).data.toList)) st
  |_=>none
 |.cvSS x=>(av T st.fr x).bind fun a=>match a with
  |.str b=>k (.val (.str b)) st
  |_=>none
 |.mkF f a b=>match f with
  |.func f=>(avs T st.fr a).bind fun a=>(avs T st.fr b).bind fun b=>k (.val (.fn f a b)) st
  |_=>none
 |.mks sz z bytes l c=>match l,c with
  |.t l',.t c'=>if l'=c' then (av T st.fr l).bind fun n=>match n with
   |.int .i64 n=>(ofIVs z).bind fun z=>(dst.bind ety).bind fun t=>if z.all AV.one∧t.n=sz∧0<sz∧widC z=sz∧AV.refsL z=[]∧hpL st.H z=false∧lnL st.H z=false then (toC st.H t z).bind fun x=>match x.2 with
    |[]=>cut (decide (0≤n∧n*(bytes+1:Nat)≤most)) (k (.val (.own st.H.length)) { st with H:=st.H++[.arr true false false t (List.replicate n.toNat x.1)] })
    |_=>none
    else none
   |_=>none
   else none
  |.c l',.c c'=>if l'=c' then match l' with
   |.int .i64 n=>(ofIVs z).bind fun z=>(dst.bind ety).bind fun t=>if z.all AV.one∧t.n=sz∧0<sz∧widC z=sz∧AV.refsL z=[]∧hpL st.H z=false∧lnL st.H z=false then (toC st.H t z).bind fun x=>match x.2 with
    |[]=>cut (decide (0≤n∧n*(bytes+1:Nat)≤most)) (k (.val (.own st.H.length)) { st with H:=st.H++[.arr true false false t (List.replicate n.toNat x.1)] })
    |_=>none
    else none
   |_=>none
   else none
  |_,_=>none
 |.slS x lo hi=>(av T st.fr x).bind fun a=>match a with
  |.str b=>aOptNat T st.fr 0 (fun l=>aOptNat T st.fr b.length (fun r=>cut (decide (l≤r∧r≤b.length)) (k (.val (.str ((b.drop l).take (r-l)))) st)) hi) lo
  |_=>none
 |.slL sz x lo hi mx=>(av T st.fr x).bind fun a=>(alen st.H a).bind fun n=>aOptNat T st.fr 0 (fun l=>aOptNat T st.fr n (fun r=>
  match mx with
  |none=>(match a with
   |.nils=>cut (decide (l=0∧r=0)) (k (.val .nils) st)
   |.lst hp ln t b=>if t.n=sz then cut (decide (l≤r∧r≤b.length)) (k (.val (.lst hp ln t ((b.drop l).take (r-l)))) st) else none
   |.own B=>match st.H[B]? with
    |some (.arr _ _ _ t b)=>if t.n=sz then cut (decide (l≤r∧r≤b.length)) (k (.val (.sub B l (r-l) (b.length-l))) st) else none
    |_=>none
   |.sub B off len cap=>match st.H[B]? with
    |some (.arr _ _ _ t b)=>if t.n=sz then cut (decide (l≤r∧r≤cap)) (k (.val (.sub B (off+l) (r-l) (cap-l))) st) else none
    |_=>none
   |_=>none)
  |some mm=>(av T st.fr mm).bind fun m=>aNat m fun m=>(match a with
   |.nils=>cut (decide (l=0∧r=0∧m=0)) (k (.val .nils) st)
   |.lst hp ln t b=>(match mm with
    |.c _=>cut (decide (l=0∧r=0∧m=0)) (k (.val .nils) st)
    |_=>if t.n=sz then cut (decide (l≤r∧r≤m∧m≤b.length)) (k (.val (.lst hp ln t ((b.drop l).take (r-l)))) st) else none)
   |.own ..=>cut (decide (l=0∧r=0∧m=0)) (k (.val .nils) st)
   |.sub ..=>cut (decide (l=0∧r=0∧m=0)) (k (.val .nils) st)
   |_=>none)) hi) lo
 |.fadr off x=>(ax T st.fr x).bind fun p=>if isPtr st.H p then match p with
  |.lptr t o=>k (.lptr t (o.add off)) st
  |.val (.ptr B o)=>k (.val (.ptr B (o.add off))) st
  |.val (.eptr B i o)=>k (.val (.eptr B i (o.add off))) st
  |.val (.rptr hp ln cs o)=>k (.val (.rptr hp ln cs (o.add off))) st
  |_=>none
  else none
 |.fld off n x=>(av T st.fr x).bind fun a=>match a with
  |.agg cs=>match n with
   |none=>getO cs (.st off) 1 fun l=>match l with
    |[v]=>if v.one then k (.val v) st else none
    |_=>none
   |some n=>getO cs (.st off) n fun l=>k (.val (.agg l)) st
  |_=>none
 |.iadr sz x i=>(av T st.fr x).bind fun a=>(av T st.fr i).bind fun i=>aNat i fun i=>match a with
  |.lst hp ln t l=>if t.n=sz then (l[i]?).bind fun e=>k (.val (.rptr hp ln (cellsT hp ln t e) (.st 0))) st else none
  |.own B=>match st.H[B]? with
   |some (.arr _ _ _ t l)=>if t.n=sz then cut (decide (i<l.length)) (k (.val (.eptr B i (.st 0))) st) else none
   |_=>none
  |.sub B off len _=>match st.H[B]? with
   |some (.arr _ _ _ t l)=>if t.n=sz then cut (decide (i<len∧off+len≤l.length)) (k (.val (.eptr B (off+i) (.st 0))) st) else none
   |_=>none
  |_=>none
 |.iadrA n sz x i=>(ax T st.fr x).bind fun p=>(av T st.fr i).bind fun iv=>aNat iv fun j=>cut (decide (j<n)) (
   let o':Off→Option Off:=aoff i n sz j
   match p with
   |.lptr t o=>(o' o).bind fun o=>k (.lptr t o) st
   |.val (.rptr hp ln cs o)=>if hp then none else (o' o).bind fun o=>k (.val (.rptr hp ln cs o)) st
   |.val (.ptr B o)=>match st.H[B]? with
    |some (.obj _ cs)=>cut (decide (o.val+n*sz≤widC cs)) ((o' o).bind fun o=>k (.val (.ptr B o)) st)
    |_=>none
   |_=>none)
 |.idxS x i=>(av T st.fr x).bind fun a=>(av T st.fr i).bind fun i=>aNat i fun i=>match a with
  |.str b=>(b[i]?).bind fun c=>k (.val (.int .u8 c.toNat)) st
  |_=>none
 |.idxA n sz isAgg x i=>(av T st.fr x).bind fun a=>(av T st.fr i).bind fun iv=>aNat iv fun j=>match a with
  |.agg cs=>cut (decide (j<n)) (
    (aoff i n sz j (.st 0)).bind fun o=>getO cs o (if isAgg then sz else 1) fun l=>
      if isAgg then k (.val (.agg l)) st else match l with
       |[v]=>if v.one then k (.val v) st else none
       |_=>none)
  |_=>none
 |.ext x i=>(av T st.fr x).bind fun a=>match a with
  |.tup vs=>(vs[i]?).bind fun v=>k (.val v) st
  |_=>none
 |.call f args=>(avs T st.fr args).bind fun l=>aCallF cs opn icall f l st k
 |.callc f args=>(avs T st.fr args).bind fun l=>aCallC cs f l st k
 |.callv f args=>(av T st.fr f).bind fun f=>(avs T st.fr args).bind fun l=>match f with
  |.fn f a b=>aCallF cs opn icall f (a++l++b) st k
  |_=>none
 |.app sz bytes x y=>(av T st.fr x).bind fun a=>(av T st.fr y).bind fun b=>(dst.bind ety).bind fun t=>if t.n=sz∧0<sz then (toL st.H t b).bind fun new=>
   aAppN t bytes (b.hpF st.H) (b.lnF st.H) new a st k
   else none
 |.appz sz bytes z x n=>(av T st.fr x).bind fun a=>(av T st.fr n).bind fun nv=>(ofIVs z).bind fun zc=>(dst.bind ety).bind fun t=>
   if zc.all AV.one∧t.n=sz∧0<sz∧widC zc=sz∧AV.refsL zc=[]∧hpL st.H zc=false∧lnL st.H zc=false then (toC st.H t zc).bind fun v=>match v.2,nv with
    |[],.int .i64 m=>cut (decide (0≤m∧m*(bytes+1:Nat)≤most)) (aAppN t bytes false false (List.replicate m.toNat v.1) a st k)
    |_,_=>none
   else none
 |.cpy sz x y=>(av T st.fr x).bind fun a=>(av T st.fr y).bind fun b=>
   let go (B off len:Nat):Option R:=match st.H[B]? with
    |some (.arr true hp ln t l)=>if t.n=sz∧0<sz then (toL st.H t b).bind fun src=>
      k (.val (.int .i64 (min src.length len:Nat))) { st with H:=st.H.set B (.arr true (hp||b.hpF st.H) (ln||b.lnF st.H) t (l.take off++src.take (min src.length len)++l.drop (off+min src.length len))) } else none
    |_=>none
   match a with
   |.own B=>match st.H[B]? with
    |some (.arr _ _ _ _ l)=>go B 0 l.length
    |_=>none
   |.sub B off len _=>match st.H[B]? with
    |some (.arr _ _ _ _ l)=>cut (decide (off+len≤l.length)) (go B off len)
    |_=>none
   |_=>none
 |.clr sz z x=>(av T st.fr x).bind fun a=>(ofIVs z).bind fun zc=>
   let go (B off len:Nat):Option R:=match st.H[B]? with
    |some (.arr true hp ln t l)=>if zc.all AV.one∧t.n=sz∧0<sz∧widC zc=sz∧AV.refsL zc=[]∧hpL st.H zc=false∧lnL st.H zc=false then (toC st.H t zc).bind fun v=>match v.2 with
      |[]=>k (.val (.tup [])) { st with H:=st.H.set B (.arr true hp ln t (l.take off++List.replicate len v.1++l.drop (off+len))) }
      |_=>none else none
    |_=>none
   match a with
   |.own B=>match st.H[B]? with
    |some (.arr _ _ _ _ l)=>go B 0 l.length
    |_=>none
   |.sub B off len _=>match st.H[B]? with
    |some (.arr _ _ _ _ l)=>cut (decide (off+len≤l.length)) (go B off len)
    |_=>none
   |_=>none
 |.len isStr x=>(av T st.fr x).bind fun a=>match isStr,a with
  |true,.str b=>k (.val (.int .i64 b.length)) st
  |false,.str _=>none
  |false,a=>(alen st.H a).bind fun n=>k (.val (.int .i64 n)) st
  |_,_=>none
 |.lenA n=>k (.val (.int .i64 n)) st
 |.mn x y=>(av T st.fr x).bind fun a=>(av T st.fr y).bind fun b=>match a,b with
  |.int k1 a,.int _ b=>k (.val (.int k1 (if b<a then b else a))) st
  |_,_=>none
 |.mx x y=>(av T st.fr x).bind fun a=>(av T st.fr y).bind fun b=>match a,b with
  |.int k1 a,.int _ b=>k (.val (.int k1 (if b>a then b else a))) st
  |_,_=>none
 |.range x=>(av T st.fr x).bind fun a=>match a,dst with
  |.str b,some t=>if afree T st.fr t then k (.box [.mark,.str b,.int .i64 0]) st else none
  |_,_=>none
 |.next x=>match x with
  |.t t=>match st.fr.get t with
   |some (.box [.mark,.str b,.int .i64 n])=>cut (decide (0≤n)) (bif decide (n.toNat<b.length) then
     k (.val (.tup [.bool true,.int .i64 n.toNat,.int .i32 (signAt b n.toNat).1])) { st with fr:=st.fr.put t (.box [.mark,.str b,.int .i64 (n.toNat+(signAt b n.toNat).2:Nat)]) }
     else k (.val (.tup [.bool false])) st)
   |_=>none
  |_=>none
 |_=>none
end
end Go.Ideal
set_option linter.unusedVariables false
namespace Go.Ideal
def DL:List Ty→Type
 |[]=>Unit
 |t::r=>t.den×DL r
def DL.app:{a b:List Ty}→DL a→DL b→DL (a++b)
 |[],_,_,y=>y
 |_::_,_,x,y=>(x.1,DL.app x.2 y)
def DL.fst:{a b:List Ty}→DL (a++b)→DL a
 |[],_,_=>()
 |_::_,_,x=>(x.1,DL.fst x.2)
def DL.snd:{a b:List Ty}→DL (a++b)→DL b
 |[],_,x=>x
 |_::_,_,x=>DL.snd (a:=_) x.2
def pack:{a:List Ty}→DL a→(rowTy a).den
 |[],_=>()
 |[_],x=>x.1
 |_::_::_,x=>(x.1,pack x.2)
def unpack:{a:List Ty}→(rowTy a).den→DL a
 |[],_=>()
 |[_],x=>(x,())
 |_::_::_,x=>(x.1,unpack x.2)
structure Use where
 own:List Nat
 frz:List Nat
 obj:List Nat
def Use.nil:Use:=⟨[],[],[]⟩
def Use.app (a b:Use):Use:=⟨a.own++b.own,a.frz++b.frz,a.obj++b.obj⟩
def leB (a b:Bool):Bool:=!a||b
def roOf (H:AHp) (i:Nat):Option Nat:=H.findSome? fun x=>match x with
 |.rt j B=>if j=i then some B else none
 |_=>none
def toOwn (H:AHp) (t:Ty):AV→Option (List t.den×Use)
 |.nils=>some ([],Use.nil)
 |.own B=>match H[B]? with
  |some (.arr true hp ln t' l)=>if h:t'=t then some (castL h l,⟨[B],[],[]⟩) else none
  |_=>none
 |_=>none
def toOwnT (H:AHp) (t:Ty):AV→Option (List t.den×Use)
 |.nils=>some ([],Use.nil)
 |.own B=>match H[B]? with
  |some (.arr true hp ln t' l)=>if h:t'=t then if t.pur then some (castL h l,⟨[B],[],[]⟩) else none else none
  |_=>none
 |.own2 B=>match H[B]? with
  |some (.arr2 true t' l none)=>if h:t'=t then if t.pur then none else some (castL h l,⟨[B],[],[]⟩) else none
  |_=>none
 |_=>none
def castO {a b:Ty} (h:a=b) (x:Option a.den):Option b.den:=h▸x
def openOf (H:AHp) (u:Ty):AV→Option (Nat×List u.den×Nat×List AV)
 |.own2 B=>match H[B]? with
  |some (.arr2 true t' l (some y))=>if h:t'=u then if u.pur then none else some (B,castL h l,y.1,y.2) else none
  |_=>none
 |_=>none
def absT (H:AHp):(t:Ty)→List AV→Option ((t.den×List AV)×Use)
 |.pair a b,cs=>(absT H a cs).bind fun x=>(absT H b x.1.2).bind fun y=>some (((x.1.1,y.1.1),y.1.2),x.2.app y.2)
 |.ow .own u,cs=>match cs with
  |a::r=>match openOf H u a with
   |some z=>(absT H u z.2.2.2).bind fun y=>match y.1.2 with
    |[]=>some ((z.2.1.set z.2.2.1 y.1.1,r),⟨z.1::y.2.own,y.2.frz,y.2.obj⟩)
    |_=>none
   |none=>(toOwnT H u a).bind fun x=>some ((x.1,r),x.2)
  |[]=>none
 |.ow .obj u,cs=>match cs with
  |.ptr B (.st 0)::r=>match H[B]? with
   |some (.fold true u' x)=>if h:u'=u then (castO h x).bind fun v=>some ((v,r),⟨[B],[],[]⟩) else none
   |some (.obj true l)=>(absT H u l).bind fun y=>match y.1.2 with
    |[]=>some ((y.1.1,r),⟨B::y.2.own,y.2.frz,y.2.obj⟩)
    |_=>none
   |_=>none
  |_=>none
 |.ow .opt u,cs=>match cs with
  |.nilp::r=>some ((none,r),Use.nil)
  |.ptr B (.st 0)::r=>match H[B]? with
   |some (.fold true u' x)=>if h:u'=u then some ((castO h x,r),⟨[B],[],[]⟩) else none
   |some (.obj true l)=>(absT H u l).bind fun y=>match y.1.2 with
    |[]=>some ((some y.1.1,r),⟨B::y.2.own,y.2.frz,y.2.obj⟩)
    |_=>none
   |_=>none
  |_=>none
 |.ow (.root i) u,cs=>match cs with
  |.ptr B (.st 0)::r=>if roOf H i=some B then (match H[B]? with
    |some (.obj ..)=>some (((),r),Use.nil)
    |some (.fold ..)=>some (((),r),Use.nil)
    |_=>none) else none
  |_=>none
 |t,cs=>(toC H t cs).bind fun x=>some (x,⟨[],AV.refsL (cs.take (cs.length-x.2.length)),[]⟩)
def invT (ro:Nat→Option Nat):(t:Ty)→t.den→AHp→List AV×AHp
 |.pair a b,x,H=>let y:=invT ro a x.1 H;let z:=invT ro b x.2 y.2;(y.1++z.1,z.2)
 |.ow .own u,x,H=>if u.pur then ([.own H.length],H++[.arr true (!u.flat) (!u.flat) u x]) else ([.own2 H.length],H++[.arr2 true u x none])
 |.ow .obj u,x,H=>([.ptr H.length (.st 0)],H++[.fold true u (some x)])
 |.ow .opt u,x,H=>([.ptr H.length (.st 0)],H++[.fold true u x])
 |.ow (.root i) u,x,H=>(match ro i with
  |some B=>[.ptr B (.st 0)]
  |none=>[.any],H)
 |t,x,H=>(cellsT true true t x,H)
inductive SC where
 |ty (hp ln:Bool) (t:Ty)
 |own (t:Ty)
 |mark
 |ow (k:OK) (t:Ty)
 deriving DecidableEq,Inhabited
def SC.hole:SC→Ty
 |.ty _ _ t=>t
 |.mark=>.unit
 |.own t=>.lst t
 |.ow k t=>.ow k t
inductive SK where
 |keep
 |val (hp ln:Bool) (v:VTy)
 |own (t:Ty)
 |box (cs:List SC)
 |obj (cs:List SC)
  |ow (k:OK) (t:Ty)
 |root (t:Ty)
 |groot (t:Ty)
  |agw (t:Ty)
 deriving DecidableEq,Inhabited
def SK.hs:SK→List Ty
 |.keep=>[]
 |.val _ _ v=>[v.t]
 |.own t=>[.lst t]
 |.box cs=>cs.map SC.hole
 |.obj cs=>cs.map SC.hole
 |.ow k t=>[.ow k t]
 |.root t=>[.ow .obj t]
 |.groot t=>[.ow .obj t]
 |.agw t=>[t]
abbrev Shp:=List (Nat×SK)
def Shp.hs:Shp→List Ty
 |[]=>[]
 |(_,k)::r=>k.hs++Shp.hs r
def absC (H:AHp):(cs:List SC)→List AV→Option (DL (cs.map SC.hole)×Use)
 |[],[]=>some ((),Use.nil)
 |.ty hp ln t::r,cs=>(toC H t cs).bind fun x=>(absC H r x.2).bind fun y=>
  if leB (hpL H (cs.take (cs.length-x.2.length))) hp&&leB (lnL H (cs.take (cs.length-x.2.length))) ln then some ((x.1,y.1),⟨y.2.own,AV.refsL (cs.take (cs.length-x.2.length))++y.2.frz,y.2.obj⟩) else none
 |.own t::r,a::cs=>(toOwn H t a).bind fun x=>(absC H r cs).bind fun y=>some ((x.1,y.1),x.2.app y.2)
 |.mark::r,.mark::cs=>(absC H r cs).bind fun y=>some (((),y.1),y.2)
 |.ow k t::r,cs=>(absT H (.ow k t) cs).bind fun x=>(absC H r x.1.2).bind fun y=>some ((x.1.1,y.1),x.2.app y.2)
 |_,_=>none
def ghost:Nat:=1000000
def ghostOf (H:AHp) (t:Nat):Option ASV:=if ghost≤t then (roOf H (t-ghost)).map fun B=>.val (.ptr B (.st 0)) else none
def absK (T:List ASV) (pos:Nat→Option Nat) (base:Nat→Option ASV) (chk:Bool) (st:ASt) (t:Nat):(k:SK)→Option (DL k.hs×Use)
 |.keep=>if ghost≤t then none else match st.fr.get t with
  |some (.cst i)=>if chk then (if pos t=some i then some ((),Use.nil) else none) else some ((),Use.nil)
  |some (.val _)=>if chk then none else some ((),Use.nil)
  |some (.box _)=>if chk then none else some ((),Use.nil)
  |_=>none
 |.val hp ln v=>match aget T st.fr t with
  |some (.val a)=>if leB (a.hpV st.H) hp&&leB (a.lnV st.H) ln then (toV st.H v a).bind fun x=>some ((x,()),⟨[],a.refs,[]⟩) else none
  |_=>none
 |.own u=>match aget T st.fr t with
  |some (.val a)=>(toOwn st.H u a).bind fun x=>some ((x.1,()),x.2)
  |_=>none
 |.box cs=>match aget T st.fr t with
  |some (.box l)=>absC st.H cs l
  |_=>none
 |.obj cs=>match aget T st.fr t,base t with
  |some (.val (.ptr B (.st 0))),some (.val (.ptr B' (.st 0)))=>if B'=B then (match st.H[B]? with
    |some (.obj true l)=>(absC st.H cs l).bind fun x=>some (x.1,⟨x.2.own,x.2.frz,B::x.2.obj⟩)
    |_=>none) else none
  |_,_=>none
 |.root u=>match aget T st.fr t,base t with
  |some (.val (.ptr B (.st 0))),some (.val (.ptr B' (.st 0)))=>if B'=B then (match st.H[B]? with
    |some (.obj true l)=>(absT st.H u l).bind fun x=>match x.1.2 with
     |[]=>some ((x.1.1,()),⟨x.2.own,x.2.frz,B::x.2.obj⟩)
     |_=>none
    |_=>none) else none
  |_,_=>none
 |.groot u=>match base t with
  |some (.val (.ptr B (.st 0)))=>(match st.H[B]? with
    |some (.obj true l)=>(absT st.H u l).bind fun x=>match x.1.2 with
     |[]=>some ((x.1.1,()),⟨x.2.own,x.2.frz,B::x.2.obj⟩)
     |_=>none
    |_=>none)
  |_=>none
 |.agw u=>match aget T st.fr t with
  |some (.val (.agg l))=>(absT st.H u l).bind fun x=>match x.1.2 with
   |[]=>some ((x.1.1,()),x.2)
   |_=>none
  |_=>none
 |.ow k u=>match aget T st.fr t with
  |some (.val a)=>if a.one then (absT st.H (.ow k u) [a]).bind fun x=>match x.1.2 with
    |[]=>some ((x.1.1,()),x.2)
    |_=>none
   else none
  |_=>none
def absS (T:List ASV) (pos:Nat→Option Nat) (base:Nat→Option ASV) (chk:Bool) (st:ASt):(sh:Shp)→Option (DL sh.hs×Use)
 |[]=>some ((),Use.nil)
 |(t,k)::r=>(absK T pos base chk st t k).bind fun x=>(absS T pos base chk st r).bind fun y=>some (x.1.app y.1,x.2.app y.2)
def nodupB:List Nat→Bool
 |[]=>true
 |x::r=>!r.contains x&&nodupB r
def ABlk.wr:ABlk→Bool
 |.arr w _ _ _ _=>w
 |.obj w _=>w
 |.arr2 w _ _ _=>w
 |.fold w _ _=>w
 |_=>false
def wrB (H:AHp) (B:Nat):Bool:=match H[B]? with
 |some x=>x.wr
 |none=>false
def Use.ok (u:Use) (H:AHp):Bool:=nodupB u.own&&nodupB u.obj&&u.frz.all (fun B=>wrB H B&& !u.own.contains B&& !u.obj.contains B)&&u.own.all fun B=>!u.obj.contains B
def boxesIn (T:List ASV) (fr:AFr) (sh:Shp):Bool:=fr.all fun x=>afree T fr x.1||sh.any fun q=>q.1==x.1&&match q.2 with
 |.groot _=>false
 |_=>true
def abs (T:List ASV) (pos:Nat→Option Nat) (base:Nat→Option ASV) (chk:Bool) (st:ASt) (sh:Shp):Option ((rowTy sh.hs).den×Use):=
 (absS T pos base chk st sh).bind fun x=>if x.2.ok st.H&&boxesIn T st.fr sh then some (pack x.1,x.2) else none
def invC (ro:Nat→Option Nat):(cs:List SC)→DL (cs.map SC.hole)→AHp→List AV×AHp
 |[],_,H=>([],H)
 |.ty hp ln t::r,x,H=>let y:=invC ro r x.2 H;(cellsT hp ln t x.1++y.1,y.2)
 |.mark::r,x,H=>let y:=invC ro r x.2 H;(.mark::y.1,y.2)
 |.own t::r,x,H=>let y:=invC ro r x.2 (H++[.arr true (!t.flat) (!t.flat) t x.1]);(.own H.length::y.1,y.2)
 |.ow k t::r,x,H=>let y:=invT ro (.ow k t) x.1 H;let z:=invC ro r x.2 y.2;(y.1++z.1,z.2)
def invK (ro:Nat→Option Nat) (base:Nat→Option ASV) (t:Nat):(k:SK)→DL k.hs→AHp→Option (Option ASV×AHp)
 |.keep,_,H=>(base t).bind fun v=>some (some v,H)
 |.val hp ln v,x,H=>(ofV hp ln v x.1).bind fun a=>some (some (.val a),H)
 |.own u,x,H=>some (some (.val (.own H.length)),H++[.arr true (!u.flat) (!u.flat) u x.1])
 |.box cs,x,H=>let y:=invC ro cs x H;some (some (.box y.1),y.2)
 |.obj cs,x,H=>match base t with
  |some (.val (.ptr B (.st 0)))=>let y:=invC ro cs x H;some (some (.val (.ptr B (.st 0))),y.2.set B (.obj true y.1))
  |_=>none
 |.root u,x,H=>match base t with
  |some (.val (.ptr B (.st 0)))=>let y:=invT ro u x.1 H;some (some (.val (.ptr B (.st 0))),y.2.set B (.obj true y.1))
  |_=>none
 |.groot u,x,H=>match base t with
  |some (.val (.ptr B (.st 0)))=>let y:=invT ro u x.1 H;some (none,y.2.set B (.obj true y.1))
  |_=>none
 |.agw u,x,H=>let y:=invT ro u x.1 H;some (some (.val (.agg y.1)),y.2)
 |.ow k u,x,H=>let y:=invT ro (.ow k u) x.1 H;match y.1 with
  |[a]=>some (some (.val a),y.2)
  |_=>none
def putF (t:Nat):Option ASV→AFr→AFr
 |none,fr=>fr
 |some v,fr=>(t,v)::fr
def invS (ro:Nat→Option Nat) (base:Nat→Option ASV):(sh:Shp)→DL sh.hs→AHp→Option ASt
 |[],_,H=>some ⟨[],H⟩
 |(t,k)::r,x,H=>(invK ro base t k x.fst H).bind fun y=>(invS ro base r x.snd y.2).bind fun z=>some ⟨putF t y.1 z.fr,z.H⟩
def inv (base:Nat→Option ASV) (sh:Shp) (x:(rowTy sh.hs).den) (H:AHp):Option ASt:=invS (roOf H) base sh (unpack x) H
def roB:ABlk→ABlk
 |.arr _ hp ln t l=>.arr false hp ln t l
 |.obj _ cs=>.obj false cs
 |.gone=>.gone
 |.arr2 _ t l op=>.arr2 false t l op
 |.fold _ t x=>.fold false t x
 |.rt i B=>.rt i B
def isRt:ABlk→Bool
 |.rt _ _=>true
 |_=>false
def goneIf (l:List Nat) (ro:Bool):Nat→AHp→AHp
 |_,[]=>[]
 |B,x::r=>(if l.contains B&& !isRt x then .gone else if ro then roB x else x)::goneIf l ro (B+1) r
def rtOk (H H':AHp):Bool:=H'.all fun x=>match x with
 |.rt i _=>(roOf H i).isSome
 |_=>true
def leadsN (H:AHp):Nat→AV→List Nat
 |0,_=>[]
 |n+1,a=>match a with
  |.own B=>[B]
  |.own2 B=>B::match H[B]? with
   |some (.arr2 _ _ _ (some y))=>y.2.flatMap (leadsN H n)
   |_=>[]
  |.sub B _ _ _=>[B]
  |.eptr B _ _=>[B]
  |.eptr2 B _ _=>[B]
  |.ptr B _=>B::match H[B]? with
   |some (.obj _ cs)=>cs.flatMap (leadsN H n)
   |_=>[]
  |.agg cs=>cs.flatMap (leadsN H n)
  |.tup cs=>cs.flatMap (leadsN H n)
  |_=>[]
def leadsS (T:List ASV) (st:ASt) (t:Nat):List Nat:=match (ghostOf st.H t).orElse fun _=>aget T st.fr t with
 |some (.val a)=>leadsN st.H 8 a
 |some (.box cs)=>cs.flatMap (leadsN st.H 8)
 |_=>[]
def roIf (l:List Nat):Nat→AHp→AHp
 |_,[]=>[]
 |B,x::r=>(if l.contains B then x else roB x)::roIf l (B+1) r
def constS (T:List ASV) (σ0:AFr) (raw:List Nat):AFr→Nat→AFr×List ASV×List (Nat×Nat)
 |[],_=>([],[],[])
 |(t,_)::r,i=>match aget T σ0 t with
  |some (.val a)=>if raw.contains t then (let y:=constS T σ0 raw r i;((t,.val a)::y.1,y.2)) else let y:=constS T σ0 raw r (i+1);((t,.cst i)::y.1,.val a::y.2.1,(t,i)::y.2.2)
  |some (.box a)=>if raw.contains t then (let y:=constS T σ0 raw r i;((t,.box a)::y.1,y.2)) else let y:=constS T σ0 raw r (i+1);((t,.cst i)::y.1,.box a::y.2.1,(t,i)::y.2.2)
  |_=>constS T σ0 raw r i
def keepsOf (T:List ASV) (σ:AFr):Shp→Nat→AFr×List ASV×List (Nat×Nat)
 |[],_=>([],[],[])
 |(t,.keep)::r,i=>(match aget T σ t with
  |some (.val v)=>let y:=keepsOf T σ r (i+1);((t,.cst i)::y.1,.val v::y.2.1,(t,i)::y.2.2)
  |some (.box v)=>let y:=keepsOf T σ r (i+1);((t,.cst i)::y.1,.box v::y.2.1,(t,i)::y.2.2)
  |_=>keepsOf T σ r i)
 |_::r,i=>keepsOf T σ r i
def posOf (l:List (Nat×Nat)) (t:Nat):Option Nat:=(l.find? (·.1==t)).map (·.2)
def baseOf (T:List ASV) (H:AHp) (σ:AFr) (t:Nat):Option ASV:=(ghostOf H t).orElse fun _=>match σ.get t with
 |some (.cst i)=>some (.cst i)
 |_=>aget T σ t
inductive ACode where
 |skip
 |reg (its:List Item) (live:List Nat)
 |drw (q0:List Item) (bs:List DB) (live:List Nat)
 |seq (a b:ACode)
 |cond (c:SX) (a b:ACode)
 |block (id:Nat) (c:ACode)
 |loop (head:Shp) (exits:List (Ex×Shp)) (c:ACode)
 |exit (id:Nat)
 |ret
 |bad
 |join (raw:List Nat) (exits:List (Ex×Shp)) (c:ACode)
 |prim (p:Prim)
def ACode.erase:ACode→SCode
 |.skip=>.skip
 |.reg a b=>.reg a b
 |.drw a b c=>.drw a b c
 |.seq a b=>.seq a.erase b.erase
 |.cond c a b=>.cond c a.erase b.erase
 |.block i c=>.block i c.erase
 |.loop _ _ c=>.loop c.erase
 |.exit i=>.exit i
 |.ret=>.ret
 |.bad=>.bad
 |.join _ _ c=>c.erase
 |.prim p=>.prim p
def XT:List (Ex×Shp)→Type
 |[]=>Empty
 |[x]=>(rowTy x.2.hs).den
 |x::y::r=>(rowTy x.2.hs).den⊕XT (y::r)
def absX (T:List ASV) (pos:Nat→Option Nat) (base:Nat→Option ASV) (ex:Ex) (st:ASt):(xs:List (Ex×Shp))→Option (XT xs)
 |[]=>none
 |[x]=>if x.1=ex then (abs T pos base true st x.2).bind fun y=>some y.1 else none
 |x::y::r=>if x.1=ex then (abs T pos base true st x.2).bind fun y=>some (.inl y.1) else (absX T pos base ex st (y::r)).bind fun z=>some (.inr z)
def invX {R:Type} (base:Nat→Option ASV) (H:AHp):(xs:List (Ex×Shp))→XT xs→(Ex→ASt→Option R)→Option R
 |[],_,_=>none
 |[x],v,k=>(inv base x.2 v H).bind fun st=>k x.1 st
 |x::y::r,v,k=>match v with
  |.inl v=>(inv base x.2 v H).bind fun st=>k x.1 st
  |.inr v=>invX base H (y::r) v k
def iterN {S X:Type} (f:S→Option (S⊕X)):Nat→S→Option X
 |0,_=>none
 |n+1,s=>(f s).bind fun r=>match r with
  |.inl s=>iterN f n s
  |.inr x=>some x
noncomputable def iterL {S X:Type} (f:S→Option (S⊕X)) (s:S):Option X:=lim fun n=>iterN f n s
section
variable (cs:Nat→Option Ct) (opn:Nat→Bool) (ety:Nat→Option Ty)
section
variable {R:Type} (icall:Nat→List AV→AHp→(AV→AHp→Option R)→Option R)
def aputS (T:List ASV) (st:ASt) (d:Option Nat) (v:ASV) (k:ASt→Option R):Option R:=match d with
 |none=>k st
 |some t=>if afree T st.fr t then k { st with fr:=st.fr.put t v } else none
def ptrOp:SOp→Option SX
 |.nilc x=>some x
 |.load _ x=>some x
 |.store _ p _=>some p
 |.fadr _ x=>some x
 |.iadrA _ _ x _=>some x
 |.slA _ _ x _ _=>some x
 |_=>none
def aUnf (T:List ASV) (st:ASt) (x:Option SX) (k:ASt→Option R):Option R:=match x.bind (ax T st.fr) with
 |some (.val (.ptr B _))=>match st.H[B]? with
  |some (.fold true t x)=>x.bind fun v=>let y:=invT (roOf st.H) t v st.H;k { st with H:=y.2.set B (.obj true y.1) }
  |_=>k st
 |_=>k st
def seg (cs:List AV) (o n:Nat):Option (List AV):=(splitC cs o).bind fun x=>(splitC x.2 n).bind fun y=>some y.1
def segPut (cs:List AV) (o:Nat) (vs:List AV):Option (List AV):=(splitC cs o).bind fun x=>(splitC x.2 (widC vs)).bind fun y=>some (x.1++vs++y.2)
def AV.plain:AV→Bool
 |.int ..=>true
 |.bool _=>true
 |.str _=>true
 |.lst ..=>true
 |.arr ..=>true
 |_=>false
def close2 (B:Nat) (H:AHp) (k:AHp→Option R):Option R:=match H[B]? with
 |some (.arr2 true t l (some y))=>(absT H t y.2).bind fun z=>match z.1.2 with
  |[]=>if z.2.frz.isEmpty&&nodupB (B::z.2.own) then k ((goneIf z.2.own false 0 H).set B (.arr2 true t (l.set y.1 z.1.1) none)) else none
  |_=>none
 |_=>k H
def val2 (n:Option Nat) (cs:List AV):Option ASV:=match n with
 |none=>(match cs with
  |[v]=>if v.one then some (.val v) else none
  |_=>none)
 |some _=>some (.val (.agg cs))
def load2 (n:Option Nat) (B i o:Nat) (st:ASt) (k:ASV→ASt→Option R):Option R:=close2 B st.H fun H=>match H[B]? with
 |some (.arr2 wr t l none)=>(l[i]?).bind fun e=>(seg (invT (roOf H) t e H).1 o (n.getD 1)).bind fun cs=>
   (val2 n cs).bind fun v=>
   if cs.all AV.plain then k v { st with H:=H } else if wr then k v { st with H:=(invT (roOf H) t e H).2.set B (.arr2 true t l (some (i,(invT (roOf H) t e H).1))) } else none
 |_=>none
def store2 (B i o:Nat) (vs:List AV) (st:ASt) (k:ASV→ASt→Option R):Option R:=match st.H[B]? with
 |some (.arr2 true t l none)=>(l[i]?).bind fun e=>(segPut (invT (roOf st.H) t e st.H).1 o vs).bind fun cs'=>
   close2 B ((invT (roOf st.H) t e st.H).2.set B (.arr2 true t l (some (i,cs')))) fun H'=>k (.val (.tup [])) { st with H:=H' }
 |some (.arr2 true t l (some y))=>bif decide (y.1=i) then (segPut y.2 o vs).bind fun cs'=>
   close2 B (st.H.set B (.arr2 true t l (some (y.1,cs')))) fun H'=>k (.val (.tup [])) { st with H:=H' } else none
 |_=>none
def take2 (H:AHp) (t:Ty):AV→Option (List t.den×Nat)
 |.own2 B=>match H[B]? with
  |some (.arr2 true t' l none)=>if h:t'=t then some (castL h l,B) else none
  |_=>none
 |_=>none
def app2 (bytes:Nat) (t:Ty) (a b:AV) (st:ASt) (k:ASV→ASt→Option R):Option R:=match a with
 |.nils=>(take2 st.H t b).bind fun y=>cut (decide (y.1.length*(bytes+1)≤most)) (k (.val (.own2 st.H.length)) { st with H:=goneIf [y.2] false 0 st.H++[.arr2 true t y.1 none] })
 |.own2 B=>close2 B st.H fun H=>(take2 H t b).bind fun y=>match H[B]? with
  |some (.arr2 true t' l none)=>if h:t'=t then if B=y.2 then none else cut (decide ((l.length+y.1.length)*(bytes+1)≤most))
    (k (.val (.own2 H.length)) { st with H:=goneIf [B,y.2] false 0 H++[.arr2 true t (castL h l++y.1) none] }) else none
  |_=>none
 |_=>none
def absEs (H:AHp) (t:Ty):List (List AV)→Option (List t.den×List Nat)
 |[]=>some ([],[])
 |e::r=>(absT H t e).bind fun z=>match z.1.2 with
  |[]=>if z.2.frz.isEmpty then (absEs H t r).bind fun y=>some (z.1.1::y.1,z.2.own++y.2) else none
  |_=>none
def bsl2 (t:Ty) (es:List (List AV)) (st:ASt) (k:ASV→ASt→Option R):Option R:=(absEs st.H t es).bind fun y=>
 if nodupB y.2 then k (.val (.own2 st.H.length)) { st with H:=goneIf y.2 false 0 st.H++[.arr2 true t y.1 none] } else none
def isE2 (T:List ASV) (st:ASt) (x:SX):Bool:=match ax T st.fr x with
 |some (.val (.eptr2 ..))=>true
 |_=>false
def isV (T:List ASV) (st:ASt) (dst:Option Nat):SOp→Bool
 |.load _ x=>isE2 T st x
 |.store _ p _=>isE2 T st p
 |.fadr _ x=>isE2 T st x
 |.nilc x=>isE2 T st x
 |.iadr _ x _=>match av T st.fr x with
  |some (.own2 _)=>true
  |_=>false
 |.app ..=>match dst.bind ety with
  |some t=>!t.pur
  |none=>false
 |.bsl ..=>match dst.bind ety with
  |some t=>!t.pur
  |none=>false
 |_=>false
def aOpV (T:List ASV) (st:ASt) (dst:Option Nat) (op:SOp) (k:ASV→ASt→Option R):Option R:=match op with
 |.load n x=>match ax T st.fr x with
  |some (.val (.eptr2 B i (.st o)))=>load2 n B i o st k
  |_=>none
 |.store n p x=>match ax T st.fr p with
  |some (.val (.eptr2 B i (.st o)))=>(av T st.fr x).bind fun v=>v.flat.bind fun vs=>if widC vs=n then store2 B i o vs st k else none
  |_=>none
 |.fadr off x=>match ax T st.fr x with
  |some (.val (.eptr2 B i o))=>(match st.H[B]? with
   |some (.arr2 ..)=>k (.val (.eptr2 B i (o.add off))) st
   |_=>none)
  |_=>none
 |.nilc x=>match ax T st.fr x with
  |some (.val (.eptr2 B i o))=>(match st.H[B]? with
   |some (.arr2 ..)=>k (.val (.eptr2 B i o)) st
   |_=>none)
  |_=>none
 |.iadr sz x i=>match av T st.fr x with
  |some (.own2 B)=>(av T st.fr i).bind fun i=>aNat i fun i=>(match st.H[B]? with
   |some (.arr2 _ t l _)=>if t.n=sz then cut (decide (i<l.length)) (k (.val (.eptr2 B i (.st 0))) st) else none
   |_=>none)
  |_=>none
 |.app sz bytes x y=>(av T st.fr x).bind fun a=>(av T st.fr y).bind fun b=>(dst.bind ety).bind fun t=>if t.n=sz∧0<sz then app2 bytes t a b st k else none
 |.bsl own sz z len ps=>if z.length=sz∧0<sz∧len*sz≤16777216 then (ofIVs z).bind fun z=>if z.all AV.one then (afillE T st.fr sz (List.replicate len z) ps).bind fun es=>
   (dst.bind ety).bind fun t=>if t.n=sz∧own=true then bsl2 t es st k else none else none else none
 |_=>none
noncomputable def aOpU (T:List ASV) (st:ASt) (dst:Option Nat) (op:SOp) (k:ASV→ASt→Option R):Option R:=if isV ety T st dst op then aOpV ety T st dst op k else aUnf T st (ptrOp op) fun st=>aOp cs opn ety icall T st dst op k
noncomputable def aIt (T:List ASV) (it:Item) (st:ASt) (k:ASt→Option R):Option R:=match it.g with
 |none=>aOpU cs opn ety icall T st it.dst it.op fun v st=>aputS T st it.dst v k
 |some (t,w)=>match aget T st.fr t with
  |some (.val (.bool b))=>bif b==w then aOpU cs opn ety icall T { st with fr:=st.fr.put t (.val (.bool w)) } it.dst it.op fun v st=>aputS T st it.dst v k
    else aputS T { st with fr:=st.fr.put t (.val (.bool (!w))) } it.dst (.val (.tup [])) k
  |some (.val (.tup []))=>aputS T st it.dst (.val (.tup [])) k
  |_=>none
noncomputable def aIts (T:List ASV):List Item→ASt→(ASt→Option R)→Option R
 |[],st,k=>k st
 |it::r,st,k=>aIt cs opn ety icall T it st fun st=>aIts T r st k
def adstFree (T:List ASV) (σ:AFr) (its:List Item):Bool:=its.all fun it=>match it.dst with
 |some t=>afree T σ t
 |none=>true
end
def flatD (q0:List Item) (bs:List DB):List Item:=q0++bs.flatMap fun b=>b.w::b.qs
def effA (T:List ASV) (σ:AFr):SOp→Option (Option Nat×Bool)
 |.store _ p _=>match ax T σ p with
  |some (.lptr s _)=>some (some s,false)
  |some (.val _)=>some (none,true)
  |_=>none
 |.next x=>match x with
  |.t t=>some (some t,false)
  |_=>none
 |o=>some (none,!o.quiet opn)
def heapFree (T:List ASV) (σ:AFr) (o:SOp):Bool:=o.deaf||match o with
 |.load _ x=>match ax T σ x with
  |some (.lptr _ _)=>true
  |some (.val (.rptr ..))=>true
  |_=>false
 |.slL _ x _ _ _=>match ax T σ x with
  |some (.val (.lst ..))=>true
  |some (.val .nils)=>true
  |_=>false
 |.iadr _ x _=>match ax T σ x with
  |some (.val (.lst ..))=>true
  |some (.val .nils)=>true
  |_=>false
 |_=>false
def keepW (T:List ASV) (σ:AFr) (it c:Item):Bool:=
 (match it.dst with
 |some t=>!c.slots.contains t&&decide (c.dst≠some t)
 |none=>true)&&
 match effA opn T σ it.op with
 |some (b,hp)=>(!hp||heapFree T σ c.op)&&(match b with
  |some s=>c.op.deaf||c.op.slots.all fun t=>match ax T σ (.t t) with
   |some (.lptr s' _)=>s' != s
   |some _=>true
   |none=>false
  |none=>true)
 |none=>false
def keepA (T:List ASV) (st:ASt) (it c:Item):Bool:=
 (match it.dst with
 |some t=>!c.slots.contains t&&decide (c.dst≠some t)
 |none=>true)&&
 match it.op,c.op with
 |.app _ _ x _,.load _ p=>(match av T st.fr x,ax T st.fr p with
  |some (.own B1),some (.val (.ptr B0 _))=>(match st.H[B0]?,st.H[B1]? with
   |some (.obj true _),some (.arr true _ _ _ _)=>B0 != B1
   |_,_=>false)
  |_,_=>false)
 |.bsl ..,.load _ p=>(match ax T st.fr p with
  |some (.val (.ptr B0 _))=>(match st.H[B0]? with
   |some (.obj _ _)=>true
   |_=>false)
  |_=>false)
 |.mks ..,.load _ p=>(match ax T st.fr p with
  |some (.val (.ptr B0 _))=>(match st.H[B0]? with
   |some (.obj _ _)=>true
   |_=>false)
  |_=>false)
 |_,_=>false
def keepV (T:List ASV) (st:ASt) (it c:Item):Bool:=keepW opn T st.fr it c||keepA T st it c
def watchable (σ:AFr) (c:Item):Bool:=c.op.quiet opn&&match c.dst with
 |some t=>!c.slots.contains t&&(match σ.get t with
  |some (.val _)=>true
  |some (.lptr _ _)=>true
  |_=>false)
 |none=>false
def zipD (q0:List Item) (bs:List DB):List (Item×List Item):=q0.map (·,[])++bs.flatMap fun b=>(b.w,b.cs)::b.qs.map (·,[])
def sameK {R:Type} (a b:AV) (K:Option R):Option R:=match a,b with
 |.int k n,.int k' n'=>if k=k' then bif decide (n=n') then K else none else none
 |.bool x,.bool y=>bif x==y then K else none
 |.str x,.str y=>bif x==y then K else none
 |_,_=>none
def sameO {R:Type} (a b:Off) (K:Option R):Option R:=match a,b with
 |.st x,.st y=>if x=y then K else none
 |.dyn o _ sz i o2,.dyn o' _ sz' i' o2'=>if o=o'∧sz=sz'∧o2=o2' then bif decide (i=i') then K else none else none
 |_,_=>none
noncomputable def again1 {R:Type} (icall:Nat→List AV→AHp→(AV→AHp→Option R)→Option R) (T:List ASV) (t:Nat) (c:Item) (st:ASt) (K:Option R):Option R:=match st.fr.get t with
 |some (.val a)=>if c.op.quiet opn then aOpU cs opn ety icall T st (some t) c.op (fun v _=>match v with
  |.val b=>sameK a b K
  |_=>none) else none
 |some (.lptr n o)=>if c.op.quiet opn then aOpU cs opn ety icall T st (some t) c.op (fun v _=>match v with
  |.lptr n' o'=>if n=n' then sameO o o' K else none
  |_=>none) else none
 |_=>none
def skipK {R:Type} (t:Nat) (st:ASt) (K:Option R):Option R:=match st.fr.get t with
 |some (.val (.tup []))=>K
 |_=>none
noncomputable def againK {R:Type} (icall:Nat→List AV→AHp→(AV→AHp→Option R)→Option R) (T:List ASV) (c:Item) (st:ASt) (K:Option R):Option R:=match c.dst with
 |some t=>match c.g with
  |none=>again1 cs opn ety icall T t c st K
  |some (gt,w)=>match aget T st.fr gt with
   |some (.val (.bool b))=>bif b==w then again1 cs opn ety icall T t c st K else skipK t st K
   |some (.val (.tup []))=>skipK t st K
   |_=>none
 |none=>none
noncomputable def againKs {R:Type} (icall:Nat→List AV→AHp→(AV→AHp→Option R)→Option R) (T:List ASV):List Item→ASt→Option R→Option R
 |[],_,K=>K
 |c::r,st,K=>againK cs opn ety icall T c st (againKs icall T r st K)
noncomputable def aDs {R:Type} (icall:Nat→List AV→AHp→(AV→AHp→Option R)→Option R) (T:List ASV):List (Item×List Item)→List Item→ASt→(ASt→Option R)→Option R
 |[],_,st,k=>k st
 |(it,cs')::r,wat,st,k=>aIt cs opn ety icall T it st fun st'=>
    againKs cs opn ety icall T (cs'.filter fun c=>!((wat.filter (keepV opn T st it)).any fun d=>decide (d=c))) st'
     (aDs icall T r (if watchable opn st'.fr it then it::wat.filter (keepV opn T st it) else wat.filter (keepV opn T st it)) st' k)
noncomputable def aC (icall:∀R:Type,Nat→List AV→AHp→(AV→AHp→Option R)→Option R) (lp:∀S X:Type,(S→Option (S⊕X))→S→Option X):ACode→(T:List ASV)→(st:ASt)→{R:Type}→(Ex→ASt→Option R)→Option R
 |.skip,T,st,_,k=>k .normal st
 |.reg its live,T,st,R,k=>aIts cs opn ety (icall R) T its st fun st=>k .normal { st with fr:=st.fr.keep live }
 |.drw q0 bs live,T,st,R,k=>if adstFree T st.fr (flatD q0 bs) then aDs cs opn ety (icall R) T (zipD q0 bs) [] st fun st=>k .normal { st with fr:=st.fr.keep live } else none
 |.seq a b,T,st,R,k=>aC icall lp a T st fun ex st=>match ex with
  |.normal=>aC icall lp b T st k
  |ex=>k ex st
 |.cond c a b,T,st,R,k=>match av T st.fr c with
  |some (.bool b')=>bif b' then aC icall lp a T st k else aC icall lp b T st k
  |_=>none
 |.block id c,T,st,R,k=>aC icall lp c T st fun ex st=>if ex = .exit id then k .normal st else k ex st
 |.loop head exits c,T,st,R,k=>
  let H:=st.H
  let bs:=baseOf T st.H st.fr
  let ks:=keepsOf T st.fr head 0
  let bh:=fun t=>match posOf ks.2.2 t with|some i=>some (.cst i)|none=>(ghostOf st.H t).orElse fun _=>aget T st.fr t
  (abs T (fun _=>none) bh false st head).bind fun x=>
  (lp _ _ (fun s=>(inv bh head s (goneIf (x.2.own++x.2.frz) true 0 st.H)).bind fun st1=>
    aC icall lp c ks.2.1 st1 (R:=(rowTy head.hs).den⊕XT exits) fun ex st=>match ex with
     |.normal=>if rtOk H st.H then (abs ks.2.1 (posOf ks.2.2) bh true st head).bind fun y=>some (.inl y.1) else none
     |ex=>if rtOk H st.H then (absX ks.2.1 (posOf ks.2.2) bs ex st exits).bind fun y=>some (.inr y) else none) x.1).bind fun v=>
  invX bs (goneIf (x.2.own++x.2.frz++x.2.obj) false 0 st.H) exits v k
 |.exit id,T,st,_,k=>k (.exit id) st
 |.ret,T,st,_,k=>k .ret st
 |.bad,_,_,_,_=>none
 |.prim _,_,_,_,_=>none
 |.join raw exits c,T,st,R,k=>
  let H:=st.H
  let bs:=baseOf T st.H st.fr
  let gv:=raw.flatMap (leadsS T st)
  let ks:=constS T st.fr raw st.fr 0
  (aC icall lp c ks.2.1 ⟨ks.1,roIf gv 0 st.H⟩ (R:=XT exits) fun ex st=>if rtOk H st.H then absX ks.2.1 (posOf ks.2.2) bs ex st exits else none).bind fun v=>
  invX bs (goneIf gv false 0 st.H) exits v k
end
end Go.Ideal
set_option linter.unusedVariables false
set_option linter.unusedSimpArgs false
namespace Go.Ideal
def All2 {α β:Type} (r:α→β→Prop):List α→List β→Prop
 |[],[]=>True
 |a::as,b::bs=>r a b∧All2 r as bs
 |_,_=>False
section
variable {α β:Type} {r q:α→β→Prop}
theorem All2.len:∀{l:List α} {m:List β},All2 r l m→m.length=l.length
 |[],[],_=>rfl
 |a::l,b::m,h=>by simp[All2.len h.2]
 |[],_::_,h=>h.elim
 |_::_,[],h=>h.elim
theorem All2.imp (f:∀a b,r a b→q a b):∀{l:List α} {m:List β},All2 r l m→All2 q l m
 |[],[],_=>trivial
 |a::l,b::m,h=>⟨f a b h.1,All2.imp f h.2⟩
 |[],_::_,h=>h.elim
 |_::_,[],h=>h.elim
theorem All2.get:∀{l:List α} {m:List β},All2 r l m→∀{i:Nat} {a:α},l[i]? = some a→∃b,m[i]? = some b∧r a b
 |a::l,b::m,h,0,x,hx=>by simp at hx;subst hx;exact⟨b,rfl,h.1⟩
 |a::l,b::m,h,i+1,x,hx=>by simpa using All2.get h.2 (i:=i) (by simpa using hx)
 |[],[],_,i,x,hx=>by simp at hx
 |[],_::_,h,_,_,_=>h.elim
 |_::_,[],h,_,_,_=>h.elim
theorem All2.app:∀{l:List α} {m:List β} {l':List α} {m':List β},All2 r l m→All2 r l' m'→All2 r (l++l') (m++m')
 |[],[],_,_,_,h=>h
 |a::l,b::m,_,_,h,h'=>⟨h.1,All2.app h.2 h'⟩
 |[],_::_,_,_,h,_=>h.elim
 |_::_,[],_,_,h,_=>h.elim
theorem All2.take:∀(n:Nat) {l:List α} {m:List β},All2 r l m→All2 r (l.take n) (m.take n)
 |0,_,_,_=>by simp[All2]
 |n+1,[],[],h=>by simp[All2]
 |n+1,a::l,b::m,h=>by simpa [All2]using ⟨h.1,All2.take n h.2⟩
 |_+1,[],_::_,h=>h.elim
 |_+1,_::_,[],h=>h.elim
theorem All2.drop:∀(n:Nat) {l:List α} {m:List β},All2 r l m→All2 r (l.drop n) (m.drop n)
 |0,_,_,h=>by simpa using h
 |n+1,[],[],h=>by simp[All2]
 |n+1,a::l,b::m,h=>by simpa using All2.drop n h.2
 |_+1,[],_::_,h=>h.elim
 |_+1,_::_,[],h=>h.elim
theorem All2.set {a:α} {b:β} (hab:r a b):∀(i:Nat) {l:List α} {m:List β},All2 r l m→All2 r (l.set i a) (m.set i b)
 |_,[],[],h=>by simp[All2]
 |0,x::l,y::m,h=>by simpa [All2]using ⟨hab,h.2⟩
 |i+1,x::l,y::m,h=>by simpa [All2]using ⟨h.1,All2.set hab i h.2⟩
 |_,[],_::_,h=>h.elim
 |_,_::_,[],h=>h.elim
theorem All2.map_r {γ:Type} {f:β→γ} {q:α→γ→Prop} (h:∀a b,r a b→q a (f b)):∀{l:List α} {m:List β},All2 r l m→All2 q l (m.map f)
 |[],[],_=>trivial
 |a::l,b::m,hh=>⟨h a b hh.1,All2.map_r h hh.2⟩
 |[],_::_,h=>h.elim
 |_::_,[],h=>h.elim
theorem All2.mem_r:∀{l:List α} {m:List β},All2 r l m→∀b∈m,∃a∈l,r a b
 |a::l,b::m,h,x,hx=>by
  rcases List.mem_cons.1 hx with rfl|hx
  ·exact⟨a,by simp,h.1⟩
  ·obtain⟨y,hy,h'⟩:=All2.mem_r h.2 x hx;exact⟨y,by simp[hy],h'⟩
 |[],[],_,x,hx=>by simp at hx
 |[],_::_,h,_,_=>h.elim
 |_::_,[],h,_,_=>h.elim
theorem All2.repl {a:α} {b:β} (h:r a b):∀n,All2 r (List.replicate n a) (List.replicate n b)
 |0=>trivial
 |n+1=>⟨h,All2.repl h n⟩
end
def TR (p:Bool) (Z:Nat→Prop) (h:Heap) (ln:Bool):(t:Ty)→(hp:Bool)→t.den→List IV→Prop
 |.int k,_,x,c=>c=[.int k x]
 |.bool,_,x,c=>c=[.bool x]
 |.str,_,x,c=>c=[.str x]
 |.unit,_,_,c=>c=[]
 |.lst t,hp,l,c=>∃iv,c=[iv]∧((l=[]∧(iv = .nils∨iv = .esl))∨(∃bo es,iv = .ro bo es∧(bo=true→ln=true∧p=true)∧All2 (TR p Z h ln t false) l es)∨
   (hp=true∧∃b tot off len cap k,iv = .sl b tot off len cap∧Z b∧hget h b tot=some k∧k.sz=t.n∧(off+len≤tot∧len≤cap)∧All2 (TR p Z h ln t true) l ((k.es.drop off).take len)))
 |.pair a b,hp,x,c=>∃u v,c=u++v∧TR p Z h ln a hp x.1 u∧TR p Z h ln b hp x.2 v
 |.arr n t,hp,l,c=>∃es:List (List IV),c=es.flatten∧es.length=n∧All2 (TR p Z h ln t hp) l es
 |.ow _ t,hp,x,c=>False
structure Cf where
 p:Bool
 H:AHp
 m:Nat→Option Nat
 Z:Nat→Prop
 h:Heap
 f:Nat→List Nat
 rt:Nat→Option Nat
def Cf.ft (c:Cf) (B:Nat):List Nat:=(c.m B).toList++c.f B
theorem Cf.ft_m {c:Cf} {B b:Nat} (h:c.m B=some b):b∈c.ft B:=by simp[Cf.ft,h]
theorem Cf.ft_f {c:Cf} {B b:Nat} (h:b∈c.f B):b∈c.ft B:=by simp[Cf.ft,h]
theorem Cf.ft_iff {c:Cf} {B b:Nat}:b∈c.ft B↔c.m B=some b∨b∈c.f B:=by simp[Cf.ft,Option.mem_toList,Option.mem_def]
def OwnR (mb:Option Nat) (n:Nat) (iv:IV):Prop:=match mb with
 |none=>iv = .nils∨iv = .esl
 |some b=>iv = .sl b n 0 n n
def SubR (mb:Option Nat) (n off len cap:Nat) (iv:IV):Prop:=off+cap=n∧len≤cap∧match mb with
 |none=>(iv = .nils∨iv = .esl)∧len=0∧off=0
 |some b=>iv = .sl b n off len cap
def PtrR (c:Cf) (B:Nat) (o:Off) (iv:IV):Prop:=match c.H[B]? with
 |some .gone=>True
 |some (.obj _ _)=>∃b,c.m B=some b∧iv = .ptr b 1 0 o.val
 |some (.fold _ _ _)=>o = .st 0∧match c.m B with
  |none=>iv = .nilp
  |some b=>iv = .ptr b 1 0 0
 |_=>False
theorem PtrR.obj {c:Cf} {B:Nat} {o:Off} {iv:IV} (h:PtrR c B o iv) {wr:Bool} {cs:List AV} (hB:c.H[B]? = some (.obj wr cs)):∃b,c.m B=some b∧iv = .ptr b 1 0 o.val:=by
 unfold PtrR at h;rw[hB]at h;exact h
theorem PtrR.mk {c:Cf} {B b:Nat} {o:Off} {wr:Bool} {cs:List AV} (hB:c.H[B]? = some (.obj wr cs)) (hm:c.m B=some b):PtrR c B o (.ptr b 1 0 o.val):=by
 unfold PtrR;rw[hB];exact⟨b,hm,rfl⟩
def Own2R (c:Cf) (B:Nat) (iv:IV):Prop:=match c.H[B]? with
 |some .gone=>True
 |some (.arr2 _ _ l _)=>OwnR (c.m B) l.length iv
 |_=>False
def Eptr2R (c:Cf) (B i:Nat) (o:Off) (iv:IV):Prop:=match c.H[B]? with
 |some .gone=>True
 |some (.arr2 _ _ l _)=>∃b,c.m B=some b∧iv = .ptr b l.length i o.val∧i<l.length
 |_=>False
def IV.onc:IV→Bool
 |.mark=>false
 |v=>v.one
theorem IV.onc_one {v:IV} (h:v.onc=true):v.one=true:=by cases v<;>first|exact h|cases h
theorem IV.onc_ne {v:IV} (h:v.onc=true):v≠.mark:=by rintro rfl;cases h
mutual
def Va (c:Cf):AV→IV→Prop
 |.int k x,iv=>iv = .int k x
 |.bool b,iv=>iv = .bool b
 |.str s,iv=>iv = .str s
 |.nils,iv=>iv = .nils∨iv = .esl
 |.lst hp ln t l,iv=>TR c.p c.Z c.h ln (.lst t) hp l [iv]
 |.own B,iv=>iv.onc=true∧(c.H[B]? = some .gone∨∃wr hp ln t l,c.H[B]? = some (.arr wr hp ln t l)∧OwnR (c.m B) l.length iv)
 |.sub B off len cap,iv=>iv.onc=true∧(c.H[B]? = some .gone∨∃wr hp ln t l,c.H[B]? = some (.arr wr hp ln t l)∧SubR (c.m B) l.length off len cap iv)
 |.nilp,iv=>iv = .nilp
 |.ptr B o,iv=>iv.onc=true∧PtrR c B o iv
 |.own2 B,iv=>iv.onc=true∧Own2R c B iv
 |.eptr2 B i o,iv=>iv.onc=true∧Eptr2R c B i o iv
 |.eptr B i o,iv=>iv.onc=true∧(c.H[B]? = some .gone∨∃wr hp ln t l b,c.H[B]? = some (.arr wr hp ln t l)∧c.m B=some b∧iv = .ptr b l.length i o.val∧i<l.length)
 |.rptr hp ln cs o,iv=>∃e,Cas c cs e∧((∃bo,iv = .rptr bo e o.val)∨(hp=true∧∃b tot i k,iv = .ptr b tot i o.val∧c.Z b∧hget c.h b tot=some k∧k.es[i]? = some e))
 |.arr ..,iv=>False
 |.agg cs,iv=>∃ivs,iv = .agg ivs∧Cas c cs ivs
 |.tup cs,iv=>∃ivs,iv = .tup ivs∧Vas c cs ivs
 |.fn f a b,iv=>∃a' b',iv = .fn (.func f) a' b'∧Vas c a a'∧Vas c b b'
 |.nilf,iv=>iv = .nilf
 |.mark,iv=>iv = .mark
 |.any,iv=>iv.onc=true
def Ca (c:Cf):AV→List IV→Prop
 |.arr hp ln n t l,u=>TR c.p c.Z c.h ln (.arr n t) hp l u
 |.agg _,_=>False
 |.tup _,_=>False
 |.int k x,u=>u=[.int k x]
 |.bool b,u=>u=[.bool b]
 |.str s,u=>u=[.str s]
 |.nils,u=>∃iv,u=[iv]∧(iv = .nils∨iv = .esl)
 |.lst hp ln t l,u=>TR c.p c.Z c.h ln (.lst t) hp l u
 |.own B,u=>∃iv,u=[iv]∧iv.onc=true∧(c.H[B]? = some .gone∨∃wr hp ln t l,c.H[B]? = some (.arr wr hp ln t l)∧OwnR (c.m B) l.length iv)
 |.sub B off len cap,u=>∃iv,u=[iv]∧iv.onc=true∧(c.H[B]? = some .gone∨∃wr hp ln t l,c.H[B]? = some (.arr wr hp ln t l)∧SubR (c.m B) l.length off len cap iv)
 |.nilp,u=>u=[.nilp]
 |.ptr B o,u=>∃iv,u=[iv]∧iv.onc=true∧PtrR c B o iv
 |.own2 B,u=>∃iv,u=[iv]∧iv.onc=true∧Own2R c B iv
 |.eptr2 B i o,u=>∃iv,u=[iv]∧iv.onc=true∧Eptr2R c B i o iv
 |.eptr B i o,u=>∃iv,u=[iv]∧iv.onc=true∧(c.H[B]? = some .gone∨∃wr hp ln t l b,c.H[B]? = some (.arr wr hp ln t l)∧c.m B=some b∧iv = .ptr b l.length i o.val∧i<l.length)
 |.rptr hp ln cs o,u=>∃iv,u=[iv]∧∃e,Cas c cs e∧((∃bo,iv = .rptr bo e o.val)∨(hp=true∧∃b tot i k,iv = .ptr b tot i o.val∧c.Z b∧hget c.h b tot=some k∧k.es[i]? = some e))
 |.fn f a b,u=>∃a' b',u=[.fn (.func f) a' b']∧Vas c a a'∧Vas c b b'
 |.nilf,u=>u=[.nilf]
 |.mark,u=>u=[.mark]
 |.any,u=>∃iv,u=[iv]∧iv.onc=true
def Cas (c:Cf):List AV→List IV→Prop
 |[],ivs=>ivs=[]
 |a::r,ivs=>∃u v,ivs=u++v∧Ca c a u∧Cas c r v
def Vas (c:Cf):List AV→List IV→Prop
 |[],ivs=>ivs=[]
 |a::r,ivs=>∃u v,ivs=u::v∧Va c a u∧Vas c r v
end
theorem TR.one {p:Bool} {Z:Nat→Prop} {h:Heap} {ln:Bool}:∀{t:Ty} {hp:Bool} {x:t.den} {c:List IV},TR p Z h ln t hp x c→c.length=t.n∧∀v∈c,v.one=true
 |.int k,_,x,c,e=>by simp only[TR]at e;subst e;simp[Ty.n,IV.one]
 |.bool,_,x,c,e=>by simp only[TR]at e;subst e;simp[Ty.n,IV.one]
 |.str,_,x,c,e=>by simp only[TR]at e;subst e;simp[Ty.n,IV.one]
 |.unit,_,x,c,e=>by simp only[TR]at e;subst e;simp[Ty.n]
 |.lst t,hp,l,c,e=>by
  simp only[TR]at e
  obtain⟨iv,rfl,e⟩:=e
  refine⟨rfl,fun v hv=>?_⟩
  simp at hv;subst hv
  rcases e with ⟨_,rfl|rfl⟩|⟨_,_,rfl,_⟩|⟨_,_,_,_,_,_,_,rfl,_⟩<;>rfl
 |.pair a b,hp,x,c,e=>by
  simp only[TR]at e
  obtain⟨u,v,rfl,h1,h2⟩:=e
  have a1:=TR.one h1
  have a2:=TR.one h2
  refine⟨by simp[Ty.n,a1.1,a2.1],fun w hw=>?_⟩
  rcases List.mem_append.1 hw with h|h
  ·exact a1.2 w h
  ·exact a2.2 w h
 |.arr n t,hp,l,c,e=>by
  simp only[TR]at e
  obtain⟨es,rfl,rfl,h1⟩:=e
  have:∀e∈es,e.length=t.n∧∀v∈e,v.one=true:=fun e he=>by
   obtain⟨x,_,hx⟩:=h1.mem_r e he
   exact TR.one hx
  constructor
  ·clear h1 l
   induction es with
   |nil=>simp[Ty.n]
   |cons e es ih=>
    have h2:=ih (fun e he=>this e (by simp[he]))
    have h3:=(this e (by simp)).1
    simp only[Ty.n,List.flatten_cons,List.length_append,List.length_cons]at h2 ⊢
    rw[h2,h3,Nat.add_mul,Nat.one_mul,Nat.add_comm]
  ·intro v hv
   obtain⟨e,he,hv⟩:=List.mem_flatten.1 hv
   exact(this e he).2 v hv
 |.ow _ t,hp,x,c,e=>by simp[TR]at e
theorem cell_val {c:Cf} {a:AV} (ha:a.one=true) {u:List IV}:Ca c a u↔∃iv,u=[iv]∧iv.one=true∧Va c a iv:=by
 cases a<;>simp only[AV.one]at ha<;>try (cases ha)
 case lst hp ln t l=>
  simp only[Ca,Va]
  constructor
  ·intro h
   obtain⟨h1,h2⟩:=TR.one h
   simp only[Ty.n]at h1
   obtain⟨iv,rfl⟩:=List.length_eq_one_iff.1 h1
   exact⟨iv,rfl,h2 iv (by simp),h⟩
  ·rintro⟨iv,rfl,_,h⟩;exact h
 case nils=>
  simp only[Ca,Va]
  constructor
  ·rintro⟨iv,rfl,h⟩;exact⟨iv,rfl,by rcases h with rfl|rfl<;>rfl,h⟩
  ·rintro⟨iv,rfl,_,h⟩;exact⟨iv,rfl,h⟩
 case rptr hp ln cs o=>
  simp only[Ca,Va]
  constructor
  ·rintro⟨iv,rfl,h⟩
   refine⟨iv,rfl,?_,h⟩
   obtain⟨e,_,⟨bo,rfl⟩|⟨_,b,tot,i,k,rfl,_⟩⟩:=h<;>rfl
  ·rintro⟨iv,rfl,_,h⟩;exact⟨iv,rfl,h⟩
 case fn f a b=>
  simp only[Ca,Va]
  constructor
  ·rintro⟨a',b',rfl,h⟩;exact⟨_,rfl,rfl,a',b',rfl,h⟩
  ·rintro⟨iv,rfl,_,a',b',rfl,h⟩;exact⟨a',b',rfl,h⟩
 case own B=>simp only[Ca,Va];exact⟨fun⟨iv,h1,h2,h3⟩=>⟨iv,h1,IV.onc_one h2,h2,h3⟩,fun⟨iv,h1,_,h2,h3⟩=>⟨iv,h1,h2,h3⟩⟩
 case any=>simp only[Ca,Va];exact⟨fun⟨iv,h1,h2⟩=>⟨iv,h1,IV.onc_one h2,h2⟩,fun⟨iv,h1,_,h2⟩=>⟨iv,h1,h2⟩⟩
 case eptr2 B i o=>simp only[Ca,Va];exact⟨fun⟨iv,h1,h2,h3⟩=>⟨iv,h1,IV.onc_one h2,h2,h3⟩,fun⟨iv,h1,_,h2,h3⟩=>⟨iv,h1,h2,h3⟩⟩
 case own2 B=>simp only[Ca,Va];exact⟨fun⟨iv,h1,h2,h3⟩=>⟨iv,h1,IV.onc_one h2,h2,h3⟩,fun⟨iv,h1,_,h2,h3⟩=>⟨iv,h1,h2,h3⟩⟩
 case sub B _ _ _=>simp only[Ca,Va];exact⟨fun⟨iv,h1,h2,h3⟩=>⟨iv,h1,IV.onc_one h2,h2,h3⟩,fun⟨iv,h1,_,h2,h3⟩=>⟨iv,h1,h2,h3⟩⟩
 case ptr B o=>simp only[Ca,Va];exact⟨fun⟨iv,h1,h2,h3⟩=>⟨iv,h1,IV.onc_one h2,h2,h3⟩,fun⟨iv,h1,_,h2,h3⟩=>⟨iv,h1,h2,h3⟩⟩
 case eptr B i o=>simp only[Ca,Va];exact⟨fun⟨iv,h1,h2,h3⟩=>⟨iv,h1,IV.onc_one h2,h2,h3⟩,fun⟨iv,h1,_,h2,h3⟩=>⟨iv,h1,h2,h3⟩⟩
 all_goals
  simp only[Ca,Va]
  constructor
  ·rintro rfl;exact⟨_,rfl,rfl,rfl⟩
  ·rintro⟨iv,rfl,_,rfl⟩;rfl
theorem Ca.len {c:Cf} {a:AV} {u:List IV} (h:Ca c a u):u.length=a.w∧∀v∈u,v.one=true:=by
 cases hh:a.one with
 |true=>
  obtain⟨iv,rfl,h1,_⟩:=(cell_val hh).1 h
  refine⟨?_,by simpa using h1⟩
  cases a<;>simp_all [AV.one,AV.w]
 |false=>
  cases a<;>simp only[AV.one,Bool.true_eq_false]at hh
  case agg=>exact h.elim
  case tup=>exact h.elim
  case arr hp ln n t l=>exact TR.one h
theorem Cas.len {c:Cf}:∀{cs:List AV} {u:List IV},Cas c cs u→u.length=widC cs∧∀v∈u,v.one=true
 |[],u,h=>by simp only[Cas]at h;subst h;simp[widC]
 |a::r,u,h=>by
  simp only[Cas]at h
  obtain⟨x,y,rfl,h1,h2⟩:=h
  have:=Ca.len h1
  have:=Cas.len h2
  refine⟨by simp[widC, *],fun v hv=>?_⟩
  rcases List.mem_append.1 hv with h|h
  ·exact(Ca.len h1).2 v h
  ·exact(Cas.len h2).2 v h
theorem Cas.app {c:Cf}:∀{cs ds:List AV} {u v:List IV},Cas c cs u→Cas c ds v→Cas c (cs++ds) (u++v)
 |[],ds,u,v,h,h'=>by simp only[Cas]at h;subst h;simpa using h'
 |a::r,ds,u,v,h,h'=>by
  simp only[Cas]at h
  obtain⟨x,y,rfl,h1,h2⟩:=h
  exact⟨x,y++v,by simp,h1,Cas.app h2 h'⟩
theorem Cas.splitA {c:Cf}:∀{cs ds:List AV} {u:List IV},Cas c (cs++ds) u→∃x y,u=x++y∧Cas c cs x∧Cas c ds y
 |[],ds,u,h=>⟨[],u,rfl,rfl,h⟩
 |a::r,ds,u,h=>by
  simp only[List.cons_append,Cas]at h
  obtain⟨x,y,rfl,h1,h2⟩:=h
  obtain⟨p,q,rfl,h3,h4⟩:=Cas.splitA h2
  exact⟨x++p,q,by simp,⟨x,p,rfl,h1,h3⟩,h4⟩
theorem splitC_eq:∀{cs:List AV} {n:Nat} {x:List AV×List AV},splitC cs n=some x→cs=x.1++x.2∧widC x.1=n
 |cs,0,x,h=>by simp only[splitC,Option.some.injEq]at h;subst h;simp[widC]
 |[],n+1,x,h=>by simp[splitC]at h
 |c::r,n+1,x,h=>by
  simp only[splitC]at h
  split at h
  ·rename_i hw
   obtain⟨y,hy,e⟩:=bind_some'.1 h
   simp only[Option.some.injEq]at e
   subst e
   obtain⟨h1,h2⟩:=splitC_eq hy
   refine⟨by simp[←h1],?_⟩
   simp only[widC,h2];omega
  ·cases h
theorem Cas.split {c:Cf} {cs:List AV} {u:List IV} (h:Cas c cs u) {n:Nat} {x:List AV×List AV} (e:splitC cs n=some x):
 Cas c x.1 (u.take n)∧Cas c x.2 (u.drop n)∧n≤u.length:=by
 obtain⟨h1,h2⟩:=splitC_eq e
 rw[h1]at h
 obtain⟨a,b,rfl,ha,hb⟩:=Cas.splitA h
 have:=(Cas.len ha).1
 rw[h2]at this
 subst this
 simp only[List.take_left,List.drop_left,List.length_append]
 exact⟨ha,hb,by omega⟩
theorem Cas.cons {c:Cf} {a:AV} {r:List AV} {x y:List IV} (h:Ca c a x) (h':Cas c r y):Cas c (a::r) (x++y):=⟨x,y,rfl,h,h'⟩
theorem Cas.single {c:Cf} {a:AV} {u:List IV}:Cas c [a] u↔Ca c a u:=by
 simp only[Cas]
 constructor
 ·rintro⟨x,y,rfl,h,rfl⟩;simpa using h
 ·intro h;exact⟨u,[],by simp,h,rfl⟩
theorem Vas.len {c:Cf}:∀{l:List AV} {m:List IV},Vas c l m→m.length=l.length
 |[],m,h=>by simp only[Vas]at h;subst h;rfl
 |a::r,m,h=>by simp only[Vas]at h;obtain⟨u,v,rfl,_,h⟩:=h;simp[Vas.len h]
theorem Vas.app {c:Cf}:∀{l l':List AV} {m m':List IV},Vas c l m→Vas c l' m'→Vas c (l++l') (m++m')
 |[],l',m,m',h,h'=>by simp only[Vas]at h;subst h;simpa using h'
 |a::r,l',m,m',h,h'=>by
  simp only[Vas]at h;obtain⟨u,v,rfl,h1,h⟩:=h
  exact⟨u,v++m',by simp,h1,Vas.app h h'⟩
theorem Vas.get {c:Cf}:∀{l:List AV} {m:List IV} {i:Nat} {a:AV},Vas c l m→l[i]? = some a→∃v,m[i]? = some v∧Va c a v
 |a::r,m,0,x,h,e=>by
  simp at e;subst e
  simp only[Vas]at h;obtain⟨u,v,rfl,h1,h⟩:=h
  exact⟨u,rfl,h1⟩
 |a::r,m,i+1,x,h,e=>by
  simp only[Vas]at h;obtain⟨u,v,rfl,h1,h⟩:=h
  simpa using Vas.get h (by simpa using e)
 |[],m,i,x,h,e=>by simp at e
theorem cellsT_ok {c:Cf} {hp ln:Bool}:∀{t:Ty} {x:t.den} {u:List IV},TR c.p c.Z c.h ln t hp x u→Cas c (cellsT hp ln t x) u
 |.int k,x,u,h=>by simp only[cellsT,Cas.single,Ca];exact h
 |.bool,x,u,h=>by simp only[cellsT,Cas.single,Ca];exact h
 |.str,x,u,h=>by simp only[cellsT,Cas.single,Ca];exact h
 |.unit,x,u,h=>by simp only[cellsT,Cas];exact h
 |.lst t,x,u,h=>by simp only[cellsT,Cas.single,Ca];exact h
 |.pair a b,x,u,h=>by
  simp only[TR]at h
  obtain⟨y,z,rfl,h1,h2⟩:=h
  simp only[cellsT]
  exact Cas.app (cellsT_ok h1) (cellsT_ok h2)
 |.arr n t,x,u,h=>by simp only[cellsT,Cas.single,Ca];exact h
 |.ow _ t,x,u,h=>by simp[TR]at h
theorem TR.flags {p:Bool} {Z:Nat→Prop} {h:Heap} {ln ln':Bool} (l1:ln=true→ln'=true):∀{t:Ty} {hp hp':Bool} (h1:hp=true→hp'=true) {x:t.den} {c:List IV},TR p Z h ln t hp x c→TR p Z h ln' t hp' x c
 |.int k,_,_,_,x,c,e=>by simpa only[TR]using e
 |.bool,_,_,_,x,c,e=>by simpa only[TR]using e
 |.str,_,_,_,x,c,e=>by simpa only[TR]using e
 |.unit,_,_,_,x,c,e=>by simpa only[TR]using e
 |.lst t,hp,hp',h1,l,c,e=>by
  simp only[TR]at e ⊢
  obtain⟨iv,rfl,e⟩:=e
  refine⟨iv,rfl,?_⟩
  rcases e with e|⟨bo,es,rfl,e1,e2⟩|⟨e0,b,tot,off,len,cap,k,rfl,e1,e2,e3,e4,e5⟩
  ·exact .inl e
  ·exact .inr (.inl ⟨bo,es,rfl,fun hb=>⟨l1 (e1 hb).1,(e1 hb).2⟩,e2.imp fun a b h=>TR.flags l1 (fun h=>h) h⟩)
  ·exact .inr (.inr ⟨h1 e0,b,tot,off,len,cap,k,rfl,e1,e2,e3,e4,e5.imp fun a b h=>TR.flags l1 (fun h=>h) h⟩)
 |.pair a b,hp,hp',h1,x,c,e=>by
  simp only[TR]at e ⊢
  obtain⟨u,v,rfl,h2,h3⟩:=e
  exact⟨u,v,rfl,TR.flags l1 h1 h2,TR.flags l1 h1 h3⟩
 |.arr n t,hp,hp',h1,l,c,e=>by
  simp only[TR]at e ⊢
  obtain⟨es,rfl,h2,h3⟩:=e
  exact⟨es,rfl,h2,h3.imp fun a b h=>TR.flags l1 h1 h⟩
 |.ow _ t,_,_,_,x,c,e=>by simp[TR]at e
theorem hget_iff {h:Heap} {b tot:Nat} {k:Blk}:hget h b tot=some k↔h[b]? = some (some k)∧k.es.length=tot:=by
 unfold hget
 split
 ·rename_i k' e
  rw[e]
  constructor
  ·intro h'
   split at h'
   ·simp at h';subst h';exact⟨rfl,‹_›⟩
   ·cases h'
  ·rintro⟨h1,h2⟩
   simp at h1;subst h1;rw[if_pos h2]
 ·rename_i hno
  constructor
  ·intro h';cases h'
  ·rintro⟨h1,_⟩;exact(hno k h1).elim
structure ZLe (Z Z':Nat→Prop) (h h':Heap):Prop where
 z:∀b,Z b→Z' b
 h:∀b,Z b→h'[b]? = h[b]?
theorem TR.mono {p:Bool} {Z Z':Nat→Prop} {h h':Heap} (le:ZLe Z Z' h h') {ln:Bool}:∀{t:Ty} {hp:Bool} {x:t.den} {c:List IV},TR p Z h ln t hp x c→TR p Z' h' ln t hp x c
 |.int k,_,x,c,e=>by simpa only[TR]using e
 |.bool,_,x,c,e=>by simpa only[TR]using e
 |.str,_,x,c,e=>by simpa only[TR]using e
 |.unit,_,x,c,e=>by simpa only[TR]using e
 |.lst t,hp,l,c,e=>by
  simp only[TR]at e ⊢
  obtain⟨iv,rfl,e⟩:=e
  refine⟨iv,rfl,?_⟩
  rcases e with e|⟨bo,es,rfl,e1,e2⟩|⟨e0,b,tot,off,len,cap,k,rfl,e1,e2,e3,e4,e5⟩
  ·exact .inl e
  ·exact .inr (.inl ⟨bo,es,rfl,e1,e2.imp fun a b h=>TR.mono le h⟩)
  ·refine .inr (.inr ⟨e0,b,tot,off,len,cap,k,rfl,le.z b e1,?_,e3,e4,e5.imp fun a b h=>TR.mono le h⟩)
   rw[hget_iff]at e2 ⊢
   exact⟨by rw[le.h b e1];exact e2.1,e2.2⟩
 |.pair a b,hp,x,c,e=>by
  simp only[TR]at e ⊢
  obtain⟨u,v,rfl,h2,h3⟩:=e
  exact⟨u,v,rfl,TR.mono le h2,TR.mono le h3⟩
 |.arr n t,hp,l,c,e=>by
  simp only[TR]at e ⊢
  obtain⟨es,rfl,h2,h3⟩:=e
  exact⟨es,rfl,h2,h3.imp fun a b h=>TR.mono le h⟩
 |.ow _ t,_,x,c,e=>by simp[TR]at e
def blkLe (mb:Option Nat):ABlk→ABlk→Prop
 |.arr _ _ _ _ l,.arr _ _ _ _ l'=>l'.length=l.length
 |.obj _ _,.obj _ _=>True
 |.arr2 _ _ l _,.arr2 _ _ l' _=>l'.length=l.length
 |.fold _ _ _,.fold _ _ _=>True
 |.fold _ _ _,.obj _ _=>mb≠none
 |.rt i B,.rt j B'=>j=i∧B'=B
 |_,_=>False
structure Le (c c':Cf):Prop where
 p:c'.p=c.p
 H:∀B x,c.H[B]? = some x→c'.m B=c.m B∧∃y,c'.H[B]? = some y∧(y = .gone∨blkLe (c.m B) x y)
 Z:ZLe c.Z c'.Z c.h c'.h
 rt:∀i b,c.rt i=some b→c'.rt i=some b
theorem blkLe.rfl' (m:Option Nat) (x:ABlk):x = .gone∨blkLe m x x:=by cases x<;>simp[blkLe]
theorem blkLe.trans {m:Option Nat} {x y z:ABlk} (h:blkLe m x y) (h':blkLe m y z):blkLe m x z:=by
 cases x<;>cases y<;>cases z<;>simp_all [blkLe]
theorem Le.refl (c:Cf):Le c c:=⟨rfl,fun B x h=>⟨rfl,x,h,blkLe.rfl' _ x⟩,⟨fun _ h=>h,fun _ _=>rfl⟩,fun _ _ h=>h⟩
theorem blkLe.gone {m:Option Nat} {x:ABlk}:¬blkLe m .gone x:=by cases x<;>simp[blkLe]
theorem Le.trans {a b c:Cf} (h:Le a b) (h':Le b c):Le a c:=by
 refine⟨h'.p.trans h.p,fun B x hx=>?_,⟨fun i hi=>h'.Z.z i (h.Z.z i hi),fun i hi=>(h'.Z.h i (h.Z.z i hi)).trans (h.Z.h i hi)⟩,fun i b hb=>h'.rt i b (h.rt i b hb)⟩
 obtain⟨m,y,hy,e⟩:=h.H B x hx
 obtain⟨m',z,hz,e'⟩:=h'.H B y hy
 refine⟨m'.trans m,z,hz,?_⟩
 rcases e' with e'|e'
 ·exact .inl e'
 ·rcases e with rfl|e
  ·exact(blkLe.gone e').elim
  ·rw[m]at e';exact .inr (e.trans e')
section
variable {c c':Cf} (hle:Le c c')
include hle
set_option linter.unusedSectionVars false
theorem Le.gone {B:Nat} (h:c.H[B]? = some .gone):c'.H[B]? = some .gone:=by
 obtain⟨_,y,hy,rfl|e⟩:=hle.H B _ h
 ·exact hy
 ·exact(blkLe.gone e).elim
theorem Le.arr {B:Nat} {wr hp ln t l} (h:c.H[B]? = some (.arr wr hp ln t l)):c'.H[B]? = some .gone∨∃wr hp ln t l',c'.H[B]? = some (.arr wr hp ln t l')∧l'.length=l.length∧c'.m B=c.m B:=by
 obtain⟨m,y,hy,rfl|e⟩:=hle.H B _ h
 ·exact .inl hy
 ·cases y<;>simp only[blkLe]at e
  exact .inr ⟨_,_,_,_,_,hy,e,m⟩
theorem le_ptr {B:Nat} {o:Off} {iv:IV} (h:PtrR c B o iv):PtrR c' B o iv:=by
 unfold PtrR at h ⊢
 cases hB:c.H[B]? with
 |none=>rw[hB]at h;exact h.elim
 |some x=>
  rw[hB]at h
  obtain⟨m,y,hy,hxy⟩:=hle.H B x hB
  rw[hy,m]
  rcases hxy with rfl|hxy
  ·trivial
  ·cases x<;>simp only at h
   case obj=>cases y<;>simp only[blkLe]at hxy;exact h
   case gone=>exact(blkLe.gone hxy).elim
   case fold=>
    cases y<;>simp only[blkLe]at hxy
    ·obtain⟨rfl,h⟩:=h
     cases hm:c.m B with
     |none=>exact(hxy hm).elim
     |some b=>rw[hm]at h;exact⟨b,rfl,h⟩
    ·exact h
theorem le_own2 {B:Nat} {iv:IV} (h:Own2R c B iv):Own2R c' B iv:=by
 unfold Own2R at h ⊢
 cases hB:c.H[B]? with
 |none=>rw[hB]at h;exact h.elim
 |some x=>
  rw[hB]at h
  obtain⟨m,y,hy,hxy⟩:=hle.H B x hB
  rw[hy,m]
  rcases hxy with rfl|hxy
  ·trivial
  ·cases x<;>simp only at h
   case arr2=>cases y<;>simp only[blkLe]at hxy;simp only;rw[hxy];exact h
   case gone=>exact(blkLe.gone hxy).elim
theorem le_eptr2 {B i:Nat} {o:Off} {iv:IV} (h:Eptr2R c B i o iv):Eptr2R c' B i o iv:=by
 unfold Eptr2R at h ⊢
 cases hB:c.H[B]? with
 |none=>rw[hB]at h;exact h.elim
 |some x=>
  rw[hB]at h
  obtain⟨m,y,hy,hxy⟩:=hle.H B x hB
  rw[hy,m]
  rcases hxy with rfl|hxy
  ·trivial
  ·cases x<;>simp only at h
   case arr2=>cases y<;>simp only[blkLe]at hxy;simp only;rw[hxy];exact h
   case gone=>exact(blkLe.gone hxy).elim
theorem TR.le {ln:Bool} {t:Ty} {hp:Bool} {x:t.den} {u:List IV} (h:TR c.p c.Z c.h ln t hp x u):TR c'.p c'.Z c'.h ln t hp x u:=by
 rw[hle.p];exact TR.mono hle.Z h
theorem le_own {B:Nat} {iv:IV} (h:c.H[B]? = some .gone∨∃wr hp ln t l,c.H[B]? = some (.arr wr hp ln t l)∧OwnR (c.m B) l.length iv):
 c'.H[B]? = some .gone∨∃wr hp ln t l,c'.H[B]? = some (.arr wr hp ln t l)∧OwnR (c'.m B) l.length iv:=by
 rcases h with h|⟨wr,hp,ln,t,l,h,h'⟩
 ·exact .inl (hle.gone h)
 ·rcases hle.arr h with h|⟨_,_,_,_,_,h,e,m⟩
  ·exact .inl h
  ·exact .inr ⟨_,_,_,_,_,h,by rw[e,m];exact h'⟩
theorem le_sub {B off len cap:Nat} {iv:IV} (h:c.H[B]? = some .gone∨∃wr hp ln t l,c.H[B]? = some (.arr wr hp ln t l)∧SubR (c.m B) l.length off len cap iv):
 c'.H[B]? = some .gone∨∃wr hp ln t l,c'.H[B]? = some (.arr wr hp ln t l)∧SubR (c'.m B) l.length off len cap iv:=by
 rcases h with h|⟨wr,hp,ln,t,l,h,h'⟩
 ·exact .inl (hle.gone h)
 ·rcases hle.arr h with h|⟨_,_,_,_,_,h,e,m⟩
  ·exact .inl h
  ·exact .inr ⟨_,_,_,_,_,h,by rw[e,m];exact h'⟩
theorem le_eptr {B i:Nat} {o:Off} {iv:IV} (h:c.H[B]? = some .gone∨∃wr hp ln t l b,c.H[B]? = some (.arr wr hp ln t l)∧c.m B=some b∧iv = .ptr b l.length i o.val∧i<l.length):
 c'.H[B]? = some .gone∨∃wr hp ln t l b,c'.H[B]? = some (.arr wr hp ln t l)∧c'.m B=some b∧iv = .ptr b l.length i o.val∧i<l.length:=by
 rcases h with h|⟨wr,hp,ln,t,l,b,h,h1,h2⟩
 ·exact .inl (hle.gone h)
 ·rcases hle.arr h with h|⟨_,_,_,_,_,h,e,m⟩
  ·exact .inl h
  ·exact .inr ⟨_,_,_,_,_,b,h,by rw[m];exact h1,by rw[e];exact h2⟩
theorem le_frz {b tot i:Nat} {iv:IV} {o:Off} {e:List IV} (h:∃b tot i k,iv=IV.ptr b tot i o.val∧c.Z b∧hget c.h b tot=some k∧k.es[i]? = some e):
 ∃b tot i k,iv=IV.ptr b tot i o.val∧c'.Z b∧hget c'.h b tot=some k∧k.es[i]? = some e:=by
 obtain⟨b,tot,i,k,rfl,h1,h2,h3⟩:=h
 rw[hget_iff]at h2
 exact⟨b,tot,i,k,rfl,hle.Z.z b h1,hget_iff.2 ⟨by rw[hle.Z.h b h1];exact h2.1,h2.2⟩,h3⟩
mutual
theorem Va.le:∀{a:AV} {iv:IV},Va c a iv→Va c' a iv
 |.int ..,_,h=>by simpa only[Va]using h
 |.bool _,_,h=>by simpa only[Va]using h
 |.str _,_,h=>by simpa only[Va]using h
 |.nils,_,h=>by simpa only[Va]using h
 |.nilp,_,h=>by simpa only[Va]using h
 |.nilf,_,h=>by simpa only[Va]using h
 |.mark,_,h=>by simpa only[Va]using h
 |.lst hp ln t l,iv,h=>by simp only[Va]at h ⊢;exact TR.le hle h
 |.own B,iv,h=>by simp only[Va]at h ⊢;exact⟨h.1,le_own hle h.2⟩
 |.sub B _ _ _,iv,h=>by simp only[Va]at h ⊢;exact⟨h.1,le_sub hle h.2⟩
 |.ptr B o,iv,h=>by simp only[Va]at h ⊢;exact⟨h.1,le_ptr hle h.2⟩
 |.own2 B,iv,h=>by simp only[Va]at h ⊢;exact⟨h.1,le_own2 hle h.2⟩
 |.eptr2 B i o,iv,h=>by simp only[Va]at h ⊢;exact⟨h.1,le_eptr2 hle h.2⟩
 |.any,iv,h=>by simpa only[Va]using h
 |.eptr B i o,iv,h=>by simp only[Va]at h ⊢;exact⟨h.1,le_eptr hle h.2⟩
 |.rptr hp ln cs o,iv,h=>by
  simp only[Va]at h ⊢
  obtain⟨e,h1,h2⟩:=h
  refine⟨e,Cas.le h1,h2.imp id fun h=>⟨h.1,le_frz (b:=0) (tot:=0) (i:=0) hle h.2⟩⟩
 |.arr ..,_,h=>by simp only[Va]at h
 |.agg cs,iv,h=>by
  simp only[Va]at h ⊢
  obtain⟨ivs,h1,h2⟩:=h
  exact⟨ivs,h1,Cas.le h2⟩
 |.tup cs,iv,h=>by
  simp only[Va]at h ⊢
  obtain⟨ivs,h1,h2⟩:=h
  exact⟨ivs,h1,Vas.le h2⟩
 |.fn f a b,iv,h=>by
  simp only[Va]at h ⊢
  obtain⟨a',b',h1,h2,h3⟩:=h
  exact⟨a',b',h1,Vas.le h2,Vas.le h3⟩
theorem Ca.le:∀{a:AV} {u:List IV},Ca c a u→Ca c' a u
 |.int ..,_,h=>by simpa only[Ca]using h
 |.bool _,_,h=>by simpa only[Ca]using h
 |.str _,_,h=>by simpa only[Ca]using h
 |.nils,_,h=>by simpa only[Ca]using h
 |.nilp,_,h=>by simpa only[Ca]using h
 |.nilf,_,h=>by simpa only[Ca]using h
 |.mark,_,h=>by simpa only[Ca]using h
 |.lst hp ln t l,iv,h=>by simp only[Ca]at h ⊢;exact TR.le hle h
 |.own B,u,h=>by simp only[Ca]at h ⊢;obtain⟨iv,e,o,h⟩:=h;exact⟨iv,e,o,le_own hle h⟩
 |.sub B _ _ _,u,h=>by simp only[Ca]at h ⊢;obtain⟨iv,e,o,h⟩:=h;exact⟨iv,e,o,le_sub hle h⟩
 |.ptr B o,u,h=>by simp only[Ca]at h ⊢;obtain⟨iv,e,o,h⟩:=h;exact⟨iv,e,o,le_ptr hle h⟩
 |.any,u,h=>by simpa only[Ca]using h
 |.own2 B,u,h=>by simp only[Ca]at h ⊢;obtain⟨iv,e,o,h⟩:=h;exact⟨iv,e,o,le_own2 hle h⟩
 |.eptr2 B i o,u,h=>by simp only[Ca]at h ⊢;obtain⟨iv,e,o,h⟩:=h;exact⟨iv,e,o,le_eptr2 hle h⟩
 |.eptr B i o,u,h=>by simp only[Ca]at h ⊢;obtain⟨iv,e,o,h⟩:=h;exact⟨iv,e,o,le_eptr hle h⟩
 |.rptr hp ln cs o,u,h=>by
  simp only[Ca]at h ⊢
  obtain⟨iv,rfl,e,h1,h2⟩:=h
  refine⟨iv,rfl,e,Cas.le h1,h2.imp id fun h=>⟨h.1,le_frz (b:=0) (tot:=0) (i:=0) hle h.2⟩⟩
 |.arr hp ln n t l,u,h=>by simp only[Ca]at h ⊢;exact TR.le hle h
 |.agg cs,iv,h=>by simp only[Ca]at h
 |.tup cs,iv,h=>by simp only[Ca]at h
 |.fn f a b,iv,h=>by
  simp only[Ca]at h ⊢
  obtain⟨a',b',h1,h2,h3⟩:=h
  exact⟨a',b',h1,Vas.le h2,Vas.le h3⟩
theorem Cas.le:∀{cs:List AV} {u:List IV},Cas c cs u→Cas c' cs u
 |[],u,h=>by simpa only[Cas]using h
 |a::r,u,h=>by
  simp only[Cas]at h ⊢
  obtain⟨x,y,rfl,h1,h2⟩:=h
  exact⟨x,y,rfl,Ca.le h1,Cas.le h2⟩
theorem Vas.le:∀{cs:List AV} {u:List IV},Vas c cs u→Vas c' cs u
 |[],u,h=>by simpa only[Vas]using h
 |a::r,u,h=>by
  simp only[Vas]at h ⊢
  obtain⟨x,y,rfl,h1,h2⟩:=h
  exact⟨x,y,rfl,Va.le h1,Vas.le h2⟩
end
end
end Go.Ideal
set_option linter.unusedVariables false
set_option linter.unusedSimpArgs false
set_option linter.unusedSectionVars false
namespace Go.Ideal
theorem TR.nomark {p:Bool} {Z:Nat→Prop} {h:Heap} {ln:Bool}:∀{t:Ty} {hp:Bool} {x:t.den} {c:List IV},TR p Z h ln t hp x c→∀v∈c,v≠.mark
 |.int k,_,x,c,e=>by simp only[TR]at e;subst e;simp
 |.bool,_,x,c,e=>by simp only[TR]at e;subst e;simp
 |.str,_,x,c,e=>by simp only[TR]at e;subst e;simp
 |.unit,_,x,c,e=>by simp only[TR]at e;subst e;simp
 |.lst t,hp,l,c,e=>by
  simp only[TR]at e
  obtain⟨iv,rfl,e⟩:=e
  intro v hv
  simp at hv;subst hv
  rcases e with ⟨_,rfl|rfl⟩|⟨_,_,rfl,_⟩|⟨_,_,_,_,_,_,_,rfl,_⟩<;>simp
 |.pair a b,hp,x,c,e=>by
  simp only[TR]at e
  obtain⟨u,v,rfl,h1,h2⟩:=e
  intro w hw
  rcases List.mem_append.1 hw with h|h
  ·exact TR.nomark h1 w h
  ·exact TR.nomark h2 w h
 |.arr n t,hp,l,c,e=>by
  simp only[TR]at e
  obtain⟨es,rfl,rfl,h1⟩:=e
  intro v hv
  obtain⟨e,he,hv⟩:=List.mem_flatten.1 hv
  obtain⟨x,_,hx⟩:=h1.mem_r e he
  exact TR.nomark hx v hv
 |.ow _ t,hp,x,c,e=>by simp[TR]at e
theorem Ca.nomark {c:Cf} {a:AV} {u:List IV} (h:Ca c a u) (ha:a≠.mark):∀v∈u,v≠.mark:=by
 cases a<;>simp only[Ca]at h
 case lst=>exact TR.nomark h
 case arr=>exact TR.nomark h
 case own=>obtain⟨iv,rfl,h1,h2⟩:=h;intro v hv;simp at hv;subst hv;exact IV.onc_ne h1
 case sub=>obtain⟨iv,rfl,h1,h2⟩:=h;intro v hv;simp at hv;subst hv;exact IV.onc_ne h1
 case own2=>obtain⟨iv,rfl,h1,h2⟩:=h;intro v hv;simp at hv;subst hv;exact IV.onc_ne h1
 case eptr2=>obtain⟨iv,rfl,h1,h2⟩:=h;intro v hv;simp at hv;subst hv;exact IV.onc_ne h1
 case any=>obtain⟨iv,rfl,h1⟩:=h;intro v hv;simp at hv;subst hv;exact IV.onc_ne h1
 case ptr=>obtain⟨iv,rfl,h1,h2⟩:=h;intro v hv;simp at hv;subst hv;exact IV.onc_ne h1
 case eptr=>obtain⟨iv,rfl,h1,h2⟩:=h;intro v hv;simp at hv;subst hv;exact IV.onc_ne h1
 case rptr=>obtain⟨iv,rfl,e,_,⟨bo,rfl⟩|⟨_,b,tot,i,k,rfl,_⟩⟩:=h<;>simp
 case fn=>obtain⟨_,_,rfl,_⟩:=h;simp
 case nils=>obtain⟨iv,rfl,rfl|rfl⟩:=h<;>simp
 case mark=>exact absurd rfl ha
 all_goals subst h;simp
theorem noIt {c:Cf}:∀{cs:List AV} {ivs:List IV},Cas c cs ivs→isItA cs=false→isIt ivs=false:=by
 have key:∀{cs:List AV} {ivs:List IV},Cas c cs ivs→isItA cs=false→∀v∈ivs,v≠.mark:=by
  intro cs
  induction cs with
  |nil=>intro ivs h _;simp only[Cas]at h;subst h;simp
  |cons a r ih=>
   intro ivs h e
   simp only[Cas]at h
   obtain⟨u,v,rfl,h1,h2⟩:=h
   simp only[isItA,List.any_cons,Bool.or_eq_false_iff]at e ih
   intro w hw
   rcases List.mem_append.1 hw with hw|hw
   ·exact h1.nomark (by rintro rfl;simp at e) w hw
   ·exact ih h2 e.2 w hw
 intro cs ivs h e
 have:=key h e
 cases ivs with
 |nil=>rfl
 |cons v r=>
  have:=this v (by simp)
  cases v<;>first|rfl|exact absurd rfl this
theorem TR.flat {p:Bool} {Z:Nat→Prop} {h:Heap} {ln ln':Bool}:∀{t:Ty} {hp hp':Bool} {x:t.den} {c:List IV},t.flat=true→TR p Z h ln t hp x c→TR p Z h ln' t hp' x c
 |.int k,_,_,x,c,_,e=>by simpa only[TR]using e
 |.bool,_,_,x,c,_,e=>by simpa only[TR]using e
 |.str,_,_,x,c,_,e=>by simpa only[TR]using e
 |.unit,_,_,x,c,_,e=>by simpa only[TR]using e
 |.lst t,_,_,l,c,hf,e=>by simp[Ty.flat]at hf
 |.pair a b,_,_,x,c,hf,e=>by
  simp only[Ty.flat,Bool.and_eq_true]at hf
  simp only[TR]at e ⊢
  obtain⟨u,v,rfl,h2,h3⟩:=e
  exact⟨u,v,rfl,TR.flat hf.1 h2,TR.flat hf.2 h3⟩
 |.arr n t,_,_,l,c,hf,e=>by
  simp only[TR]at e ⊢
  obtain⟨es,rfl,h2,h3⟩:=e
  exact⟨es,rfl,h2,h3.imp fun a b h=>TR.flat (by simpa [Ty.flat]using hf) h⟩
 |.ow _ t,_,_,x,c,_,e=>by simp[TR]at e
theorem TR.lf {p:Bool} {Z:Nat→Prop} {h:Heap} {ln:Bool} {t:Ty} {hp:Bool} {x:t.den} {c:List IV} (e:TR p Z h ln t hp x c):TR p Z h (ln&& !t.flat) t true x c:=by
 cases hf:t.flat with
 |true=>exact TR.flat hf e
 |false=>rw[Bool.not_false,Bool.and_true];exact TR.flags (fun h=>h) (fun _=>rfl) e
abbrev Lo:=List (Option Nat×List Nat)
def foot (L:Lo):List Nat:=L.flatMap fun q=>q.1.toList++q.2
def All3 {α β γ:Type} (r:α→β→γ→Prop):List α→List β→List γ→Prop
 |[],[],[]=>True
 |a::as,b::bs,c::cs=>r a b c∧All3 r as bs cs
 |_,_,_=>False
def TF (p:Bool) (Z:Nat→Prop) (h:Heap) (rt:Nat→Option Nat):(t:Ty)→t.den→List IV→Lo→Prop
 |.pair a b,x,c,L=>∃u v M N,c=u++v∧L=M++N∧TF p Z h rt a x.1 u M∧TF p Z h rt b x.2 v N
 |.ow .own t,x,c,L=>∃iv mb f,c=[iv]∧L=[(mb,f)]∧OwnR mb x.length iv∧(match mb with
  |none=>x=[]∧f=[]
  |some b=>∃es Ms,h[b]? = some (some ⟨t.n,es⟩)∧All3 (TF p Z h rt t) x es Ms∧f=foot Ms.flatten)
 |.ow .obj t,x,c,L=>∃b e M,c=[.ptr b 1 0 0]∧h[b]? = some (some ⟨e.length,[e]⟩)∧TF p Z h rt t x e M∧L=[(some b,foot M)]
 |.ow .opt t,x,c,L=>(x=none∧c=[.nilp]∧L=[(none,[])])∨∃v b e M,x=some v∧c=[.ptr b 1 0 0]∧h[b]? = some (some ⟨e.length,[e]⟩)∧TF p Z h rt t v e M∧L=[(some b,foot M)]
 |.ow (.root i) _,_,c,L=>∃b,rt i=some b∧c=[.ptr b 1 0 0]∧L=[]
 |.int k,x,c,L=>TR p Z h true (.int k) true x c∧L=[]
 |.bool,x,c,L=>TR p Z h true .bool true x c∧L=[]
 |.str,x,c,L=>TR p Z h true .str true x c∧L=[]
 |.unit,x,c,L=>TR p Z h true .unit true x c∧L=[]
 |.lst t,x,c,L=>TR p Z h true (.lst t) true x c∧L=[]
 |.arr n t,x,c,L=>TR p Z h true (.arr n t) true x c∧L=[]
def BR (c:Cf) (x:ABlk) (mb:Option Nat) (f:List Nat):Prop:=match x with
 |.arr wr hp ln t l=>f=[]∧(match mb with
  |none=>l=[]
  |some b=>∃es,c.h[b]? = some (some ⟨t.n,es⟩)∧All2 (TR c.p c.Z c.h ln t hp) l es)
 |.obj wr cs=>f=[]∧∃b,mb=some b∧∃e,c.h[b]? = some (some ⟨e.length,[e]⟩)∧Cas c cs e
 |.gone=>True
 |.arr2 wr t l none=>(match mb with
  |none=>l=[]∧f=[]
  |some b=>∃es Ms,c.h[b]? = some (some ⟨t.n,es⟩)∧All3 (TF c.p c.Z c.h c.rt t) l es Ms∧f=foot Ms.flatten)
 |.arr2 wr t l (some (i,cs))=>∃b es1 e es2 Ms1 Ms2,mb=some b∧c.h[b]? = some (some ⟨t.n,es1++e::es2⟩)∧es1.length=i∧i<l.length∧e.length=t.n∧
   All3 (TF c.p c.Z c.h c.rt t) (l.take i) es1 Ms1∧All3 (TF c.p c.Z c.h c.rt t) (l.drop (i+1)) es2 Ms2∧Cas c cs e∧f=foot (Ms1++Ms2).flatten
 |.fold wr t x=>(x=none∧mb=none∧f=[])∨∃v b e M,x=some v∧mb=some b∧c.h[b]? = some (some ⟨e.length,[e]⟩)∧TF c.p c.Z c.h c.rt t v e M∧f=foot M
 |.rt i B=>mb=none∧f=[]∧c.rt i=c.m B∧c.rt i≠none∧∃y,c.H[B]? = some y∧(match y with
  |.gone=>True
  |.obj ..=>True
  |.fold ..=>True
  |_=>False)
theorem BR.arr2_none {c:Cf} {wr:Bool} {t:Ty} {l:List t.den} {op:Option (Nat×List AV)} {f:List Nat} (h:BR c (.arr2 wr t l op) none f):op=none∧l=[]∧f=[]:=by
 cases op with
 |none=>simp only[BR]at h;exact⟨rfl,h⟩
 |some y=>obtain⟨i,cs⟩:=y;simp only[BR]at h;obtain⟨_,_,_,_,_,_,h,_⟩:=h;cases h
def BRs (c:Cf):Prop:=∀B x,c.H[B]? = some x→BR c x (c.m B) (c.f B)
@[simp] theorem castL_rfl {a : Ty} (x : List a.den) : castL (rfl : a = a) x = x := rfl
theorem TR.sz {p Z h ln} {t:Ty} {hp:Bool} {l:List t.den} {es:List (List IV)} (a:All2 (TR p Z h ln t hp) l es):es.all (·.length=t.n)=true:=by
 rw[List.all_eq_true]
 intro e he
 obtain⟨x,_,hx⟩:=a.mem_r e he
 simpa using (TR.one hx).1
section
variable {c:Cf} (hb:BRs c)
include hb
theorem toL_elems {t:Ty} {a:AV} {iv:IV} {l:List t.den} (e:toL c.H t a=some l) (v:Va c a iv):
 ∃es,elems c.h t.n iv=some es∧All2 (TR c.p c.Z c.h (a.lnF c.H) t (a.hpF c.H)) l es:=by
 cases a<;>simp only[toL]at e<;>try (cases e;done)
 case nils=>
  simp at e;subst e
  simp only[Va]at v
  rcases v with rfl|rfl<;>exact⟨[],rfl,trivial⟩
 case lst hp ln t' l'=>
  split at e
  ·rename_i h;subst h;simp at e;subst e
   simp only[Va,TR]at v
   obtain⟨iv',e1,v⟩:=v
   simp at e1;subst e1
   rcases v with ⟨rfl,rfl|rfl⟩|⟨bo,es,rfl,h1,h2⟩|⟨h0,b,tot,off,len,cap,k,rfl,h1,h2,h3,h4,h5⟩
   ·exact⟨[],rfl,trivial⟩
   ·exact⟨[],rfl,trivial⟩
   ·refine⟨es,by simp only[elems];rw[if_pos (TR.sz h2)],?_⟩
    exact h2.imp fun a b h=>TR.flags (fun h=>h) (by simp) h
   ·refine⟨(k.es.drop off).take len,by simp[elems,h2,h3,h4],?_⟩
    simp only[AV.lnF,AV.hpF]
    rw[h0];exact h5
  ·cases e
 case own B=>
  simp only[Va]at v
  rcases v.2 with v|⟨wr,hp,ln,t',l',hB,v⟩
  ·rw[v]at e;simp at e
  ·rw[hB]at e
   simp only at e
   split at e
   ·rename_i h;subst h;simp at e;subst e
    have br:=hb B _ hB
    simp only[BR]at br
    replace br:=br.2
    simp only[AV.lnF,hB,AV.hpF]
    cases hm:c.m B with
    |none=>
     rw[hm]at v br;simp only[OwnR]at v br
     subst br
     rcases v with rfl|rfl<;>exact⟨[],rfl,trivial⟩
    |some b=>
     rw[hm]at v br;simp only[OwnR]at v br
     obtain⟨es,h1,h2⟩:=br
     subst v
     have hl:=h2.len
     refine⟨es,?_,h2.imp fun a b h=>h.lf⟩
     have:hget c.h b l'.length=some ⟨t'.n,es⟩:=hget_iff.2 ⟨h1,hl⟩
     simp only[elems,this,Option.bind_some,List.drop_zero]
     rw[if_pos (by simp),←hl,List.take_length]
   ·cases e
 case sub B off len cap=>
  simp only[Va]at v
  rcases v.2 with v|⟨wr,hp,ln,t',l',hB,v⟩
  ·rw[v]at e;simp at e
  ·rw[hB]at e
   simp only at e
   split at e
   ·rename_i h;subst h;simp at e;subst e
    have br:=hb B _ hB
    simp only[BR]at br
    replace br:=br.2
    simp only[AV.lnF,hB,AV.hpF]
    simp only[SubR]at v
    obtain⟨v1,v2,v⟩:=v
    cases hm:c.m B with
    |none=>
     rw[hm]at v br;simp only at v br
     subst br
     obtain⟨v3,rfl,rfl⟩:=v
     rcases v3 with rfl|rfl<;>exact⟨[],rfl,by simp[All2]⟩
    |some b=>
     rw[hm]at v br;simp only at v br
     obtain⟨es,h1,h2⟩:=br
     subst v
     have hl:=h2.len
     refine⟨(es.drop off).take len,?_,?_⟩
     ·have:hget c.h b l'.length=some ⟨t'.n,es⟩:=hget_iff.2 ⟨h1,hl⟩
      simp only[elems,this,Option.bind_some]
      rw[if_pos ⟨by trivial,by omega⟩]
     ·exact((h2.drop off).take len).imp fun a b h=>h.lf
   ·cases e
 case str s=>
  split at e
  ·rename_i h;subst h;simp at e;subst e
   simp only[Va]at v;subst v
   refine⟨s.map fun b=>[.int .u8 b.toNat],by simp[elems,Ty.n],?_⟩
   clear hb
   induction s with
   |nil=>trivial
   |cons x s ih=>exact⟨by simp[TR],ih⟩
  ·cases e
theorem toL_frz {t:Ty} {a:AV} {iv:IV} {l:List t.den} (e:toL c.H t a=some l) (hs:∀s,a≠.str s) (v:Va c a iv) (hz:∀B∈a.refs,∀b∈c.ft B,c.Z b):
 TR c.p c.Z c.h (a.lnF c.H) (.lst t) (a.hpF c.H) l [iv]:=by
 cases a<;>simp only[toL]at e<;>try (cases e;done)
 case nils=>
  simp at e;subst e
  simp only[Va]at v
  exact⟨iv,rfl,.inl ⟨rfl,v⟩⟩
 case lst hp ln t' l'=>
  split at e
  ·rename_i h;subst h;simp at e;subst e
   simp only[Va]at v;exact v
  ·cases e
 case own B=>
  simp only[Va]at v
  rcases v.2 with v|⟨wr,hp,ln,t',l',hB,v⟩
  ·rw[v]at e;simp at e
  ·rw[hB]at e
   simp only at e
   split at e
   ·rename_i h;subst h;simp at e;subst e
    have br:=hb B _ hB
    simp only[BR]at br
    replace br:=br.2
    simp only[AV.lnF,hB,AV.hpF,TR]
    refine⟨iv,rfl,?_⟩
    cases hm:c.m B with
    |none=>
     rw[hm]at v br;simp only[OwnR]at v br
     exact .inl ⟨br,v⟩
    |some b=>
     rw[hm]at v br;simp only[OwnR]at v br
     obtain⟨es,h1,h2⟩:=br
     have hl:=h2.len
     refine .inr (.inr ⟨trivial,b,l'.length,0,l'.length,l'.length,⟨t'.n,es⟩,v,hz B (by simp[AV.refs]) b (Cf.ft_m hm),hget_iff.2 ⟨h1,hl⟩,rfl,by omega,?_⟩)
     simp only[List.drop_zero,←hl,List.take_length]
     exact h2.imp fun a b h=>h.lf
   ·cases e
 case sub B off len cap=>
  simp only[Va]at v
  rcases v.2 with v|⟨wr,hp,ln,t',l',hB,v⟩
  ·rw[v]at e;simp at e
  ·rw[hB]at e
   simp only at e
   split at e
   ·rename_i h;subst h;simp at e;subst e
    have br:=hb B _ hB
    simp only[BR]at br
    replace br:=br.2
    simp only[AV.lnF,hB,AV.hpF,TR]
    simp only[SubR]at v
    obtain⟨v1,v2,v⟩:=v
    refine⟨iv,rfl,?_⟩
    cases hm:c.m B with
    |none=>
     rw[hm]at v br;simp only at v br
     subst br
     exact .inl ⟨by simp,v.1⟩
    |some b=>
     rw[hm]at v br;simp only at v br
     obtain⟨es,h1,h2⟩:=br
     have hl:=h2.len
     refine .inr (.inr ⟨trivial,b,l'.length,off,len,cap,⟨t'.n,es⟩,v,hz B (by simp[AV.refs]) b (Cf.ft_m hm),hget_iff.2 ⟨h1,hl⟩,rfl,by omega,?_⟩)
     exact((h2.drop off).take len).imp fun a b h=>h.lf
   ·cases e
 case str s=>exact(hs s rfl).elim
end
theorem intsOf_ok {c:Cf} {k:IntKind}:∀{cs:List AV} {l:List Int} {u:List IV},intsOf k cs=some l→Cas c cs u→u=l.map (fun x=>.int k x)∧l.length=cs.length∧widC cs=l.length
 |[],l,u,e,h=>by simp only[intsOf,Option.some.injEq]at e;subst e;simp only[Cas]at h;subst h;simp[widC]
 |a::r,l,u,e,h=>by
  cases a<;>simp only[intsOf]at e<;>try (cases e;done)
  split at e
  ·rename_i hk;subst hk
   obtain⟨l',e1,e2⟩:=bind_some'.1 e
   simp only[Option.some.injEq]at e2;subst e2
   simp only[Cas,Ca]at h
   obtain⟨x,y,rfl,rfl,h⟩:=h
   obtain⟨rfl,h2,h3⟩:=intsOf_ok e1 h
   refine⟨by simp,by simp[h2],?_⟩
   simp only[widC,AV.w,h3,List.length_cons];omega
  ·cases e
theorem intsOf_refs {k:IntKind}:∀{cs:List AV} {l:List Int},intsOf k cs=some l→AV.refsL cs=[]
 |[],l,e=>rfl
 |a::r,l,e=>by
  cases a<;>simp only[intsOf]at e<;>try (cases e;done)
  split at e
  ·obtain⟨l',e1,e2⟩:=bind_some'.1 e
   simp[AV.refsL,AV.refs,intsOf_refs e1]
  ·cases e
theorem refsL_app:∀(a b:List AV),AV.refsL (a++b)=AV.refsL a++AV.refsL b
 |[],b=>by simp[AV.refsL]
 |x::a,b=>by simp[AV.refsL,refsL_app a b]
theorem all2_ints {p Z h ln hp} {k:IntKind}:∀(l:List Int),All2 (TR p Z h ln (.int k) hp) l (l.map fun x=>[.int k x])
 |[]=>trivial
 |x::l=>⟨by simp[TR],all2_ints l⟩
theorem toC_suffix {H:AHp}:∀{t:Ty} {cs:List AV} {x:t.den×List AV},toC H t cs=some x→∃pre,cs=pre++x.2
 |.int k,cs,x,e=>by
  cases cs with
  |nil=>simp[toC]at e
  |cons a r=>cases a<;>simp[toC]at e;obtain⟨_,rfl⟩:=e;exact⟨[_],rfl⟩
 |.bool,cs,x,e=>by
  cases cs with
  |nil=>simp[toC]at e
  |cons a r=>cases a<;>simp[toC]at e;subst e;exact⟨[_],rfl⟩
 |.str,cs,x,e=>by
  cases cs with
  |nil=>simp[toC]at e
  |cons a r=>cases a<;>simp[toC]at e;subst e;exact⟨[_],rfl⟩
 |.unit,cs,x,e=>by simp[toC]at e;subst e;exact⟨[],rfl⟩
 |.lst t,cs,x,e=>by
  cases cs with
  |nil=>simp[toC]at e
  |cons a r=>
   have h:x.2=r:=by
    cases a<;>simp only[toC]at e<;>first|(cases e;done)|(obtain⟨l,_,e2⟩:=bind_some'.1 e;simp at e2;subst e2;rfl)
   exact⟨[a],by simp[h]⟩
 |.pair a b,cs,x,e=>by
  simp only[toC]at e
  obtain⟨y,e1,e⟩:=bind_some'.1 e
  obtain⟨z,e2,e⟩:=bind_some'.1 e
  simp at e;subst e
  obtain⟨p,h1⟩:=toC_suffix e1
  obtain⟨q,h2⟩:=toC_suffix e2
  exact⟨p++q,by rw[h1,h2];simp⟩
 |.arr n t,cs,x,e=>by
  simp only[toC]at e
  unfold toArr at e
  split at e
  ·split at e
   ·split at e
    ·simp at e;subst e;exact⟨[_],rfl⟩
    ·cases e
   ·cases e
  ·unfold toInts at e
   cases t<;>simp only at e<;>try (cases e;done)
   obtain⟨y,e1,e⟩:=bind_some'.1 e
   obtain⟨l,e2,e⟩:=bind_some'.1 e
   split at e
   ·simp at e;subst e
    exact⟨y.1,(splitC_eq e1).1⟩
   ·cases e
 |.ow _ t,cs,x,e=>by unfold toC at e;simp at e
end Go.Ideal
set_option linter.unusedVariables false
set_option linter.unusedSimpArgs false
set_option linter.unusedSectionVars false
namespace Go.Ideal
theorem ints_flat (k:IntKind):∀l:List Int,l.map (fun x=>IV.int k x)=(l.map fun x=>[IV.int k x]).flatten
 |[]=>rfl
 |x::l=>by simp only[List.map_cons,List.flatten_cons,List.cons_append,List.nil_append];rw[ints_flat k l]
theorem cast_prod {A A' B B':Type} (hA:A=A') (hB:B=B') (h:(A×B)=(A'×B')) (x:A×B):cast h x=(cast hA x.1,cast hB x.2):=by subst hA;subst hB;rfl
theorem cast_list {A A':Type} (hA:A=A') (h:List A=List A') (l:List A):cast h l=l.map (cast hA):=by
 subst hA
 induction l with
 |nil=>rfl
 |cons a l ih=>rw[List.map_cons,←ih];rfl
theorem foot_flat {Ms:List Lo} {M:Lo} {b:Nat} (h:b∈foot M) (hM:M∈Ms):b∈foot Ms.flatten:=by
 unfold foot at h ⊢
 rw[List.mem_flatMap]at h ⊢
 obtain⟨q,h1,h2⟩:=h
 exact⟨q,List.mem_flatten.2 ⟨M,hM,h1⟩,h2⟩
theorem foot_appM {L M:Lo} {b:Nat}:b∈foot (L++M)↔b∈foot L∨b∈foot M:=by simp[foot,List.flatMap_append]
theorem all3_strip {p ln:Bool} {Z:Nat→Prop} {h:Heap} {rt:Nat→Option Nat} {t:Ty} (ht:t.sOk=true) (ih:∀{x:t.den} {c:List IV} {L:Lo},TF p Z h rt t x c L→(∀b∈foot L,Z b)→TR p Z h ln t.strip true (cast (strip_den ht) x) c):
 ∀{l:List t.den} {es:List (List IV)} {Ms:List Lo},All3 (TF p Z h rt t) l es Ms→(∀M∈Ms,∀b∈foot M,Z b)→All2 (TR p Z h ln t.strip true) (l.map (cast (strip_den ht))) es
 |[],[],[],_,_=>trivial
 |a::l,e::es,M::Ms,h1,h2=>⟨ih h1.1 (h2 M (by simp)),all3_strip ht ih h1.2 fun M' hM'=>h2 M' (by simp[hM'])⟩
 |[],_::_,_,h,_=>h.elim
 |[],[],_::_,h,_=>h.elim
 |_::_,[],_,h,_=>h.elim
 |_::_,_::_,[],h,_=>h.elim
theorem all3_len {α β γ:Type} {r:α→β→γ→Prop}:∀{l:List α} {m:List β} {n:List γ},All3 r l m n→m.length=l.length
 |[],[],[],_=>rfl
 |a::l,b::m,c::n,h=>by simp[all3_len h.2]
 |[],_::_,_,h=>h.elim
 |[],[],_::_,h=>h.elim
 |_::_,[],_,h=>h.elim
 |_::_,_::_,[],h=>h.elim
theorem TF_strip {p ln:Bool} {Z:Nat→Prop} {h:Heap} {rt:Nat→Option Nat}:∀{t:Ty} (ht:t.sOk=true) (hl:ln=false→t.noLst=true) {x:t.den} {c:List IV} {L:Lo},TF p Z h rt t x c L→(∀b∈foot L,Z b)→TR p Z h ln t.strip true (cast (strip_den ht) x) c
 |.pair a b,ht,hl,x,c,L,e,hz=>by
  have ht':=ht
  have hl1:ln=false→a.noLst=true:=fun h=>by have:=hl h;simp only[Ty.noLst,Bool.and_eq_true]at this;exact this.1
  have hl2:ln=false→b.noLst=true:=fun h=>by have:=hl h;simp only[Ty.noLst,Bool.and_eq_true]at this;exact this.2
  simp only[Ty.sOk,Bool.and_eq_true]at ht'
  simp only[TF]at e
  obtain⟨u,v,M,N,rfl,rfl,h1,h2⟩:=e
  have hc:cast (strip_den ht) x=(cast (strip_den ht'.1) x.1,cast (strip_den ht'.2) x.2):=cast_prod (strip_den ht'.1) (strip_den ht'.2) _ x
  simp only[Ty.strip,TR]
  refine⟨u,v,rfl,?_,?_⟩
  ·rw[show (cast (strip_den ht) x:a.strip.den×b.strip.den).1=cast (strip_den ht'.1) x.1 from congrArg Prod.fst hc]
   exact TF_strip ht'.1 hl1 h1 fun b hb=>hz b (foot_appM.2 (.inl hb))
  ·rw[show (cast (strip_den ht) x:a.strip.den×b.strip.den).2=cast (strip_den ht'.2) x.2 from congrArg Prod.snd hc]
   exact TF_strip ht'.2 hl2 h2 fun b hb=>hz b (foot_appM.2 (.inr hb))
 |.ow .own t,ht,hl0,x,c,L,e,hz=>by
  have ht':t.sOk=true:=ht
  simp only[TF]at e
  obtain⟨iv,mb,f,rfl,rfl,h1,h2⟩:=e
  have hc:cast (strip_den ht) x=x.map (cast (strip_den ht')):=cast_list (strip_den ht') _ x
  simp only[Ty.strip,TR]
  refine⟨iv,rfl,?_⟩
  rw[show (cast (strip_den ht) x:List t.strip.den)=x.map (cast (strip_den ht')) from hc]
  cases mb with
  |none=>
   obtain⟨rfl,_⟩:=h2
   exact .inl ⟨rfl,h1⟩
  |some b=>
   obtain⟨es,Ms,h3,h4,rfl⟩:=h2
   simp only[OwnR]at h1
   have hl:=all3_len h4
   refine .inr (.inr ⟨trivial,b,x.length,0,x.length,x.length,⟨t.n,es⟩,h1,hz b (by simp[foot]),hget_iff.2 ⟨h3,hl⟩,by simp only;rw[strip_n],⟨by omega,by omega⟩,?_⟩)
   simp only[List.drop_zero,←hl,List.take_length]
   exact all3_strip ht' (fun {x c L}=>TF_strip ht' hl0) h4 fun M hM b' hb'=>hz b' (by simp only[foot,List.flatMap_cons,List.mem_append];exact .inl (.inr (foot_flat hb' hM)))
 |.ow .obj t,ht,_,_,_,_,_,_=>by cases ht
 |.ow .opt t,ht,_,_,_,_,_,_=>by cases ht
 |.ow (.root i) t,ht,_,_,_,_,_,_=>by cases ht
 |.int k,ht,hl,x,c,L,e,hz=>by simp only[TF]at e;exact TR.flat rfl e.1
 |.bool,ht,hl,x,c,L,e,hz=>by simp only[TF]at e;exact TR.flat rfl e.1
 |.str,ht,hl,x,c,L,e,hz=>by simp only[TF]at e;exact TR.flat rfl e.1
 |.unit,ht,hl,x,c,L,e,hz=>by simp only[TF]at e;exact TR.flat rfl e.1
 |.lst t,ht,hl,x,c,L,e,hz=>by
  simp only[TF]at e
  cases ln with
  |true=>exact e.1
  |false=>cases hl rfl
 |.arr n t,ht,hl,x,c,L,e,hz=>by
  simp only[TF]at e
  cases ln with
  |true=>exact e.1
  |false=>exact TR.flat (show (Ty.arr n t).flat=true from hl rfl) e.1
theorem toLF_frz {c:Cf} (hb:BRs c) {t:Ty} {a:AV} {iv:IV} {l:List t.den} (e:toLF c.H t a=some l) (hs:∀s,a≠.str s) (v:Va c a iv) (hz:∀B∈a.refs,∀b∈c.ft B,c.Z b):
 TR c.p c.Z c.h (a.lnF c.H) (.lst t) (a.hpF c.H) l [iv]:=by
 unfold toLF at e
 split at e
 ·rename_i B
  split at e
  ·rename_i wr t' l' hB
   split at e
   ·rename_i ht
    obtain⟨ht1,rfl⟩:=ht
    simp only[castL_rfl,Option.some.injEq]at e;subst e
    simp only[Va,Own2R]at v
    rw[hB]at v
    have v:OwnR (c.m B) l'.length iv:=v.2
    have br:=hb B _ hB
    have hT:TF c.p c.Z c.h c.rt (.ow .own t') l' [iv] [(c.m B,c.f B)]:=by
     simp only[TF]
     refine⟨iv,c.m B,c.f B,rfl,rfl,v,?_⟩
     simp only[BR]at br
     cases hm:c.m B with
     |none=>rw[hm]at br;exact br
     |some b=>rw[hm]at br;exact br
    have:=TF_strip (t:=.ow .own t') (ln:=(AV.own2 B).lnF c.H) ht1 (fun h=>by simpa [AV.lnF,hB,Ty.noLst]using h) hT (fun b hb'=>hz B (by simp[AV.refs]) b (by simpa [foot,Cf.ft]using hb'))
    exact this
   ·cases e
  ·cases e
 ·exact toL_frz hb e hs v hz
theorem toC_frz {c:Cf} (hb:BRs c):∀{t:Ty} {cs:List AV} {x:t.den×List AV} {u:List IV},toC c.H t cs=some x→Cas c cs u→
 ∃pre,cs=pre++x.2∧∀hp ln,(hpL c.H pre=true→hp=true)→(lnL c.H pre=true→ln=true)→(∀B∈AV.refsL pre,∀b∈c.ft B,c.Z b)→
  ∃u1 u2,u=u1++u2∧TR c.p c.Z c.h ln t hp x.1 u1∧Cas c x.2 u2
 |.int k,cs,x,u,e,h=>by
  cases cs with
  |nil=>simp[toC]at e
  |cons a r=>
   cases a<;>simp[toC]at e
   obtain⟨rfl,rfl⟩:=e
   simp only[Cas,Ca]at h
   obtain⟨u1,u2,rfl,rfl,h⟩:=h
   exact⟨[_],rfl,fun hp ln _ _ _=>⟨_,_,rfl,by simp[TR],h⟩⟩
 |.bool,cs,x,u,e,h=>by
  cases cs with
  |nil=>simp[toC]at e
  |cons a r=>
   cases a<;>simp[toC]at e
   subst e
   simp only[Cas,Ca]at h
   obtain⟨u1,u2,rfl,rfl,h⟩:=h
   exact⟨[_],rfl,fun hp ln _ _ _=>⟨_,_,rfl,by simp[TR],h⟩⟩
 |.str,cs,x,u,e,h=>by
  cases cs with
  |nil=>simp[toC]at e
  |cons a r=>
   cases a<;>simp[toC]at e
   subst e
   simp only[Cas,Ca]at h
   obtain⟨u1,u2,rfl,rfl,h⟩:=h
   exact⟨[_],rfl,fun hp ln _ _ _=>⟨_,_,rfl,by simp[TR],h⟩⟩
 |.unit,cs,x,u,e,h=>by
  simp[toC]at e;subst e
  exact⟨[],rfl,fun hp ln _ _ _=>⟨[],u,rfl,by simp[TR],h⟩⟩
 |.lst t,cs,x,u,e,h=>by
  cases cs with
  |nil=>simp[toC]at e
  |cons a r=>
   simp only[Cas]at h
   obtain⟨u1,u2,rfl,h1,h2⟩:=h
   have key:∃l,toLF c.H t a=some l∧x=(l,r)∧(∀s,a≠.str s)∧a.one=true:=by
    cases a<;>simp only[toC]at e<;>first|(cases e;done)|(obtain⟨l,e1,e2⟩:=bind_some'.1 e;simp at e2;subst e2;first|(simp[toLF,toL]at e1;done)|exact⟨l,e1,rfl,(by simp),rfl⟩)
   obtain⟨l,e1,rfl,e2,e3⟩:=key
   obtain⟨iv,rfl,_,hv⟩:=(cell_val e3).1 h1
   refine⟨[a],rfl,fun hp ln f1 f2 f3=>⟨_,_,rfl,?_,h2⟩⟩
   have:=toLF_frz hb e1 e2 hv (fun B hB b hm=>f3 B (by simp[AV.refsL,hB]) b hm)
   exact TR.flags (fun h=>f2 (by simpa [lnL]using h)) (fun h=>f1 (by simpa [hpL]using h)) this
 |.pair a b,cs,x,u,e,h=>by
  simp only[toC]at e
  obtain⟨y,e1,e⟩:=bind_some'.1 e
  obtain⟨z,e2,e⟩:=bind_some'.1 e
  simp at e;subst e
  obtain⟨p,hp1,h1⟩:=toC_frz hb e1 h
  obtain⟨q,hq⟩:=toC_suffix e2
  refine⟨p++q,by rw[hp1,hq];simp,fun hp ln f1 f2 f3=>?_⟩
  obtain⟨u1,u2,rfl,h3,h4⟩:=h1 hp ln (fun h=>f1 (by simp[hpL]at h ⊢;exact .inl h)) (fun h=>f2 (by simp[lnL]at h ⊢;exact .inl h)) (fun B hB=>f3 B (by rw[refsL_app];simp[hB]))
  obtain⟨q',hq',h2⟩:=toC_frz hb e2 h4
  have:q'=q:=by rw[hq]at hq';exact(List.append_cancel_right hq').symm
  subst this
  obtain⟨u3,u4,rfl,h5,h6⟩:=h2 hp ln (fun h=>f1 (by simp[hpL]at h ⊢;exact .inr h)) (fun h=>f2 (by simp[lnL]at h ⊢;exact .inr h)) (fun B hB=>f3 B (by rw[refsL_app];simp[hB]))
  exact⟨u1++u3,u4,by simp,by simp only[TR];exact⟨u1,u3,rfl,h3,h5⟩,h6⟩
 |.arr n t,cs,x,u,e,h=>by
  simp only[toC]at e
  unfold toArr at e
  split at e
  ·rename_i hp0 ln0 n' t' l r
   split at e
   ·rename_i ht;subst ht
    split at e
    ·rename_i hn;subst hn
     simp at e;subst e
     simp only[Cas,Ca]at h
     obtain⟨u1,u2,rfl,h1,h2⟩:=h
     refine⟨[_],rfl,fun hp ln f1 f2 f3=>⟨_,_,rfl,?_,h2⟩⟩
     exact TR.flags (fun h=>f2 (by simpa [lnL,AV.lnF]using h)) (fun h=>f1 (by simpa [hpL,AV.hpF]using h)) h1
    ·cases e
   ·cases e
  ·unfold toInts at e
   cases t<;>simp only at e<;>try (cases e;done)
   rename_i k0
   obtain⟨y,e1,e⟩:=bind_some'.1 e
   obtain⟨l,e2,e⟩:=bind_some'.1 e
   split at e
   ·rename_i hn;subst hn
    simp at e;subst e
    obtain⟨s1,s2,s3⟩:=h.split e1
    refine⟨y.1,(splitC_eq e1).1,fun hp ln f1 f2 f3=>⟨_,_,(List.take_append_drop _ _).symm,?_,s2⟩⟩
    obtain⟨q1,q2,q3⟩:=intsOf_ok e2 s1
    rw[q1]
    simp only[TR]
    refine⟨l.map fun x=>[.int k0 x],?_,by simp,?_⟩
    ·exact ints_flat k0 l
    ·simpa only[TR]using all2_ints (p:=c.p) (Z:=c.Z) (h:=c.h) (ln:=ln) (hp:=hp) l
   ·cases e
 |.ow _ t,cs,x,u,e,h=>by unfold toC at e;simp at e
theorem TR.pure {p:Bool} {Z Z':Nat→Prop} {h h':Heap} {ln:Bool}:∀{t:Ty} {x:t.den} {c:List IV},TR p Z h ln t false x c→TR p Z' h' ln t false x c
 |.int k,x,c,e=>by simpa only[TR]using e
 |.bool,x,c,e=>by simpa only[TR]using e
 |.str,x,c,e=>by simpa only[TR]using e
 |.unit,x,c,e=>by simpa only[TR]using e
 |.lst t,l,c,e=>by
  simp only[TR]at e ⊢
  obtain⟨iv,rfl,e⟩:=e
  refine⟨iv,rfl,?_⟩
  rcases e with e|⟨bo,es,rfl,e1,e2⟩|⟨e0,_⟩
  ·exact .inl e
  ·exact .inr (.inl ⟨bo,es,rfl,e1,e2.imp fun a b h=>TR.pure h⟩)
  ·cases e0
 |.pair a b,x,c,e=>by
  simp only[TR]at e ⊢
  obtain⟨u,v,rfl,h2,h3⟩:=e
  exact⟨u,v,rfl,TR.pure h2,TR.pure h3⟩
 |.arr n t,l,c,e=>by
  simp only[TR]at e ⊢
  obtain⟨es,rfl,h2,h3⟩:=e
  exact⟨es,rfl,h2,h3.imp fun a b h=>TR.pure h⟩
 |.ow _ t,x,c,e=>by simp[TR]at e
theorem mapO_app {α β:Type} {f:α→Option β}:∀{a b:List α} {a' b':List β},mapO f a=some a'→mapO f b=some b'→mapO f (a++b)=some (a'++b')
 |[],b,a',b',h,h'=>by simp[mapO]at h;subst h;simpa using h'
 |x::a,b,a',b',h,h'=>by
  simp only[mapO]at h
  obtain⟨y,e1,h⟩:=bind_some'.1 h
  obtain⟨ys,e2,h⟩:=bind_some'.1 h
  simp at h;subst h
  simp[mapO,e1,mapO_app e2 h']
theorem mapO_flat {α β:Type} {f:α→Option β}:∀{es:List (List α)} {es':List (List β)},mapO (mapO f) es=some es'→mapO f es.flatten=some es'.flatten
 |[],es',h=>by simp[mapO]at h;subst h;rfl
 |x::es,es',h=>by
  simp only[mapO]at h
  obtain⟨y,e1,h⟩:=bind_some'.1 h
  obtain⟨ys,e2,h⟩:=bind_some'.1 h
  simp at h;subst h
  simp only[List.flatten_cons]
  exact mapO_app e1 (mapO_flat e2)
theorem all2_mapO {α β γ:Type} {r:α→β→Prop} {q:α→γ→Prop} {f:β→Option γ} (hf:∀a b,r a b→∃g,f b=some g∧q a g):∀{l:List α} {m:List β},All2 r l m→∃m',mapO f m=some m'∧All2 q l m'
 |[],[],_=>⟨[],rfl,trivial⟩
 |a::l,b::m,h=>by
  obtain⟨g,e1,h1⟩:=hf a b h.1
  obtain⟨m',e2,h2⟩:=all2_mapO hf h.2
  exact⟨g::m',by simp[mapO,e1,e2],h1,h2⟩
 |[],_::_,h=>h.elim
 |_::_,[],h=>h.elim
theorem fz_not {h:Heap} {d:Nat} {v:IV} (hv:v.own=false):fz h d v=some v:=by
 cases d<;>simp[fz,hv]
theorem mapO_one {α β:Type} {f:α→Option β} {a:α} {b:β} (h:f a=some b):mapO f [a]=some [b]:=by simp[mapO,h]
def Zn:Nat→Prop:=fun _=>False
theorem TR_fz {p:Bool} {Z:Nat→Prop} {h:Heap} {ln:Bool}:∀{t:Ty} {hp:Bool} {x:t.den} {c:List IV} {d:Nat},TR p Z h ln t hp x c→t.dep<d→∃c',mapO (fz h d) c=some c'∧TR p Zn [] ln t false x c'
 |.int k,_,x,c,d,e,hd=>by simp only[TR]at e;subst e;exact⟨[.int k x],by rw[mapO_one (fz_not rfl)],by simp[TR]⟩
 |.bool,_,x,c,d,e,hd=>by simp only[TR]at e;subst e;exact⟨[.bool x],by rw[mapO_one (fz_not rfl)],by simp[TR]⟩
 |.str,_,x,c,d,e,hd=>by simp only[TR]at e;subst e;exact⟨[.str x],by rw[mapO_one (fz_not rfl)],by simp[TR]⟩
 |.unit,_,x,c,d,e,hd=>by simp only[TR]at e;subst e;exact⟨[],by simp[mapO],by simp[TR]⟩
 |.lst t,hp,l,c,d,e,hd=>by
  simp only[TR]at e ⊢
  obtain⟨iv,rfl,e⟩:=e
  rcases e with ⟨rfl,e⟩|⟨bo,es,rfl,e1,e2⟩|⟨e0,b,tot,off,len,cap,k,rfl,e1,e2,e3,e4,e5⟩
  ·exact⟨[iv],by rcases e with rfl|rfl<;>rw[mapO_one (fz_not rfl)],iv,rfl,.inl ⟨rfl,e⟩⟩
  ·exact⟨[.ro bo es],by rw[mapO_one (fz_not rfl)],_,rfl,.inr (.inl ⟨bo,es,rfl,e1,e2.imp fun a b h=>TR.pure h⟩)⟩
  ·cases d with
   |zero=>omega
   |succ d=>
    simp only[Ty.dep]at hd
    obtain⟨es',h1,h2⟩:=all2_mapO (f:=mapO (fz h d)) (q:=TR p Zn [] ln t false) (fun a b hab=>TR_fz hab (by omega)) e5
    refine⟨[.ro false es'],?_,_,rfl,.inr (.inl ⟨false,es',rfl,by simp,h2⟩)⟩
    simp only[mapO,fz,IV.own,e2,Option.bind_some,if_true,h1]
    rw[if_pos e4.1];simp
 |.pair a b,hp,x,c,d,e,hd=>by
  simp only[TR]at e ⊢
  obtain⟨u,v,rfl,h2,h3⟩:=e
  simp only[Ty.dep]at hd
  obtain⟨u',e1,g1⟩:=TR_fz h2 (d:=d) (by omega)
  obtain⟨v',e2,g2⟩:=TR_fz h3 (d:=d) (by omega)
  exact⟨u'++v',mapO_app e1 e2,u',v',rfl,g1,g2⟩
 |.arr n t,hp,l,c,d,e,hd=>by
  simp only[TR]at e ⊢
  obtain⟨es,rfl,h2,h3⟩:=e
  obtain⟨es',h1,h4⟩:=all2_mapO (f:=mapO (fz h d)) (q:=TR p Zn [] ln t false) (fun a b hab=>TR_fz hab (by simpa [Ty.dep]using hd)) h3
  exact⟨es'.flatten,mapO_flat h1,es',rfl,by rw[h4.len,←h3.len,h2],h4⟩
 |.ow _ t,_,x,c,d,e,_=>by simp[TR]at e
theorem TR_lend {p:Bool} {Z:Nat→Prop} {h:Heap} {ln:Bool}:∀{t:Ty} {x:t.den} {c:List IV},TR p Z h ln t false x c→TR true Z h true t false x (c.map IV.lend)
 |.int k,x,c,e=>by simp only[TR]at e ⊢;subst e;rfl
 |.bool,x,c,e=>by simp only[TR]at e ⊢;subst e;rfl
 |.str,x,c,e=>by simp only[TR]at e ⊢;subst e;rfl
 |.unit,x,c,e=>by simp only[TR]at e ⊢;subst e;rfl
 |.lst t,l,c,e=>by
  simp only[TR]at e ⊢
  obtain⟨iv,rfl,e⟩:=e
  refine⟨iv.lend,rfl,?_⟩
  rcases e with ⟨rfl,e⟩|⟨bo,es,rfl,e1,e2⟩|⟨e0,_⟩
  ·exact .inl ⟨rfl,by rcases e with rfl|rfl<;>simp[IV.lend]⟩
  ·refine .inr (.inl ⟨true,es.map (·.map IV.lend),by simp[IV.lend,IV.lendLL_eq],by simp,e2.map_r fun a b h=>TR_lend h⟩)
  ·cases e0
 |.pair a b,x,c,e=>by
  simp only[TR]at e ⊢
  obtain⟨u,v,rfl,h2,h3⟩:=e
  exact⟨_,_,List.map_append,TR_lend h2,TR_lend h3⟩
 |.arr n t,l,c,e=>by
  simp only[TR]at e ⊢
  obtain⟨es,rfl,h2,h3⟩:=e
  exact⟨es.map (·.map IV.lend),by rw[List.map_flatten],by simp[h2],h3.map_r fun a b h=>TR_lend h⟩
 |.ow _ t,x,c,e=>by simp[TR]at e
theorem TR_lent {p:Bool} {Z:Nat→Prop} {h:Heap} {ln:Bool} (hl:ln=true→p=false):∀{t:Ty} {x:t.den} {c:List IV},TR p Z h ln t false x c→∀v∈c,v.lent=false
 |.int k,x,c,e=>by simp only[TR]at e;subst e;simp[IV.lent]
 |.bool,x,c,e=>by simp only[TR]at e;subst e;simp[IV.lent]
 |.str,x,c,e=>by simp only[TR]at e;subst e;simp[IV.lent]
 |.unit,x,c,e=>by simp only[TR]at e;subst e;simp
 |.lst t,l,c,e=>by
  simp only[TR]at e
  obtain⟨iv,rfl,e⟩:=e
  simp only[List.mem_singleton,forall_eq]
  rcases e with ⟨rfl,e⟩|⟨bo,es,rfl,e1,e2⟩|⟨e0,_⟩
  ·rcases e with rfl|rfl<;>simp[IV.lent]
  ·simp only[IV.lent,IV.lentLL_eq,Bool.or_eq_false_iff]
   constructor
   ·cases bo with
    |false=>rfl
    |true=>obtain⟨h1,h2⟩:=e1 rfl;rw[hl h1]at h2;cases h2
   ·rw[List.any_eq_false]
    intro e' he
    obtain⟨x,_,hx⟩:=e2.mem_r e' he
    rw[Bool.not_eq_true,List.any_eq_false]
    intro v hv
    rw[Bool.not_eq_true]
    exact TR_lent hl hx v hv
  ·cases e0
 |.pair a b,x,c,e=>by
  simp only[TR]at e
  obtain⟨u,v,rfl,h2,h3⟩:=e
  intro w hw
  rcases List.mem_append.1 hw with h|h
  ·exact TR_lent hl h2 w h
  ·exact TR_lent hl h3 w h
 |.arr n t,l,c,e=>by
  simp only[TR]at e
  obtain⟨es,rfl,h2,h3⟩:=e
  intro w hw
  obtain⟨e',he,hw⟩:=List.mem_flatten.1 hw
  obtain⟨x,_,hx⟩:=h3.mem_r e' he
  exact TR_lent hl hx w hw
 |.ow _ t,x,c,e=>by simp[TR]at e
theorem TR_own {p:Bool} {Z:Nat→Prop} {h:Heap} {ln:Bool}:∀{t:Ty} {x:t.den} {c:List IV},TR p Z h ln t false x c→∀v∈c,v.own=false
 |.int k,x,c,e=>by simp only[TR]at e;subst e;simp[IV.own]
 |.bool,x,c,e=>by simp only[TR]at e;subst e;simp[IV.own]
 |.str,x,c,e=>by simp only[TR]at e;subst e;simp[IV.own]
 |.unit,x,c,e=>by simp only[TR]at e;subst e;simp
 |.lst t,l,c,e=>by
  simp only[TR]at e
  obtain⟨iv,rfl,e⟩:=e
  simp only[List.mem_singleton,forall_eq]
  rcases e with ⟨rfl,e⟩|⟨bo,es,rfl,e1,e2⟩|⟨e0,_⟩
  ·rcases e with rfl|rfl<;>simp[IV.own]
  ·simp[IV.own]
  ·cases e0
 |.pair a b,x,c,e=>by
  simp only[TR]at e
  obtain⟨u,v,rfl,h2,h3⟩:=e
  intro w hw
  rcases List.mem_append.1 hw with h|h
  ·exact TR_own h2 w h
  ·exact TR_own h3 w h
 |.arr n t,l,c,e=>by
  simp only[TR]at e
  obtain⟨es,rfl,h2,h3⟩:=e
  intro w hw
  obtain⟨e',he,hw⟩:=List.mem_flatten.1 hw
  obtain⟨x,_,hx⟩:=h3.mem_r e' he
  exact TR_own hx w hw
 |.ow _ t,x,c,e=>by simp[TR]at e
end Go.Ideal
set_option linter.unusedVariables false
set_option linter.unusedSimpArgs false
set_option linter.unusedSectionVars false
namespace Go.Ideal
section
variable {α β γ:Type} {r q:α→β→γ→Prop}
theorem All3.imp:∀{l:List α} {m:List β} {n:List γ},All3 r l m n→(∀a b c,c∈n→r a b c→q a b c)→All3 q l m n
 |[],[],[],_,_=>trivial
 |a::l,b::m,c::n,h,f=>⟨f a b c (by simp) h.1,All3.imp h.2 fun a b c hc=>f a b c (by simp[hc])⟩
 |[],_::_,_,h,_=>h.elim
 |[],[],_::_,h,_=>h.elim
 |_::_,[],_,h,_=>h.elim
 |_::_,_::_,[],h,_=>h.elim
theorem All3.len:∀{l:List α} {m:List β} {n:List γ},All3 r l m n→m.length=l.length∧n.length=l.length
 |[],[],[],_=>⟨rfl,rfl⟩
 |a::l,b::m,c::n,h=>by simp[All3.len h.2]
 |[],_::_,_,h=>h.elim
 |[],[],_::_,h=>h.elim
 |_::_,[],_,h=>h.elim
 |_::_,_::_,[],h=>h.elim
theorem All3.app:∀{l:List α} {m:List β} {n:List γ} {l':List α} {m':List β} {n':List γ},All3 r l m n→All3 r l' m' n'→All3 r (l++l') (m++m') (n++n')
 |[],[],[],_,_,_,_,h=>h
 |a::l,b::m,c::n,_,_,_,h,h'=>⟨h.1,All3.app h.2 h'⟩
 |[],_::_,_,_,_,_,h,_=>h.elim
 |[],[],_::_,_,_,_,h,_=>h.elim
 |_::_,[],_,_,_,_,h,_=>h.elim
 |_::_,_::_,[],_,_,_,h,_=>h.elim
theorem All3.get:∀{l:List α} {m:List β} {n:List γ},All3 r l m n→∀{i:Nat} {a:α},l[i]? = some a→∃b c,m[i]? = some b∧n[i]? = some c∧r a b c
 |a::l,b::m,c::n,h,0,x,hx=>by simp at hx;subst hx;exact⟨b,c,rfl,rfl,h.1⟩
 |a::l,b::m,c::n,h,i+1,x,hx=>by simpa using All3.get h.2 (i:=i) (by simpa using hx)
 |[],[],[],_,i,x,hx=>by simp at hx
 |[],_::_,_,h,_,_,_=>h.elim
 |[],[],_::_,h,_,_,_=>h.elim
 |_::_,[],_,h,_,_,_=>h.elim
 |_::_,_::_,[],h,_,_,_=>h.elim
end
theorem foot_app (a b:Lo):foot (a++b)=foot a++foot b:=by simp[foot]
theorem foot_mem {M:Lo} {Ms:List Lo} (h:M∈Ms) {b:Nat} (hb:b∈foot M):b∈foot Ms.flatten:=by
 simp only[foot,List.mem_flatMap]at hb ⊢
 obtain⟨q,h1,h2⟩:=hb
 exact⟨q,List.mem_flatten.2 ⟨M,h,h1⟩,h2⟩
@[simp] theorem foot_nil : foot [] = [] := rfl
theorem foot_one (q:Option Nat×List Nat):foot [q]=q.1.toList++q.2:=by simp[foot]
theorem TF.mono {p:Bool} {Z Z':Nat→Prop} {h h':Heap} {rt rt':Nat→Option Nat} (le:ZLe Z Z' h h') (hr:∀i b,rt i=some b→rt' i=some b):
 ∀{t:Ty} {x:t.den} {c:List IV} {L:Lo},TF p Z h rt t x c L→(∀b∈foot L,h'[b]? = h[b]?)→TF p Z' h' rt' t x c L
 |.pair a b,x,c,L,e,hf=>by
  simp only[TF]at e ⊢
  obtain⟨u,v,M,N,rfl,rfl,h1,h2⟩:=e
  exact⟨u,v,M,N,rfl,rfl,TF.mono le hr h1 fun b hb=>hf b (by rw[foot_app];simp[hb]),TF.mono le hr h2 fun b hb=>hf b (by rw[foot_app];simp[hb])⟩
 |.ow .own t,x,c,L,e,hf=>by
  simp only[TF]at e ⊢
  obtain⟨iv,mb,f,rfl,rfl,h1,h2⟩:=e
  refine⟨iv,mb,f,rfl,rfl,h1,?_⟩
  cases mb with
  |none=>exact h2
  |some b=>
   obtain⟨es,Ms,h3,h4,rfl⟩:=h2
   exact⟨es,Ms,by rw[hf b (by simp[foot_one])];exact h3,h4.imp fun a e M hM g=>TF.mono le hr g fun b hb=>hf b (by rw[foot_one];simp[foot_mem hM hb]),rfl⟩
 |.ow .obj t,x,c,L,e,hf=>by
  simp only[TF]at e ⊢
  obtain⟨b,e,M,rfl,h1,h2,rfl⟩:=e
  exact⟨b,e,M,rfl,by rw[hf b (by simp[foot_one])];exact h1,TF.mono le hr h2 fun b hb=>hf b (by rw[foot_one];simp[hb]),rfl⟩
 |.ow .opt t,x,c,L,e,hf=>by
  simp only[TF]at e ⊢
  rcases e with e|⟨v,b,e,M,rfl,rfl,h1,h2,rfl⟩
  ·exact .inl e
  ·exact .inr ⟨v,b,e,M,rfl,rfl,by rw[hf b (by simp[foot_one])];exact h1,TF.mono le hr h2 fun b hb=>hf b (by rw[foot_one];simp[hb]),rfl⟩
 |.ow (.root i) t,x,c,L,e,hf=>by
  simp only[TF]at e ⊢
  obtain⟨b,h1,h2⟩:=e
  exact⟨b,hr i b h1,h2⟩
 |.int k,x,c,L,e,hf=>by simp only[TF]at e ⊢;exact⟨TR.mono le e.1,e.2⟩
 |.bool,x,c,L,e,hf=>by simp only[TF]at e ⊢;exact⟨TR.mono le e.1,e.2⟩
 |.str,x,c,L,e,hf=>by simp only[TF]at e ⊢;exact⟨TR.mono le e.1,e.2⟩
 |.unit,x,c,L,e,hf=>by simp only[TF]at e ⊢;exact⟨TR.mono le e.1,e.2⟩
 |.lst t,x,c,L,e,hf=>by simp only[TF]at e ⊢;exact⟨TR.mono le e.1,e.2⟩
 |.arr n t,x,c,L,e,hf=>by simp only[TF]at e ⊢;exact⟨TR.mono le e.1,e.2⟩
theorem BR.le {c c':Cf} (hle:Le c c') {x:ABlk} {b:Option Nat} {f:List Nat} (hH:∀i,b=some i∨i∈f→c'.h[i]? = c.h[i]?) (h:BR c x b f):BR c' x b f:=by
 cases x with
 |arr wr hp ln t l=>
  simp only[BR]at h ⊢
  refine⟨h.1,?_⟩
  replace h:=h.2
  cases b with
  |none=>exact h
  |some i=>
   obtain⟨es,h1,h2⟩:=h
   exact⟨es,by rw[hH i (.inl rfl)];exact h1,h2.imp fun a b h=>TR.le hle h⟩
 |obj wr cs=>
  simp only[BR]at h ⊢
  obtain⟨h0,i,rfl,e,h1,h2⟩:=h
  exact⟨h0,i,rfl,e,by rw[hH i (.inl rfl)];exact h1,h2.le hle⟩
 |gone=>trivial
 |arr2 wr t l op=>
  cases op with
  |some y=>
   obtain⟨i,cs⟩:=y
   simp only[BR]at h ⊢
   obtain⟨b,es1,e,es2,Ms1,Ms2,rfl,h1,h2,h3,h4,h5,h6,h7,rfl⟩:=h
   refine⟨b,es1,e,es2,Ms1,Ms2,rfl,by rw[hH b (.inl rfl)];exact h1,h2,h3,h4,h5.imp fun a e M hM g=>?_,h6.imp fun a e M hM g=>?_,h7.le hle,rfl⟩
   ·rw[hle.p]
    exact TF.mono hle.Z hle.rt g fun b hb=>hH b (.inr (foot_mem (List.mem_append_left _ hM) hb))
   ·rw[hle.p]
    exact TF.mono hle.Z hle.rt g fun b hb=>hH b (.inr (foot_mem (List.mem_append_right _ hM) hb))
  |none=>
  simp only[BR]at h ⊢
  cases b with
  |none=>exact h
  |some i=>
   obtain⟨es,Ms,h1,h2,rfl⟩:=h
   refine⟨es,Ms,by rw[hH i (.inl rfl)];exact h1,h2.imp fun a e M hM g=>?_,rfl⟩
   rw[hle.p]
   exact TF.mono hle.Z hle.rt g fun b hb=>hH b (.inr (foot_mem hM hb))
 |fold wr t x=>
  simp only[BR]at h ⊢
  rcases h with h|⟨v,b,e,M,rfl,rfl,h1,h2,rfl⟩
  ·exact .inl h
  ·refine .inr ⟨v,b,e,M,rfl,rfl,by rw[hH b (.inl rfl)];exact h1,?_,rfl⟩
   rw[hle.p]
   exact TF.mono hle.Z hle.rt h2 fun b hb=>hH b (.inr hb)
 |rt i B=>
  simp only[BR]at h ⊢
  obtain⟨h1,h2,h3,h4,y,h5,h6⟩:=h
  obtain⟨m,z,hz,hyz⟩:=hle.H B y h5
  obtain⟨b,hb⟩:=Option.ne_none_iff_exists'.1 h4
  refine⟨h1,h2,by rw[hle.rt i b hb,m,←h3,hb],by rw[hle.rt i b hb];simp,z,hz,?_⟩
  rcases hyz with rfl|hyz
  ·trivial
  ·cases y<;>simp only at h6<;>cases z<;>simp only[blkLe]at hyz ⊢
def Cf.all (c:Cf):Cf:={ c with Z:=fun _=>True }
theorem Cf.le_all (c:Cf):Le c c.all:=⟨rfl,fun B x h=>⟨rfl,x,h,blkLe.rfl' _ x⟩,⟨fun _ _=>trivial,fun _ _=>rfl⟩,fun _ _ h=>h⟩
theorem BRs.all {c:Cf} (h:BRs c):BRs c.all:=fun B x hx=>(h B x hx).le c.le_all fun _ _=>rfl
theorem toC_fz {c:Cf} (hb:BRs c) {t:Ty} {cs:List AV} {x:t.den×List AV} {u:List IV} (e:toC c.H t cs=some x) (h:Cas c cs u) {d:Nat} (hd:t.dep<d):
 ∃pre,cs=pre++x.2∧∃u1 u2,u=u1++u2∧Cas c.all x.2 u2∧∃u',mapO (fz c.h d) u1=some u'∧TR c.p Zn [] (lnL c.H pre) t false x.1 u':=by
 obtain⟨pre,h1,h2⟩:=toC_frz (c:=c.all) hb.all e (h.le c.le_all)
 refine⟨pre,h1,?_⟩
 obtain⟨u1,u2,rfl,h3,h4⟩:=h2 true (lnL c.H pre) (fun _=>rfl) (fun h=>h) (fun _ _ _ _=>trivial)
 obtain⟨u',h5,h6⟩:=TR_fz h3 hd
 exact⟨u1,u2,rfl,h4,u',h5,h6⟩
def TV (p:Bool) (Z:Nat→Prop) (h:Heap) (ln:Bool) (v:VTy) (hp:Bool) (x:v.t.den) (iv:IV):Prop:=
 if v.agg=true then ∃cs,iv = .agg cs∧TR p Z h ln v.t hp x cs else TR p Z h ln v.t hp x [iv]
theorem TV.own {p Z h ln v x iv} (e:TV p Z h ln v false x iv):iv.own=false:=by
 unfold TV at e
 split at e
 ·obtain⟨cs,rfl,e⟩:=e
  simp only[IV.own,IV.ownL_eq,List.any_eq_false]
  intro w hw;simp[TR_own e w hw]
 ·exact TR_own e iv (by simp)
theorem TV.lent {p Z h ln v x iv} (hl:ln=true→p=false) (e:TV p Z h ln v false x iv):iv.lent=false:=by
 unfold TV at e
 split at e
 ·obtain⟨cs,rfl,e⟩:=e
  simp only[IV.lent,IV.lentL_eq,List.any_eq_false]
  intro w hw;simp[TR_lent hl e w hw]
 ·exact TR_lent hl e iv (by simp)
theorem TV.lend {p Z h ln v x iv} (e:TV p Z h ln v false x iv):TV true Z h true v false x iv.lend:=by
 unfold TV at e ⊢
 split at e
 ·rename_i ha;rw[if_pos ha]
  obtain⟨cs,rfl,e⟩:=e
  exact⟨_,by simp only[IV.lend,IV.lendL_eq],TR_lend e⟩
 ·rename_i ha;rw[if_neg ha];simpa using TR_lend e
theorem TR.unlent {p p':Bool} {Z:Nat→Prop} {h:Heap} {ln ln':Bool} (hl:ln=true→p=false):∀{t:Ty} {hp:Bool} {x:t.den} {c:List IV},TR p Z h ln t hp x c→TR p' Z h ln' t hp x c
 |.int k,_,x,c,e=>by simpa only[TR]using e
 |.bool,_,x,c,e=>by simpa only[TR]using e
 |.str,_,x,c,e=>by simpa only[TR]using e
 |.unit,_,x,c,e=>by simpa only[TR]using e
 |.lst t,hp,l,c,e=>by
  simp only[TR]at e ⊢
  obtain⟨iv,rfl,e⟩:=e
  refine⟨iv,rfl,?_⟩
  rcases e with e|⟨bo,es,rfl,e1,e2⟩|⟨e0,b,tot,off,len,cap,k,rfl,e1,e2,e3,e4,e5⟩
  ·exact .inl e
  ·refine .inr (.inl ⟨bo,es,rfl,fun hbo=>?_,e2.imp fun a b h=>TR.unlent hl h⟩)
   obtain⟨h1,h2⟩:=e1 hbo
   rw[hl h1]at h2;cases h2
  ·exact .inr (.inr ⟨e0,b,tot,off,len,cap,k,rfl,e1,e2,e3,e4,e5.imp fun a b h=>TR.unlent hl h⟩)
 |.pair a b,hp,x,c,e=>by
  simp only[TR]at e ⊢
  obtain⟨u,v,rfl,h2,h3⟩:=e
  exact⟨u,v,rfl,TR.unlent hl h2,TR.unlent hl h3⟩
 |.arr n t,hp,l,c,e=>by
  simp only[TR]at e ⊢
  obtain⟨es,rfl,h2,h3⟩:=e
  exact⟨es,rfl,h2,h3.imp fun a b h=>TR.unlent hl h⟩
 |.ow _ t,_,x,c,e=>by simp[TR]at e
theorem TV.unlent {p p' Z h ln ln' v hp x iv} (hl:ln=true→p=false) (e:TV p Z h ln v hp x iv):TV p' Z h ln' v hp x iv:=by
 unfold TV at e ⊢
 split at e
 ·rename_i ha;rw[if_pos ha];obtain⟨cs,h1,e⟩:=e;exact⟨cs,h1,e.unlent hl⟩
 ·rename_i ha;rw[if_neg ha];exact e.unlent hl
theorem TV.flags {p Z h ln ln' v hp hp' x iv} (l1:ln=true→ln'=true) (h1:hp=true→hp'=true) (e:TV p Z h ln v hp x iv):TV p Z h ln' v hp' x iv:=by
 unfold TV at e ⊢
 split at e
 ·rename_i ha;rw[if_pos ha];obtain⟨cs,h2,e⟩:=e;exact⟨cs,h2,e.flags l1 h1⟩
 ·rename_i ha;rw[if_neg ha];exact e.flags l1 h1
theorem TV.pure {p Z Z' h h' ln v x iv} (e:TV p Z h ln v false x iv):TV p Z' h' ln v false x iv:=by
 unfold TV at e ⊢
 split at e
 ·rename_i ha;rw[if_pos ha];obtain⟨cs,h2,e⟩:=e;exact⟨cs,h2,e.pure⟩
 ·rename_i ha;rw[if_neg ha];exact e.pure
theorem toV_eq {H:AHp} {v:VTy} {a:AV} {x:v.t.den} (e:toV H v a=some x):(v.agg=true∧∃cs,a = .agg cs∧toC H v.t cs=some (x,[]))∨(v.agg=false∧a.one=true∧toC H v.t [a]=some (x,[])):=by
 unfold toV at e
 obtain⟨y,e1,e⟩:=bind_some'.1 e
 have hy:y=(x,[]):=by
  obtain⟨y1,y2⟩:=y
  cases y2 with
  |nil=>simp only[Option.some.injEq]at e;subst e;rfl
  |cons _ _=>cases e
 subst hy
 split at e1
 ·rename_i ha
  cases a<;>simp only at e1<;>try (cases e1;done)
  exact .inl ⟨ha,_,rfl,e1⟩
 ·rename_i ha
  split at e1
  ·rename_i h1;exact .inr ⟨by simpa using ha,h1,e1⟩
  ·cases e1
theorem one_iv {c:Cf} {a:AV} (h:a.one=true) {iv:IV} (v:Va c a iv):iv.one=true:=by
 cases a<;>simp only[AV.one]at h<;>try (cases h;done)
 all_goals simp only[Va]at v
 case lst hp ln t l=>exact(TR.one v).2 iv (by simp)
 case nils=>rcases v with rfl|rfl<;>rfl
 case rptr=>obtain⟨e,_,⟨bo,rfl⟩|⟨_,b,tot,i,k,rfl,_⟩⟩:=v<;>rfl
 case fn=>obtain⟨_,_,rfl,_⟩:=v;rfl
 case own B=>exact IV.onc_one v.1
 case sub=>exact IV.onc_one v.1
 case own2=>exact IV.onc_one v.1
 case eptr2=>exact IV.onc_one v.1
 case any=>exact IV.onc_one v
 case ptr=>exact IV.onc_one v.1
 case eptr=>exact IV.onc_one v.1
 all_goals subst v;rfl
theorem toV_frz {c:Cf} (hb:BRs c) {v:VTy} {a:AV} {x:v.t.den} {iv:IV} (e:toV c.H v a=some x) (h:Va c a iv) {hp ln:Bool}
 (f1:a.hpV c.H=true→hp=true) (f2:a.lnV c.H=true→ln=true) (f3:∀B∈a.refs,∀b∈c.ft B,c.Z b):TV c.p c.Z c.h ln v hp x iv:=by
 unfold TV
 rcases toV_eq e with ⟨ha,cs,rfl,e'⟩|⟨ha,h1,e'⟩
 ·rw[if_pos ha]
  simp only[Va]at h
  obtain⟨ivs,rfl,h⟩:=h
  obtain⟨pre,h1,h2⟩:=toC_frz hb e' h
  simp only[List.append_nil]at h1;subst h1
  obtain⟨u1,u2,rfl,h3,h4⟩:=h2 hp ln f1 f2 (by simpa only[AV.refs]using f3)
  simp only[Cas]at h4;subst h4
  exact⟨_,rfl,by simpa using h3⟩
 ·rw[if_neg (by simp[ha])]
  have hc:Cas c [a] [iv]:=Cas.single.2 ((cell_val h1).2 ⟨iv,rfl,one_iv h1 h,h⟩)
  obtain⟨pre,g1,h2⟩:=toC_frz hb e' hc
  simp only[List.append_nil]at g1;subst g1
  have k1:a.hpV c.H=a.hpF c.H:=by cases a<;>simp_all [AV.one,AV.hpV]
  have k2:a.lnV c.H=a.lnF c.H:=by cases a<;>simp_all [AV.one,AV.lnV]
  obtain⟨u1,u2,g,h3,h4⟩:=h2 hp ln (by simpa [hpL,←k1]using f1) (by simpa [lnL,←k2]using f2) (by simpa [AV.refsL]using f3)
  simp only[Cas]at h4;subst h4
  simp at g;subst g
  exact h3
theorem mapO_single {α β:Type} {f:α→Option β} {a:α} {r:List β} (h:mapO f [a]=some r):∃b,f a=some b∧r=[b]:=by
 simp only[mapO]at h
 obtain⟨b,e1,h⟩:=bind_some'.1 h
 simp at h;exact⟨b,e1,h.symm⟩
theorem fz_agg {h:Heap} {d:Nat} {cs cs':List IV} (e:mapO (fz h d) cs=some cs'):fz h (d+1) (.agg cs)=some (.agg cs'):=by
 unfold fz
 split
 ·simp[e]
 ·rename_i ho
  have hno:∀v∈cs,v.own=false:=by
   intro v hv
   simp only[IV.own,IV.ownL_eq]at ho
   rw[Bool.not_eq_true,List.any_eq_false]at ho
   simpa using ho v hv
  have:mapO (fz h d) cs=some cs:=by
   clear e ho
   induction cs with
   |nil=>rfl
   |cons a l ih=>simp[mapO,fz_not (hno a (by simp)),ih (fun v hv=>hno v (by simp[hv]))]
  rw[this]at e;injection e with e;subst e;rfl
theorem toV_fz {c:Cf} (hb:BRs c) {v:VTy} {a:AV} {x:v.t.den} {iv:IV} (e:toV c.H v a=some x) (h:Va c a iv) {d:Nat} (hd:v.t.dep<d):
 ∃iv',fz c.h (d+1) iv=some iv'∧TV c.p Zn [] (a.lnV c.H) v false x iv':=by
 have h1:=toV_frz (c:=c.all) hb.all (hp:=true) (ln:=a.lnV c.H) e (h.le c.le_all) (fun _=>rfl) (fun h=>h) (fun _ _ _ _=>trivial)
 unfold TV at h1 ⊢
 split at h1
 ·rename_i ha
  simp only[if_pos ha]
  obtain⟨cs,rfl,h1⟩:=h1
  obtain⟨u,g1,g2⟩:=TR_fz h1 hd
  exact⟨_,fz_agg g1,u,rfl,g2⟩
 ·rename_i ha
  simp only[if_neg ha]
  obtain⟨u,g1,g2⟩:=TR_fz h1 (show v.t.dep<d+1 by omega)
  obtain⟨b,g3,rfl⟩:=mapO_single g1
  exact⟨b,g3,g2⟩
def TVs (p:Bool) (Z:Nat→Prop) (h:Heap) (ln hp:Bool):(vs:List VTy)→(rowTy (vs.map (·.t))).den→List IV→Prop
 |[],_,ivs=>ivs=[]
 |v::vs,x,ivs=>∃iv r,ivs=iv::r∧TV p Z h ln v hp (headD v.t (vs.map (·.t)) x) iv∧TVs p Z h ln hp vs (tailD v.t (vs.map (·.t)) x) r
theorem headD_consD:∀{t:Ty} {r:List Ty} (x:t.den) (y:(rowTy r).den),headD t r (consD t r x y)=x
 |_,[],_,_=>rfl
 |_,_::_,_,_=>rfl
theorem tailD_consD:∀{t:Ty} {r:List Ty} (x:t.den) (y:(rowTy r).den),tailD t r (consD t r x y)=y
 |_,[],_,_=>rfl
 |_,_::_,_,_=>rfl
theorem toVs_fz {c:Cf} (hb:BRs c) {d:Nat}:∀{vs:List VTy} {as:List AV} {x:(rowTy (vs.map (·.t))).den} {ivs:List IV},toVs c.H vs as=some x→Vas c as ivs→(∀v∈vs,v.t.dep<d)→
 ∃ivs',mapO (fz c.h (d+1)) ivs=some ivs'∧TVs c.p Zn [] (lnVs c.H as) false vs x ivs'∧(hpVs c.H as=false→∀iv∈ivs,iv.own=false)
 |[],as,x,ivs,e,h,hd=>by
  cases as with
  |nil=>simp only[Vas]at h;subst h;exact⟨[],rfl,rfl,by simp⟩
  |cons _ _=>simp[toVs]at e
 |v::vs,as,x,ivs,e,h,hd=>by
  cases as with
  |nil=>simp[toVs]at e
  |cons a as=>
   simp only[toVs]at e
   obtain⟨y,e1,e⟩:=bind_some'.1 e
   obtain⟨z,e2,e⟩:=bind_some'.1 e
   simp only[Option.some.injEq]at e;subst e
   simp only[Vas]at h
   obtain⟨iv,r,rfl,h1,h2⟩:=h
   obtain⟨iv',g1,g2⟩:=toV_fz hb e1 h1 (hd v (by simp))
   obtain⟨r',g3,g4,g5⟩:=toVs_fz hb e2 h2 (fun v hv=>hd v (by simp[hv]))
   refine⟨iv'::r',by simp[mapO,g1,g3],⟨iv',r',rfl,?_,?_⟩,?_⟩
   ·rw[headD_consD];exact g2.flags (by simp[lnVs];exact fun h=>.inl h) id
   ·rw[tailD_consD]
    have:∀{vs:List VTy} {x:(rowTy (vs.map (·.t))).den} {ivs:List IV} {ln ln':Bool},(ln=true→ln'=true)→TVs c.p Zn [] ln false vs x ivs→TVs c.p Zn [] ln' false vs x ivs:=by
     intro vs
     induction vs with
     |nil=>intro x ivs ln ln' _ h;exact h
     |cons v vs ih=>
      intro x ivs ln ln' hl h
      simp only[TVs]at h ⊢
      obtain⟨iv,r,rfl,h1,h2⟩:=h
      exact⟨iv,r,rfl,h1.flags hl id,ih hl h2⟩
    exact this (by simp only[lnVs,List.any_cons,Bool.or_eq_true];exact fun h=>.inr h) g4
   ·intro hh iv0 hiv
    simp only[hpVs,List.any_cons,Bool.or_eq_false_iff]at hh
    rcases List.mem_cons.1 hiv with rfl|hiv
    ·have:=toV_frz (c:=c.all) hb.all (hp:=false) (ln:=true) e1 (h1.le c.le_all) (fun h=>by have:=hh.1;rw[show c.all.H=c.H from rfl]at h;rw[this]at h;cases h) (fun _=>rfl) (fun _ _ _ _=>trivial)
     exact this.own
    ·exact g5 hh.2 iv0 hiv
theorem TVs.flags {p:Bool} {Z:Nat→Prop} {h:Heap} {ln ln' hp hp':Bool} (l1:ln=true→ln'=true) (h1:hp=true→hp'=true):∀{vs:List VTy} {x:(rowTy (vs.map (·.t))).den} {ivs:List IV},TVs p Z h ln hp vs x ivs→TVs p Z h ln' hp' vs x ivs
 |[],x,ivs,e=>e
 |v::vs,x,ivs,e=>by
  simp only[TVs]at e ⊢
  obtain⟨iv,r,rfl,g1,g2⟩:=e
  exact⟨iv,r,rfl,g1.flags l1 h1,TVs.flags l1 h1 g2⟩
theorem TVs.unlent {p p':Bool} {Z:Nat→Prop} {h:Heap} {ln ln' hp:Bool} (hl:ln=true→p=false):∀{vs:List VTy} {x:(rowTy (vs.map (·.t))).den} {ivs:List IV},TVs p Z h ln hp vs x ivs→TVs p' Z h ln' hp vs x ivs
 |[],x,ivs,e=>e
 |v::vs,x,ivs,e=>by
  simp only[TVs]at e ⊢
  obtain⟨iv,r,rfl,g1,g2⟩:=e
  exact⟨iv,r,rfl,g1.unlent hl,TVs.unlent hl g2⟩
theorem TVs.pure {p:Bool} {Z Z':Nat→Prop} {h h':Heap} {ln:Bool}:∀{vs:List VTy} {x:(rowTy (vs.map (·.t))).den} {ivs:List IV},TVs p Z h ln false vs x ivs→TVs p Z' h' ln false vs x ivs
 |[],x,ivs,e=>e
 |v::vs,x,ivs,e=>by
  simp only[TVs]at e ⊢
  obtain⟨iv,r,rfl,g1,g2⟩:=e
  exact⟨iv,r,rfl,g1.pure,TVs.pure g2⟩
theorem TVs.lend {p:Bool} {Z:Nat→Prop} {h:Heap} {ln:Bool}:∀{vs:List VTy} {x:(rowTy (vs.map (·.t))).den} {ivs:List IV},TVs p Z h ln false vs x ivs→TVs true Z h true false vs x (ivs.map IV.lend)
 |[],x,ivs,e=>by simp only[TVs]at e;subst e;rfl
 |v::vs,x,ivs,e=>by
  simp only[TVs]at e ⊢
  obtain⟨iv,r,rfl,g1,g2⟩:=e
  exact⟨iv.lend,r.map IV.lend,rfl,g1.lend,TVs.lend g2⟩
theorem TVs.lent {p:Bool} {Z:Nat→Prop} {h:Heap} {ln:Bool} (hl:ln=true→p=false):∀{vs:List VTy} {x:(rowTy (vs.map (·.t))).den} {ivs:List IV},TVs p Z h ln false vs x ivs→∀v∈ivs,v.lent=false
 |[],x,ivs,e=>by simp only[TVs]at e;subst e;simp
 |v::vs,x,ivs,e=>by
  simp only[TVs]at e
  obtain⟨iv,r,rfl,g1,g2⟩:=e
  intro w hw
  rcases List.mem_cons.1 hw with rfl|hw
  ·exact g1.lent hl
  ·exact TVs.lent hl g2 w hw
theorem ofV_ok {c:Cf} {hp ln:Bool} {v:VTy} {x:v.t.den} {a:AV} {iv:IV} (e:ofV hp ln v x=some a) (h:TV c.p c.Z c.h ln v hp x iv):Va c a iv:=by
 unfold ofV at e
 unfold TV at h
 split at e
 ·rename_i ha
  rw[if_pos ha]at h
  simp at e;subst e
  obtain⟨cs,rfl,h⟩:=h
  exact⟨cs,rfl,cellsT_ok h⟩
 ·rename_i ha
  rw[if_neg ha]at h
  have:=cellsT_ok h
  split at e
  ·rename_i b hb
   split at e
   ·rename_i h1
    simp at e;subst e
    rw[hb,Cas.single]at this
    obtain⟨iv',g1,_,g2⟩:=(cell_val h1).1 this
    simp at g1;subst g1;exact g2
   ·cases e
  ·cases e
theorem ofVs_ok {c:Cf} {hp ln:Bool}:∀{vs:List VTy} {x:(rowTy (vs.map (·.t))).den} {as:List AV} {ivs:List IV},ofVs hp ln vs x=some as→TVs c.p c.Z c.h ln hp vs x ivs→Vas c as ivs
 |[],x,as,ivs,e,h=>by simp[ofVs]at e;subst e;exact h
 |v::vs,x,as,ivs,e,h=>by
  simp only[ofVs]at e
  obtain⟨y,e1,e⟩:=bind_some'.1 e
  obtain⟨z,e2,e⟩:=bind_some'.1 e
  simp only[Option.some.injEq]at e;subst e
  simp only[TVs]at h
  obtain⟨iv,r,rfl,g1,g2⟩:=h
  exact⟨iv,r,rfl,ofV_ok e1 g1,ofVs_ok e2 g2⟩
theorem ofVs_len {hp ln:Bool}:∀{vs:List VTy} {x:(rowTy (vs.map (·.t))).den} {as:List AV},ofVs hp ln vs x=some as→as.length=vs.length
 |[],x,as,e=>by simp[ofVs]at e;subst e;rfl
 |v::vs,x,as,e=>by
  simp only[ofVs]at e
  obtain⟨y,e1,e⟩:=bind_some'.1 e
  obtain⟨z,e2,e⟩:=bind_some'.1 e
  simp only[Option.some.injEq]at e;subst e
  simp[ofVs_len e2]
def TRes (p ln:Bool) (vs:List VTy) (x:(rowTy (vs.map (·.t))).den) (iv:IV):Prop:=
 ∃ivs,TVs p Zn [] ln false vs x ivs∧iv=tupled ivs
theorem resAV_ok {c:Cf} {ln:Bool} {vs:List VTy} {x:(rowTy (vs.map (·.t))).den} {a:AV} {iv:IV} (e:resAV false ln vs x=some a) (h:TRes c.p ln vs x iv):Va c a iv:=by
 unfold resAV at e
 obtain⟨as,e1,e⟩:=bind_some'.1 e
 obtain⟨ivs,h,rfl⟩:=h
 have:=ofVs_ok (c:=c) e1 h.pure
 split at e
 ·simp at e;subst e
  simp only[Vas]at this
  obtain⟨u,v,rfl,h1,rfl⟩:=this
  exact h1
 ·rename_i hno
  simp at e;subst e
  have hl:=this.len
  refine⟨ivs,?_,this⟩
  unfold tupled
  split
  ·rename_i v
   obtain⟨a,rfl⟩:=List.length_eq_one_iff.1 hl.symm
   exact(hno a rfl).elim
  ·rfl
theorem TRes.unlent {p p' ln ln':Bool} (hl:ln=true→p=false) {vs:List VTy} {x:(rowTy (vs.map (·.t))).den} {iv:IV} (h:TRes p ln vs x iv):TRes p' ln' vs x iv:=by
 obtain⟨ivs,h,e⟩:=h;exact⟨ivs,h.unlent hl,e⟩
theorem TRes.lent {p ln:Bool} (hl:ln=true→p=false) {vs:List VTy} {x:(rowTy (vs.map (·.t))).den} {iv:IV} (h:TRes p ln vs x iv):iv.lent=false:=by
 obtain⟨ivs,h,rfl⟩:=h
 have:=h.lent hl
 unfold tupled
 split
 ·exact this _ (by simp)
 ·simp only[IV.lent,IV.lentL_eq,List.any_eq_false]
  intro w hw;simp[this w hw]
structure CtOk (prog:Nat→Option SFn) (opn:Nat→Bool) (f:Nat) (c:Ct):Prop where
 dep:∀v∈c.args,v.t.dep<19
 ok:∀(p:Bool) x ivs r,TVs p Zn [] true false c.args x ivs→c.F x=some r→∃iv h' iv',callL prog opn f ivs []=some (iv,h')∧fz h' depth iv=some iv'∧TRes p (!c.fresh) c.res r iv'
theorem doCall_typ {prog:Nat→Option SFn} {opn opn':Nat→Bool} {f:Nat} {ct:Ct} (hc:CtOk prog opn f ct) (ho:opn' f=false) {c:Cf} (hb:BRs c) {args:List AV} {ivs:List IV} (h:Vas c args ivs) {x} (hx:toVs c.H ct.args args=some x)
 (hf:(ct.fresh|| !(hpVs c.H args))=true) {r} (hr:ct.F x=some r):∃iv,doCall (callL prog opn) opn' f ivs c.h=some (iv,c.h)∧TRes c.p (!ct.fresh&&lnVs c.H args) ct.res r iv:=by
 obtain⟨ivs',g1,g2,g3⟩:=toVs_fz hb hx h hc.dep
 unfold doCall
 rw[ho]
 simp only[Bool.false_eq_true,if_false]
 split
 ·rename_i hown
  have hfresh:ct.fresh=true:=by
   cases hfr:ct.fresh with
   |true=>rfl
   |false=>
    rw[hfr]at hf
    simp at hf
    have:=g3 hf
    obtain⟨v,hv,hv'⟩:=List.any_eq_true.1 hown
    rw[this v hv]at hv';cases hv'
  obtain⟨iv,h',iv',q1,q2,q3⟩:=hc.ok true x _ r g2.lend hr
  have hv:views c.h ivs=some (ivs'.map IV.lend):=by unfold views;rw[show depth=19+1 from rfl,g1];rfl
  have hl:=q3.lent (by simp[hfresh])
  refine⟨iv',?_,q3.unlent (by simp[hfresh])⟩
  simp[hv,q1,q2,hl]
 ·rename_i hown
  have hsame:ivs'=ivs:=by
   have:mapO (fz c.h 20) ivs=some ivs:=by
    rw[Bool.not_eq_true,List.any_eq_false]at hown
    clear g1 g2 g3 h
    induction ivs with
    |nil=>rfl
    |cons a l ih=>
     have h1:=hown a (by simp)
     simp[mapO,fz_not (by simpa using h1),ih (fun v hv=>hown v (by simp[hv]))]
   rw[show (19+1:Nat)=20 from rfl,this]at g1
   injection g1 with g1;exact g1.symm
  subst hsame
  cases hl:lnVs c.H args with
  |true=>
   obtain⟨iv,h',iv',q1,q2,q3⟩:=hc.ok c.p x _ r (g2.flags (fun _=>rfl) id) hr
   refine⟨iv',by simp[q1,q2],?_⟩
   simpa using q3
  |false=>
   rw[hl]at g2
   obtain⟨iv,h',iv',q1,q2,q3⟩:=hc.ok false x _ r (g2.unlent (by simp)) hr
   exact⟨iv',by simp[q1,q2],q3.unlent (fun _=>rfl)⟩
end Go.Ideal
set_option linter.unusedVariables false
set_option linter.unusedSimpArgs false
set_option linter.unusedSectionVars false
namespace Go.Ideal
def ABlk.isGone:ABlk→Bool
 |.gone=>true
 |_=>false
structure Run where
 p:Bool
 N:Nat
 O0:Nat→Prop
 h0:Heap
 Z0:Nat→Prop
structure GH (R:Run) (c:Cf):Prop where
 p:c.p=R.p
 blk:BRs c
 inj:∀B B' x x' b,c.H[B]? = some x→c.H[B']? = some x'→x.wr=true→x'.wr=true→b∈c.ft B→b∈c.ft B'→B=B'
 nd:∀B x,c.H[B]? = some x→x.wr=true→(c.ft B).Nodup
 wr:∀B x b,c.H[B]? = some x→x.wr=true→b∈c.ft B→(R.O0 b∨R.N≤b)∧¬c.Z b
 ro:∀B x b,c.H[B]? = some x→x.wr=false→x≠.gone→b∈c.ft B→b<R.N∧¬R.O0 b
 lt:∀B x b,c.H[B]? = some x→x≠.gone→b∈c.ft B→b<c.h.length
 base:R.N≤c.h.length∧∀b,b<R.N→¬R.O0 b→c.h[b]? = R.h0[b]?
 zb:∀b,c.Z b→b<c.h.length∧(R.Z0 b∨R.O0 b∨R.N≤b)
 z0:∀b,R.Z0 b→c.Z b
 rtd:∀i b,c.rt i=some b→∃(j:Nat) (B:Nat),c.H[j]? = some (.rt i B)
theorem GH.gen' {R:Run} {c c':Cf} (g:GH R c) (hp:c'.p=c.p) (hZ:c'.Z=c.Z) (hrt:∀i b,c.rt i=some b→c'.rt i=some b) (hrd:∀i b,c'.rt i=some b→∃(j:Nat) (B:Nat),c'.H[j]? = some (.rt i B)) (hlen:c.h.length≤c'.h.length) (W:Nat→Prop)
 (hW:∀b,W b→∃B x,c.H[B]? = some x∧x.wr=true∧b∈c.ft B)
 (hh:∀b,b<c.h.length→¬W b→c'.h[b]? = c.h[b]?)
 (hle:∀B x,c.H[B]? = some x→c'.m B=c.m B∧∃y,c'.H[B]? = some y∧(y = .gone∨blkLe (c.m B) x y))
 (hH:Le c c'→∀B x,c'.H[B]? = some x→x = .gone∨(c.H[B]? = some x∧c'.m B=c.m B∧c'.f B=c.f B∧∀b,b∈c.ft B→¬W b)∨
   (x.wr=true∧BR c' x (c'.m B) (c'.f B)∧(c'.ft B).Nodup∧∀b,b∈c'.ft B→b<c'.h.length∧(W b∨c.h.length≤b)∧∀B' x',c'.H[B']? = some x'→x'.wr=true→b∈c'.ft B'→B'=B)∨
   (BR c' x (c'.m B) (c'.f B)∧c'.ft B=[])):
 GH R c'∧Le c c':=by
 have hWr:∀b,W b→(R.O0 b∨R.N≤b)∧¬c.Z b:=fun b hb=>by obtain⟨B,x,h1,h2,h3⟩:=hW b hb;exact g.wr B x b h1 h2 h3
 have le:Le c c':=⟨hp,hle,⟨fun b hb=>by rw[hZ];exact hb,fun b hb=>hh b (g.zb b hb).1 fun hw=>(hWr b hw).2 hb⟩,hrt⟩
 have hH:=hH le
 have hft:∀{B},c'.m B=c.m B→c'.f B=c.f B→c'.ft B=c.ft B:=fun h1 h2=>by simp only[Cf.ft,h1,h2]
 refine⟨⟨hp.trans g.p,?_,?_,?_,?_,?_,?_,⟨Nat.le_trans g.base.1 hlen,?_⟩,?_,fun b hb=>by rw[hZ];exact g.z0 b hb,hrd⟩,le⟩
 ·intro B x hB
  rcases hH B x hB with rfl|⟨h1,h2,hf,h3⟩|⟨_,h,_⟩|⟨h,_⟩
  ·trivial
  ·rw[h2,hf]
   by_cases hg:x = .gone
   ·subst hg;trivial
   ·exact(g.blk B x h1).le le fun b hb=>hh b (g.lt B x b h1 hg (Cf.ft_iff.2 hb)) (h3 b (Cf.ft_iff.2 hb))
  ·exact h
  ·exact h
 ·intro B B' x x' b hB hB' hx hx' hm hm'
  rcases hH B x hB with rfl|⟨h1,h2,hf,h3⟩|⟨_,_,_,h⟩|⟨_,h⟩
  ·cases hx
  ·rcases hH B' x' hB' with rfl|⟨k1,k2,kf,k3⟩|⟨_,_,_,k⟩|⟨_,k⟩
   ·cases hx'
   ·rw[hft h2 hf]at hm;rw[hft k2 kf]at hm'
    exact g.inj B B' x x' b h1 k1 hx hx' hm hm'
   ·exact(k b hm').2.2 B x hB hx hm
   ·rw[k]at hm';cases hm'
  ·exact((h b hm).2.2 B' x' hB' hx' hm').symm
  ·rw[h]at hm;cases hm
 ·intro B x hB hx
  rcases hH B x hB with rfl|⟨h1,h2,hf,h3⟩|⟨_,_,h,_⟩|⟨_,h⟩
  ·cases hx
  ·rw[hft h2 hf];exact g.nd B x h1 hx
  ·exact h
  ·rw[h];simp
 ·intro B x b hB hx hm
  rw[hZ]
  rcases hH B x hB with rfl|⟨h1,h2,hf,h3⟩|⟨_,_,_,h⟩|⟨_,h⟩
  ·cases hx
  ·rw[hft h2 hf]at hm;exact g.wr B x b h1 hx hm
  ·rcases (h b hm).2.1 with h|h
   ·exact hWr b h
   ·exact⟨.inr (Nat.le_trans g.base.1 h),fun hz=>by have:=(g.zb b hz).1;omega⟩
  ·rw[h]at hm;cases hm
 ·intro B x b hB hx hg hm
  rcases hH B x hB with rfl|⟨h1,h2,hf,h3⟩|⟨h,_,_⟩|⟨_,h⟩
  ·exact(hg rfl).elim
  ·rw[hft h2 hf]at hm;exact g.ro B x b h1 hx hg hm
  ·rw[hx]at h;cases h
  ·rw[h]at hm;cases hm
 ·intro B x b hB hg hm
  rcases hH B x hB with rfl|⟨h1,h2,hf,h3⟩|⟨_,_,_,h⟩|⟨_,h⟩
  ·exact(hg rfl).elim
  ·rw[hft h2 hf]at hm;exact Nat.lt_of_lt_of_le (g.lt B x b h1 hg hm) hlen
  ·exact(h b hm).1
  ·rw[h]at hm;cases hm
 ·intro b hb ho
  rw[hh b (Nat.lt_of_lt_of_le hb g.base.1) fun hw=>by
   rcases (hWr b hw).1 with h|h
   ·exact ho h
   ·omega]
  exact g.base.2 b hb ho
 ·intro b hb
  rw[hZ]at hb
  exact⟨Nat.lt_of_lt_of_le (g.zb b hb).1 hlen,(g.zb b hb).2⟩
theorem GH.gen {R:Run} {c c':Cf} (g:GH R c) (hp:c'.p=c.p) (hZ:c'.Z=c.Z) (hrt:c'.rt=c.rt) (hrd:∀(j:Nat) i B,c.H[j]? = some (.rt i B)→c'.H[j]? = some (.rt i B)) (hlen:c.h.length≤c'.h.length) (W:Nat→Prop)
 (hW:∀b,W b→∃B x,c.H[B]? = some x∧x.wr=true∧b∈c.ft B)
 (hh:∀b,b<c.h.length→¬W b→c'.h[b]? = c.h[b]?)
 (hle:∀B x,c.H[B]? = some x→c'.m B=c.m B∧∃y,c'.H[B]? = some y∧(y = .gone∨blkLe (c.m B) x y))
 (hH:Le c c'→∀B x,c'.H[B]? = some x→x = .gone∨(c.H[B]? = some x∧c'.m B=c.m B∧c'.f B=c.f B∧∀b,b∈c.ft B→¬W b)∨
   (x.wr=true∧BR c' x (c'.m B) (c'.f B)∧(c'.ft B).Nodup∧∀b,b∈c'.ft B→b<c'.h.length∧(W b∨c.h.length≤b)∧∀B' x',c'.H[B']? = some x'→x'.wr=true→b∈c'.ft B'→B'=B)):
 GH R c'∧Le c c':=
 g.gen' hp hZ (fun i b h=>by rw[hrt];exact h) (fun i b h=>by rw[hrt]at h;obtain⟨j,B,h⟩:=g.rtd i b h;exact⟨j,B,hrd j i B h⟩) hlen W hW hh hle (fun le B x hB=>by
  rcases hH le B x hB with h|h|⟨h1,h2⟩
  ·exact .inl h
  ·exact .inr (.inl h)
  ·exact .inr (.inr (.inl ⟨h1,h2⟩)))
def upd (m:Nat→Option Nat) (B:Nat) (v:Option Nat):Nat→Option Nat:=fun i=>if i=B then v else m i
theorem getE_app_lt {α:Type} {l:List α} {a b:α} {i:Nat} (h:l[i]? = some a):(l++[b])[i]? = some a:=by
 obtain⟨h1,h2⟩:=List.getElem?_eq_some_iff.1 h
 rw[List.getElem?_append_left h1];exact h
theorem getE_app {α:Type} {l:List α} {a b:α} {i:Nat} (h:(l++[b])[i]? = some a):l[i]? = some a∨(i=l.length∧a=b):=by
 rw[List.getElem?_append]at h
 split at h
 ·exact .inl h
 ·right
  have h1:i-l.length=0:=by
   by_cases hi:i-l.length=0
   ·exact hi
   ·obtain⟨n,hn⟩:=Nat.exists_eq_succ_of_ne_zero hi
    rw[hn]at h;simp at h
  rw[h1]at h;simp at h
  exact⟨by omega,h.symm⟩
theorem getE_set {α:Type} {l:List α} {a x:α} {i j:Nat} (h:(l.set i x)[j]? = some a):(j=i∧a=x)∨(j≠i∧l[j]? = some a):=by
 rw[List.getElem?_set]at h
 split at h
 ·rename_i e;subst e
  split at h
  ·simp at h;exact .inl ⟨rfl,h.symm⟩
  ·cases h
 ·rename_i e;exact .inr ⟨fun e'=>e e'.symm,h⟩
theorem getE_set_ne {α:Type} {l:List α} {x:α} {i j:Nat} (h:j≠i):(l.set i x)[j]? = l[j]?:=by
 rw[List.getElem?_set,if_neg (fun e=>h e.symm)]
theorem getE_set_eq {α:Type} {l:List α} {x a:α} {i:Nat} (h:l[i]? = some a):(l.set i x)[i]? = some x:=by
 rw[List.getElem?_set,if_pos rfl,if_pos (List.getElem?_eq_some_iff.1 h).1]
theorem getE_lt {α:Type} {l:List α} {a:α} {i:Nat} (h:l[i]? = some a):i<l.length:=(List.getElem?_eq_some_iff.1 h).1
def updf (m:Nat→List Nat) (B:Nat) (v:List Nat):Nat→List Nat:=fun i=>if i=B then v else m i
theorem le_same {c c':Cf} {B:Nat} {x:ABlk} (h:c'.H[B]? = some x) (hm:c'.m B=c.m B):c'.m B=c.m B∧∃y,c'.H[B]? = some y∧(y = .gone∨blkLe (c.m B) x y):=
 ⟨hm,x,h,blkLe.rfl' _ x⟩
theorem GH.frz1 {R:Run} {c:Cf} (g:GH R c) {B:Nat} {x:ABlk} (hB:c.H[B]? = some x) (hx:x.wr=true):
 GH R { c with H:=c.H.set B .gone,Z:=fun b=>c.Z b∨b∈c.ft B }∧Le c { c with H:=c.H.set B .gone,Z:=fun b=>c.Z b∨b∈c.ft B }:=by
 have le:Le c { c with H:=c.H.set B .gone,Z:=fun b=>c.Z b∨b∈c.ft B }:=by
  refine⟨rfl,fun B' y hB'=>⟨rfl,?_⟩,⟨fun b h=>.inl h,fun b _=>rfl⟩,fun _ _ h=>h⟩
  by_cases e:B'=B
  ·subst e
   exact⟨.gone,getE_set_eq hB,.inl rfl⟩
  ·exact⟨y,(getE_set_ne e).trans hB',blkLe.rfl' _ y⟩
 refine⟨⟨g.p,?_,?_,?_,?_,?_,?_,g.base,?_,fun b h=>.inl (g.z0 b h),?_⟩,le⟩
 ·intro B' y hy
  rcases getE_set hy with ⟨_,rfl⟩|⟨_,h⟩
  ·trivial
  ·exact(g.blk B' y h).le le fun _ _=>rfl
 ·intro B1 B2 y y' b h1 h2 hw1 hw2 hb1 hb2
  rcases getE_set h1 with ⟨_,rfl⟩|⟨_,h1⟩
  ·cases hw1
  rcases getE_set h2 with ⟨_,rfl⟩|⟨_,h2⟩
  ·cases hw2
  exact g.inj B1 B2 y y' b h1 h2 hw1 hw2 hb1 hb2
 ·intro B1 y h1 hw
  rcases getE_set h1 with ⟨_,rfl⟩|⟨_,h1⟩
  ·cases hw
  exact g.nd B1 y h1 hw
 ·intro B1 y b h1 hw hb
  rcases getE_set h1 with ⟨_,rfl⟩|⟨hne,h1⟩
  ·cases hw
  refine⟨(g.wr B1 y b h1 hw hb).1,?_⟩
  rintro (h|h)
  ·exact(g.wr B1 y b h1 hw hb).2 h
  ·exact hne (g.inj B1 B y x b h1 hB hw hx hb h)
 ·intro B1 y b h1 hw hg hb
  rcases getE_set h1 with ⟨_,rfl⟩|⟨_,h1⟩
  ·exact(hg rfl).elim
  exact g.ro B1 y b h1 hw hg hb
 ·intro B1 y b h1 hg hb
  rcases getE_set h1 with ⟨_,rfl⟩|⟨_,h1⟩
  ·exact(hg rfl).elim
  exact g.lt B1 y b h1 hg hb
 ·rintro b (h|h)
  ·exact g.zb b h
  ·exact⟨g.lt B x b hB (by intro e;subst e;cases hx) h,.inr (g.wr B x b hB hx h).1⟩
 ·intro i b h
  obtain⟨j,B',hj⟩:=g.rtd i b h
  refine⟨j,B',?_⟩
  rw[getE_set_ne (fun e=>by subst e;rw[hB]at hj;injection hj with hj;subst hj;cases hx)];exact hj
theorem GH.frzL {R:Run}:∀{bs:List Nat} {c:Cf} {H':AHp},GH R c→aFrzL bs c.H=some H'→
 ∃Z',GH R { c with H:=H',Z:=Z' }∧Le c { c with H:=H',Z:=Z' }∧(∀b,c.Z b→Z' b)∧(∀B∈bs,∀b∈c.ft B,Z' b)∧(∀B,B∉bs→H'[B]? = c.H[B]?)∧H'.length=c.H.length
 |[],c,H',g,e=>by
  simp only[aFrzL,Option.some.injEq]at e;subst e
  exact⟨c.Z,g,Le.refl c,fun _ h=>h,by simp,fun _ _=>rfl,rfl⟩
 |B::bs,c,H',g,e=>by
  simp only[aFrzL]at e
  split at e
  ·rename_i hB
   obtain⟨g1,le1⟩:=g.frz1 hB rfl
   obtain⟨Z',g2,le2,h1,h2,h3,h4⟩:=GH.frzL (bs:=bs) (c:={ c with H:=c.H.set B .gone,Z:=fun b=>c.Z b∨b∈c.ft B }) g1 e
   refine⟨Z',g2,le1.trans le2,fun b h=>h1 b (.inl h),fun B' hB' b hb=>?_,fun B' hB'=>?_,by simpa using h4⟩
   ·rcases List.mem_cons.1 hB' with rfl|hB'
    ·exact h1 b (.inr hb)
    ·exact h2 B' hB' b hb
   ·simp only[List.mem_cons,not_or]at hB'
    rw[h3 B' hB'.2];exact getE_set_ne hB'.1
  ·cases e
theorem Le.ofZ {c:Cf} {Z:Nat→Prop} (hZ:∀b,c.Z b→Z b) (hb:BRs c):Le c { c with Z:=Z }∧BRs { c with Z:=Z }:=by
 have le:Le c { c with Z:=Z }:=⟨rfl,fun B x h=>⟨rfl,x,h,blkLe.rfl' _ x⟩,⟨hZ,fun _ _=>rfl⟩,fun _ _ h=>h⟩
 exact⟨le,fun B x hx=>(hb B x hx).le le fun _ _=>rfl⟩
theorem GH.push {R:Run} {c:Cf} (g:GH R c) (x:ABlk) (k:Blk) (hx:x.wr=true)
 (hk:∀c':Cf,c' = { c with H:=c.H++[x],m:=upd c.m c.H.length (some c.h.length),h:=c.h++[some k],f:=updf c.f c.H.length [] }→Le c c'→BR c' x (some c.h.length) []):
 ∃c',c' = { c with H:=c.H++[x],m:=upd c.m c.H.length (some c.h.length),h:=c.h++[some k],f:=updf c.f c.H.length [] }∧GH R c'∧Le c c':=by
 refine⟨_,rfl,g.gen rfl rfl rfl (fun j i B h=>getE_app_lt h) (by simp) (fun _=>False) (fun _ h=>h.elim) (fun b hb _=>List.getElem?_append_left hb) (fun B x hB=>?_) (fun le B y hB=>?_)⟩
 ·have:=getE_lt hB
  exact le_same (getE_app_lt hB) (by simp[upd];omega)
 ·rcases getE_app hB with h|⟨rfl,rfl⟩
  ·have:=getE_lt h
   exact .inr (.inl ⟨h,by simp[upd];omega,by simp[updf];omega,fun _ _ h=>h⟩)
  ·refine .inr (.inr ⟨hx,by simpa [upd,updf]using hk _ rfl le,by simp[Cf.ft,upd,updf],fun b hb=>?_⟩)
   simp only[Cf.ft,upd,updf,if_true,Option.toList_some,List.append_nil,List.mem_singleton]at hb;subst hb
   refine⟨by simp,.inr (Nat.le_refl _),fun B' x' hB' hx' hm'=>?_⟩
   rcases getE_app hB' with h|⟨h,_⟩
   ·have hl:=getE_lt h
    have:c.h.length∈c.ft B':=by
     simp only[Cf.ft,upd,updf]at hm' ⊢
     rw[if_neg (by omega),if_neg (by omega)]at hm';exact hm'
    have:=g.lt B' x' _ h (by intro e;subst e;cases hx') this
    omega
   ·exact h
theorem GH.pushNil {R:Run} {c:Cf} (g:GH R c) (hp ln:Bool) (t:Ty):
 ∃c',c' = { c with H:=c.H++[.arr true hp ln t []],m:=upd c.m c.H.length none,f:=updf c.f c.H.length [] }∧GH R c'∧Le c c':=by
 refine⟨_,rfl,g.gen rfl rfl rfl (fun j i B h=>getE_app_lt h) (Nat.le_refl _) (fun _=>False) (fun _ h=>h.elim) (fun b hb _=>rfl) (fun B x hB=>?_) (fun le B y hB=>?_)⟩
 ·have:=getE_lt hB
  exact le_same (getE_app_lt hB) (by simp[upd];omega)
 ·rcases getE_app hB with h|⟨rfl,rfl⟩
  ·have:=getE_lt h
   exact .inr (.inl ⟨h,by simp[upd];omega,by simp[updf];omega,fun _ _ h=>h⟩)
  ·exact .inr (.inr ⟨rfl,by simp[upd,updf,BR],by simp[Cf.ft,upd,updf],fun b hb=>by simp[Cf.ft,upd,updf]at hb⟩)
theorem GH.set {R:Run} {c:Cf} (g:GH R c) {B b:Nat} {x x':ABlk} (hB:c.H[B]? = some x) (hx:x.wr=true) (hx':x'.wr=true) (hle:blkLe (c.m B) x x') (hm:c.m B=some b) (hf:c.f B=[]) (k:Blk)
 (hk:∀c':Cf,c' = { c with H:=c.H.set B x',h:=c.h.set b (some k) }→Le c c'→BR c' x' (some b) []):
 ∃c',c' = { c with H:=c.H.set B x',h:=c.h.set b (some k) }∧GH R c'∧Le c c':=by
 have hft:c.ft B=[b]:=by simp[Cf.ft,hm,hf]
 refine⟨_,rfl,g.gen rfl rfl rfl (fun j i B' h=>by simp only;rw[getE_set_ne (fun e=>by rw[e,hB]at h;injection h with h;subst h;cases hx)];exact h) (by simp) (fun i=>i=b) (fun i hi=>⟨B,x,hB,hx,by rw[hi];exact Cf.ft_m hm⟩) (fun i hi hne=>getE_set_ne hne) (fun B' y hB'=>?_) (fun le B' y hB'=>?_)⟩
 ·by_cases e:B'=B
  ·subst e
   rw[hB]at hB';injection hB' with hB';subst hB'
   exact⟨rfl,x',getE_set_eq hB,.inr hle⟩
  ·exact le_same (by simp only;rw[getE_set_ne e];exact hB') rfl
 ·rcases getE_set hB' with ⟨rfl,rfl⟩|⟨e,h⟩
  ·refine .inr (.inr ⟨hx',by simp only[hm,hf];exact hk _ rfl le,by show (c.ft B').Nodup;simp[hft],fun b' hb'=>?_⟩)
   have hb':b'∈c.ft B':=hb'
   rw[hft]at hb'
   simp at hb';subst hb'
   refine⟨by simp only[List.length_set];exact g.lt B' x _ hB (by intro e;subst e;cases hx) (Cf.ft_m hm),.inl rfl,fun B'' x'' hB'' hx'' hm''=>?_⟩
   rcases getE_set hB'' with ⟨e,_⟩|⟨e,h⟩
   ·exact e
   ·exact g.inj B'' B' x'' x _ h hB hx'' hx hm'' (Cf.ft_m hm)
  ·by_cases hg:y.wr=true
   ·refine .inr (.inl ⟨h,rfl,rfl,fun i hi hib=>?_⟩)
    subst hib
    exact e (g.inj B' B y x i h hB hg hx hi (Cf.ft_m hm))
   ·by_cases hgo:y = .gone
    ·exact .inl hgo
    ·refine .inr (.inl ⟨h,rfl,rfl,fun i hi hib=>?_⟩)
     subst hib
     have h1:=g.ro B' y i h (by simpa using hg) hgo hi
     have h2:=(g.wr B x i hB hx (Cf.ft_m hm)).1
     rcases h2 with h2|h2
     ·exact h1.2 h2
     ·omega
theorem getE_len {α:Type} {l:List α} {a:α}:(l++[a])[l.length]? = some a:=by simp
theorem GH.ren {R:Run} {c:Cf} (g:GH R c) {B:Nat} {x x':ABlk} (hB:c.H[B]? = some x) (hx:x.wr=true) (hx':x'.wr=true) (mb:Option Nat) (h':Heap)
 (hlen:c.h.length≤h'.length) (hh:∀i,i<c.h.length→c.m B≠some i→h'[i]? = c.h[i]?) (hmb:∀b,mb=some b→c.m B=some b∨c.h.length≤b) (hml:∀b,mb=some b→b<h'.length)
 (hk:∀c':Cf,c' = { c with H:=c.H.set B .gone++[x'],m:=upd c.m c.H.length mb,h:=h',f:=updf c.f c.H.length [] }→Le c c'→BR c' x' mb []):
 ∃c',c' = { c with H:=c.H.set B .gone++[x'],m:=upd c.m c.H.length mb,h:=h',f:=updf c.f c.H.length [] }∧GH R c'∧Le c c':=by
 have hBl:=getE_lt hB
 refine⟨_,rfl,g.gen rfl rfl rfl (fun j i B' h=>getE_app_lt (by rw[getE_set_ne (fun e=>by rw[e,hB]at h;injection h with h;subst h;cases hx)];exact h)) hlen (fun i=>c.m B=some i) (fun i hi=>⟨B,x,hB,hx,Cf.ft_m hi⟩) hh (fun B' y hB'=>?_) (fun le B' y hB'=>?_)⟩
 ·have hl:=getE_lt hB'
  by_cases e:B'=B
  ·subst e
   exact⟨by simp[upd];omega,.gone,getE_app_lt (getE_set_eq hB),.inl rfl⟩
  ·exact le_same (getE_app_lt (by rw[getE_set_ne e];exact hB')) (by simp[upd];omega)
 ·rcases getE_app hB' with h|⟨h,rfl⟩
  ·rcases getE_set h with ⟨rfl,rfl⟩|⟨e,h⟩
   ·exact .inl rfl
   ·have hl:=getE_lt h
    by_cases hgo:y = .gone
    ·exact .inl hgo
    ·refine .inr (.inl ⟨h,by simp[upd];omega,by simp[updf];omega,fun i hi hib=>?_⟩)
     by_cases hg:y.wr=true
     ·exact e (g.inj B' B y x i h hB hg hx hi (Cf.ft_m hib))
     ·have h1:=g.ro B' y i h (by simpa using hg) hgo hi
      rcases (g.wr B x i hB hx (Cf.ft_m hib)).1 with h2|h2
      ·exact h1.2 h2
      ·omega
  ·rw[List.length_set]at h
   subst h
   refine .inr (.inr ⟨hx',by simpa [upd,updf]using hk _ rfl le,by simp only[Cf.ft,upd,updf,if_true,List.append_nil];cases mb<;>simp,fun b hb=>?_⟩)
   have hb:mb=some b:=by
    simp only[Cf.ft,upd,updf,if_true,List.append_nil]at hb
    simpa [Option.mem_toList,Option.mem_def]using hb
   refine⟨hml b hb,hmb b hb,fun B'' x'' hB'' hx'' hm''=>?_⟩
   rcases getE_app hB'' with h|⟨h,_⟩
   ·rcases getE_set h with ⟨rfl,rfl⟩|⟨e,h⟩
    ·cases hx''
    ·have hl:=getE_lt h
     have hm'':b∈c.ft B'':=by
      simp only[Cf.ft,upd,updf]at hm'' ⊢
      rw[if_neg (by omega),if_neg (by omega)]at hm'';exact hm''
     rcases hmb b hb with h1|h1
     ·exact(e (g.inj B'' B x'' x b h hB hx'' hx hm'' (Cf.ft_m h1))).elim
     ·have:=g.lt B'' x'' b h (by intro e;subst e;cases hx'') hm''
      omega
   ·rw[List.length_set]at h;exact h
end Go.Ideal
set_option linter.unusedVariables false
set_option linter.unusedSimpArgs false
set_option linter.unusedSectionVars false
namespace Go.Ideal
def SVa (c:Cf):ASV→SV→Prop
 |.val a,.val iv=>Va c a iv
 |.box cs,.box ivs=>Cas c cs ivs
 |.lptr n o,.lptr n' o'=>n'=n∧o'=o.val
 |_,_=>False
def FR (TI:List SV) (c:Cf):Option ASV→Option SV→Prop
 |none,v=>∀cs,v≠some (.box cs)
 |some (.cst i),v=>∃s,v=some s∧TI[i]? = some s
 |some a,v=>∃s,v=some s∧SVa c a s
structure GF (T:List ASV) (TI:List SV) (c:Cf) (fr:AFr) (σ:Fr):Prop where
 fr:∀t,FR TI c (fr.get t) (σ.get t)
 len:TI.length=T.length
 T:∀(i:Nat) (a:ASV),T[i]? = some a→∃s,TI[i]? = some s∧SVa c a s
 tl:∀s∈TI,∀n o,s≠SV.lptr n o
structure G (R:Run) (T:List ASV) (TI:List SV) (c:Cf) (st:ASt) (s:St):Prop where
 gh:GH R c
 H:c.H=st.H
 h:c.h=s.2
 gf:GF T TI c st.fr s.1
theorem SVa.le {c c':Cf} (hle:Le c c') {a:ASV} {s:SV} (h:SVa c a s):SVa c' a s:=by
 cases a<;>cases s<;>simp only[SVa]at h ⊢<;>try exact h
 ·exact Va.le hle h
 ·exact Cas.le hle h
theorem GF.le {T TI} {c c':Cf} (hle:Le c c') {fr:AFr} {σ:Fr} (g:GF T TI c fr σ):GF T TI c' fr σ:=by
 refine⟨fun t=>?_,g.len,fun i a h=>?_,g.tl⟩
 ·have:=g.fr t
  cases h:fr.get t with
  |none=>rw[h]at this;exact this
  |some a=>
   rw[h]at this
   cases a<;>simp only[FR]at this ⊢<;>first|exact this|(obtain⟨s,h1,h2⟩:=this;exact⟨s,h1,h2.le hle⟩)
 ·obtain⟨s,h1,h2⟩:=g.T i a h
  exact⟨s,h1,h2.le hle⟩
theorem aget_ok {T TI} {c:Cf} {fr:AFr} {σ:Fr} (g:GF T TI c fr σ) {n:Nat} {a:ASV} (h:aget T fr n=some a):∃s,σ.get n=some s∧SVa c a s:=by
 unfold aget at h
 have:=g.fr n
 split at h
 ·rename_i i hi
  rw[hi]at this
  obtain⟨s,h1,h2⟩:=this
  obtain⟨s',h3,h4⟩:=g.T i a h
  rw[h2]at h3;injection h3 with h3;subst h3
  exact⟨s,h1,h4⟩
 ·rename_i hno
  rw[h]at this
  cases a with
  |cst i=>exact(hno i h).elim
  |val _=>exact this
  |box _=>exact this
  |lptr _ _=>exact this
mutual
theorem ofIV_ok {c:Cf}:∀{v:IV} {a:AV},ofIV v=some a→Va c a v
 |.bool b,a,e=>by simp[ofIV]at e;subst e;simp[Va]
 |.int k n,a,e=>by simp[ofIV]at e;subst e;simp[Va]
 |.str s,a,e=>by simp[ofIV]at e;subst e;simp[Va]
 |.nils,a,e=>by simp[ofIV]at e;subst e;simp[Va]
 |.nilp,a,e=>by simp[ofIV]at e;subst e;simp[Va]
 |.nilf,a,e=>by simp[ofIV]at e;subst e;simp[Va]
 |.agg cs,a,e=>by
  simp only[ofIV]at e
  obtain⟨l,e1,e⟩:=bind_some'.1 e
  split at e
  ·rename_i h1
   simp at e;subst e
   simp only[Va]
   exact⟨cs,rfl,(ofIVs_ok e1).1 h1⟩
  ·cases e
 |.tup cs,a,e=>by
  simp only[ofIV]at e
  obtain⟨l,e1,e⟩:=bind_some'.1 e
  simp at e;subst e
  simp only[Va]
  exact⟨cs,rfl,(ofIVs_ok e1).2⟩
 |.ptr ..,a,e=>by simp[ofIV]at e
 |.rptr ..,a,e=>by simp[ofIV]at e
 |.sl ..,a,e=>by simp[ofIV]at e
 |.ro ..,a,e=>by simp[ofIV]at e
 |.esl,a,e=>by simp[ofIV]at e
 |.iface ..,a,e=>by simp[ofIV]at e
 |.nili,a,e=>by simp[ofIV]at e
 |.fn ..,a,e=>by simp[ofIV]at e
theorem ofIVs_ok {c:Cf}:∀{v:List IV} {a:List AV},ofIVs v=some a→(a.all AV.one=true→Cas c a v)∧Vas c a v
 |[],a,e=>by simp[ofIVs]at e;subst e;simp[Cas,Vas]
 |x::xs,a,e=>by
  simp only[ofIVs]at e
  obtain⟨y,e1,e⟩:=bind_some'.1 e
  obtain⟨ys,e2,e⟩:=bind_some'.1 e
  simp at e;subst e
  have h1:=ofIV_ok (c:=c) e1
  have h2:=ofIVs_ok (c:=c) e2
  refine⟨fun h=>?_,⟨x,xs,rfl,h1,h2.2⟩⟩
  simp only[List.all_cons,Bool.and_eq_true]at h
  exact⟨[x],xs,rfl,(cell_val h.1).2 ⟨x,rfl,one_iv h.1 h1,h1⟩,h2.1 h.2⟩
end
section
variable {T:List ASV} {TI:List SV} {c:Cf} {fr:AFr} {σ:Fr} (g:GF T TI c fr σ)
include g
theorem ax_ok {x:SX} {a:ASV} (h:ax T fr x=some a):∃s,SX.ev σ x=some s∧SVa c a s:=by
 cases x with
 |t n=>
  simp only[ax]at h
  split at h
  ·rename_i cs hc
   simp at h;subst h
   obtain⟨s,h1,h2⟩:=aget_ok g hc
   cases s<;>simp only[SVa]at h2
   exact⟨.lptr n 0,by simp only[SX.ev,h1],by simp[SVa,Off.val]⟩
  ·rename_i hno
   obtain⟨s,h1,h2⟩:=aget_ok g h
   refine⟨s,?_,h2⟩
   simp only[SX.ev,h1]
   cases s with
   |box ivs=>
    cases a<;>simp only[SVa]at h2
    exact(hno _ h).elim
   |val _=>rfl
   |lptr _ _=>rfl
 |c v=>
  simp only[ax]at h
  obtain⟨a',e,h⟩:=bind_some'.1 h
  simp at h;subst h
  exact⟨.val v,rfl,ofIV_ok e⟩
 |f id=>
  simp only[ax,Option.some.injEq]at h;subst h
  exact⟨_,rfl,by simp[SVa,Va,Vas]⟩
theorem av_ok {x:SX} {a:AV} (h:av T fr x=some a):∃iv,SX.val σ x=some iv∧Va c a iv:=by
 unfold av at h
 split at h
 ·rename_i v hv
  simp at h;subst h
  obtain⟨s,h1,h2⟩:=ax_ok g hv
  cases s<;>simp only[SVa]at h2
  exact⟨_,by simp only[SX.val,h1],h2⟩
 ·cases h
theorem avs_ok:∀{xs:List SX} {as:List AV},avs T fr xs=some as→∃ivs,evArgs σ xs=some ivs∧Vas c as ivs
 |[],as,h=>by simp[avs,mapO]at h;subst h;exact⟨[],rfl,rfl⟩
 |x::xs,as,h=>by
  simp only[avs,mapO]at h
  obtain⟨y,e1,h⟩:=bind_some'.1 h
  obtain⟨ys,e2,h⟩:=bind_some'.1 h
  simp at h;subst h
  obtain⟨iv,h1,h2⟩:=av_ok g e1
  obtain⟨ivs,h3,h4⟩:=avs_ok (xs:=xs) (as:=ys) e2
  refine⟨iv::ivs,?_,⟨iv,ivs,rfl,h2,h4⟩⟩
  simp only[evArgs]at h3 ⊢
  simp[mapO,h1,h3]
theorem afree_ok {t:Nat} (h:afree T fr t=true):lptrFree σ t=true:=by
 unfold afree at h
 unfold lptrFree
 have:=g.fr t
 cases hg:fr.get t with
 |none=>
  rw[hg]at this
  split
  ·rename_i ivs e;exact(this ivs e).elim
  ·rfl
 |some a=>
  rw[hg]at this
  split
  ·rename_i ivs e
   rw[e]at this
   cases a with
   |val a=>obtain⟨s,h1,h2⟩:=this;simp at h1;subst h1;simp[SVa]at h2
   |box cs=>simp[hg]at h
   |lptr _ _=>obtain⟨s,h1,h2⟩:=this;simp at h1;subst h1;simp[SVa]at h2
   |cst i=>
    obtain⟨s,h1,h2⟩:=this
    simp at h1;subst h1
    simp only[hg]at h
    split at h
    ·rename_i a hT
     obtain⟨s',h3,h4⟩:=g.T i _ hT
     rw[h2]at h3;injection h3 with h3;subst h3
     simp[SVa]at h4
    ·cases h
  ·rfl
theorem gput_ok {t:Nat} {a:ASV} {s:SV} (h:SVa c a s):GF T TI c (fr.put t a) (σ.put t s):=by
 refine⟨fun t'=>?_,g.len,g.T,g.tl⟩
 simp only[AFr.put,Fr.put,AFr.get,Fr.get]
 split
 ·cases a<;>cases s<;>simp only[SVa]at h<;>exact⟨_,rfl,h⟩
 ·exact g.fr t'
end
end Go.Ideal
set_option linter.unusedVariables false
set_option linter.unusedSimpArgs false
set_option linter.unusedSectionVars false
namespace Go.Ideal
theorem drop_take_in {α:Type} (l:List α) {M a n:Nat} (h:a+n≤M):((l.take M).drop a).take n=(l.drop a).take n:=by
 rw[List.drop_take,List.take_take,Nat.min_eq_left (by omega)]
theorem flat_get {α:Type} {sz:Nat}:∀{es:List (List α)},(∀e∈es,e.length=sz)→∀{i:Nat} {u:List α},es[i]? = some u→(es.flatten.drop (i*sz)).take sz=u
 |[],_,i,u,h=>by simp at h
 |e::es,hs,0,u,h=>by
  simp at h;subst h
  have:=hs e (by simp)
  subst this
  simp
 |e::es,hs,i+1,u,h=>by
  have h1:=hs e (by simp)
  have h2:=flat_get (es:=es) (fun e he=>hs e (by simp[he])) (i:=i) (u:=u) (by simpa using h)
  simp only[List.flatten_cons]
  rw[show (i+1)*sz=e.length+i*sz by rw[h1,Nat.add_mul,Nat.one_mul,Nat.add_comm],←List.drop_drop,List.drop_left]
  exact h2
theorem flat_len {α:Type} {sz:Nat}:∀{es:List (List α)},(∀e∈es,e.length=sz)→es.flatten.length=es.length*sz
 |[],_=>by simp
 |e::es,hs=>by
  have h1:=hs e (by simp)
  have h2:=flat_len (fun e he=>hs e (by simp[he])) (es:=es)
  simp only[List.flatten_cons,List.length_append,List.length_cons,h1,h2,Nat.add_mul,Nat.one_mul,Nat.add_comm]
theorem splice_mid {α:Type} (a mid b vs:List α) (k:Nat) (h:k+vs.length≤mid.length):
 (a++mid++b).take (a.length+k)++vs++(a++mid++b).drop (a.length+k+vs.length)=a++(mid.take k++vs++mid.drop (k+vs.length))++b:=by
 have e1:(a++mid++b).take (a.length+k)=a++mid.take k:=by
  rw[List.append_assoc,List.take_append,List.take_of_length_le (by omega),show a.length+k-a.length=k by omega,List.take_append_of_le_length (by omega)]
 have e2:(a++mid++b).drop (a.length+k+vs.length)=mid.drop (k+vs.length)++b:=by
  rw[List.append_assoc,Nat.add_assoc,←List.drop_drop,List.drop_left,List.drop_append_of_le_length (by omega)]
 rw[e1,e2];simp
theorem flat_set {α:Type} {sz:Nat} {vs:List α} {o2:Nat}:∀{es:List (List α)},(∀e∈es,e.length=sz)→∀{i:Nat} {u:List α},es[i]? = some u→o2+vs.length≤sz→
 (es.set i (u.take o2++vs++u.drop (o2+vs.length))).flatten=es.flatten.take (i*sz+o2)++vs++es.flatten.drop (i*sz+o2+vs.length)
 |[],_,i,u,h,_=>by simp at h
 |e::es,hs,0,u,h,ho=>by
  simp at h;subst h
  have:=hs e (by simp)
  subst this
  have:=splice_mid [] e es.flatten vs o2 ho
  simpa using this.symm
 |e::es,hs,i+1,u,h,ho=>by
  have h1:=hs e (by simp)
  have h2:=flat_set (es:=es) (vs:=vs) (o2:=o2) (fun e he=>hs e (by simp[he])) (i:=i) (u:=u) (by simpa using h) ho
  have hb:i*sz+o2+vs.length≤es.flatten.length:=by
   have:=getE_lt (show es[i]? = some u by simpa using h)
   rw[flat_len (fun e he=>hs e (by simp[he])) (es:=es)]
   calc i*sz+o2+vs.length≤i*sz+sz:=by omega
    _=(i+1)*sz:=by rw[Nat.add_mul,Nat.one_mul]
    _≤es.length*sz:=Nat.mul_le_mul_right _ (by omega)
  have:=splice_mid e es.flatten [] vs (i*sz+o2) hb
  simp only[List.append_nil]at this
  simp only[List.set_cons_succ,List.flatten_cons,h2]
  rw[show (i+1)*sz+o2=e.length+(i*sz+o2) by rw[h1,Nat.add_mul,Nat.one_mul];omega,this]
theorem refsL_cellsT {hp ln:Bool}:∀{t:Ty} {x:t.den},AV.refsL (cellsT hp ln t x)=[]
 |.int k,x=>by simp[cellsT,AV.refsL,AV.refs]
 |.bool,x=>by simp[cellsT,AV.refsL,AV.refs]
 |.str,x=>by simp[cellsT,AV.refsL,AV.refs]
 |.unit,x=>by simp[cellsT,AV.refsL]
 |.lst t,x=>by simp[cellsT,AV.refsL,AV.refs]
 |.pair a b,x=>by simp only[cellsT,refsL_app];rw[refsL_cellsT,refsL_cellsT];rfl
 |.arr n t,x=>by simp[cellsT,AV.refsL,AV.refs]
 |.ow _ t,x=>by simp[cellsT,AV.refsL,AV.refs]
theorem hpL_app {H:AHp} (a b:List AV):hpL H (a++b)=(hpL H a||hpL H b):=by simp[hpL]
theorem lnL_app {H:AHp} (a b:List AV):lnL H (a++b)=(lnL H a||lnL H b):=by simp[lnL]
theorem hpL_cellsT {H:AHp} {hp ln:Bool}:∀{t:Ty} {x:t.den},hpL H (cellsT hp ln t x)=true→hp=true
 |.int k,x,h=>by simp[cellsT,hpL,AV.hpF]at h
 |.bool,x,h=>by simp[cellsT,hpL,AV.hpF]at h
 |.str,x,h=>by simp[cellsT,hpL,AV.hpF]at h
 |.unit,x,h=>by simp[cellsT,hpL]at h
 |.lst t,x,h=>by simpa [cellsT,hpL,AV.hpF]using h
 |.pair a b,x,h=>by
  simp only[cellsT,hpL_app,Bool.or_eq_true]at h
  rcases h with h|h<;>exact hpL_cellsT h
 |.arr n t,x,h=>by simpa [cellsT,hpL,AV.hpF]using h
 |.ow _ t,x,h=>by simp[cellsT,hpL]at h
theorem lnL_cellsT {H:AHp} {hp ln:Bool}:∀{t:Ty} {x:t.den},lnL H (cellsT hp ln t x)=true→ln=true
 |.int k,x,h=>by simp[cellsT,lnL,AV.lnF]at h
 |.bool,x,h=>by simp[cellsT,lnL,AV.lnF]at h
 |.str,x,h=>by simp[cellsT,lnL,AV.lnF]at h
 |.unit,x,h=>by simp[cellsT,lnL]at h
 |.lst t,x,h=>by simpa [cellsT,lnL,AV.lnF]using h
 |.pair a b,x,h=>by
  simp only[cellsT,lnL_app,Bool.or_eq_true]at h
  rcases h with h|h<;>exact lnL_cellsT h
 |.arr n t,x,h=>by simpa [cellsT,lnL,AV.lnF]using h
 |.ow _ t,x,h=>by simp[cellsT,lnL]at h
section
variable {R:Type}
theorem cut_some {b:Bool} {k:Option R} {r:R}:cut b k=some r↔b=true∧k=some r:=by
 unfold cut;cases b<;>simp
theorem getS_ok {c:Cf} {cs:List AV} {ivs:List IV} (h:Cas c cs ivs) {o n:Nat} {k:List AV→Option R} {r:R} (e:getS cs o n k=some r):
 ∃out,k out=some r∧Cas c out ((ivs.drop o).take n)∧o+n≤ivs.length:=by
 unfold getS at e
 obtain⟨x,e1,e⟩:=bind_some'.1 e
 obtain⟨y,e2,e⟩:=bind_some'.1 e
 obtain⟨h1,h2,h3⟩:=h.split e1
 obtain⟨h4,h5,h6⟩:=h2.split e2
 refine⟨y.1,e,h4,?_⟩
 simp only[List.length_drop]at h6
 omega
theorem parts_or {new:List AV} (f:List AV→Bool) (hf:∀a b,f (a++b)=(f a||f b)) (a b c d:List AV) (hc:f c=true→f b=true∨f new=true) (h:f (a++c++d)=true):f (a++b++d)=true∨f new=true:=by
 simp only[hf,Bool.or_eq_true]at h ⊢
 rcases h with (h|h)|h
 ·exact .inl (.inl (.inl h))
 ·rcases hc h with h|h
  ·exact .inl (.inl (.inr h))
  ·exact .inr h
 ·exact .inl (.inr h)
theorem setS_ok {c:Cf} {cs:List AV} {ivs:List IV} (h:Cas c cs ivs) {new:List AV} {vs:List IV} (hv:Cas c new vs) {o:Nat} {k:List AV→Option R} {r:R} (e:setS cs o new k=some r):
 ∃out,k out=some r∧Cas c out (splice ivs o vs)∧o+vs.length≤ivs.length∧(hpL c.H out=true→hpL c.H cs=true∨hpL c.H new=true)∧(lnL c.H out=true→lnL c.H cs=true∨lnL c.H new=true)∧
  (AV.refsL cs=[]→AV.refsL new=[]→AV.refsL out=[]):=by
 have hw:=(Cas.len hv).1
 unfold setS at e
 obtain⟨x,e1,e⟩:=bind_some'.1 e
 obtain⟨y,e2,e⟩:=bind_some'.1 e
 obtain⟨h1,h2,h3⟩:=h.split e1
 obtain⟨h4,h5,h6⟩:=h2.split e2
 simp only[List.length_drop]at h6
 have hcs:cs=x.1++y.1++y.2:=by rw[(splitC_eq e1).1,(splitC_eq e2).1,List.append_assoc]
 refine⟨_,e,?_,by omega,?_,?_,?_⟩
 ·simp only[splice]
  rw[List.drop_drop]at h5
  rw[hw]
  exact(h1.app hv).app h5
 ·rw[hcs];exact parts_or _ hpL_app _ _ _ _ .inr
 ·rw[hcs];exact parts_or _ lnL_app _ _ _ _ .inr
 ·rw[hcs]
  simp only[refsL_app,List.append_eq_nil_iff]
  exact fun h h'=>⟨⟨h.1.1,h'⟩,h.2⟩
theorem getO_ok {c:Cf} {cs:List AV} {ivs:List IV} (h:Cas c cs ivs) {o:Off} {n:Nat} {k:List AV→Option R} {r:R} (e:getO cs o n k=some r):
 ∃out,k out=some r∧Cas c out ((ivs.drop o.val).take n)∧o.val+n≤ivs.length:=by
 cases o with
 |st o=>exact getS_ok h e
 |dyn o m sz i o2=>
  simp only[getO]at e
  obtain⟨x,e1,e'⟩:=bind_some'.1 e
  clear e;have e:=e';clear e'
  obtain⟨y,e2,e'⟩:=bind_some'.1 e
  clear e;have e:=e';clear e'
  obtain⟨h1,h2,h3⟩:=h.split e1
  obtain⟨h4,h5,h6⟩:=h2.split e2
  simp only[List.length_drop]at h6
  split at e
  ·rename_i hp ln m' t l hy
   split at e
   ·rename_i hc
    obtain⟨rfl,rfl⟩:=hc
    obtain⟨el,e3,e'⟩:=bind_some'.1 e
    clear e;have e:=e';clear e'
    obtain⟨u,e4,e'⟩:=bind_some'.1 e
    clear e;have e:=e';clear e'
    obtain⟨v,e5,e'⟩:=bind_some'.1 e
    clear e;have e:=e';clear e'
    rw[hy,Cas.single]at h4
    simp only[Ca,TR]at h4
    obtain⟨es,g1,g2,g3⟩:=h4
    obtain⟨w,g4,g5⟩:=g3.get e3
    have hsz:∀e∈es,e.length=t.n:=fun e he=>by obtain⟨x,_,hx⟩:=g3.mem_r e he;exact(TR.one hx).1
    obtain⟨q1,q2,q3⟩:=(cellsT_ok g5).split e4
    obtain⟨q4,q5,q6⟩:=q2.split e5
    have hw:=(TR.one g5).1
    simp only[List.length_drop,hw]at q6 q3
    have hi:=getE_lt g4
    rw[g2]at hi
    have hmul:i*t.n+t.n≤m'*t.n:=by
     calc i*t.n+t.n=(i+1)*t.n:=by rw[Nat.add_mul,Nat.one_mul]
      _≤m'*t.n:=Nat.mul_le_mul_right _ hi
    have key:((ivs.drop (o+i*t.n+o2)).take n)=((w.drop o2).take n):=by
     rw[←flat_get hsz g4,←g1,drop_take_in _ (by omega),List.drop_drop,drop_take_in _ (by omega),List.drop_drop]
     rw[Nat.add_assoc]
    refine⟨v.1,e,by simp only[Off.val];rw[key];exact q4,by simp only[Off.val];omega⟩
   ·cases e
  ·rename_i kd a rr hy
   split at e
   ·rename_i hc
    obtain⟨rfl,rfl,rfl⟩:=hc
    obtain⟨l,e3,e'⟩:=bind_some'.1 e
    clear e;have e:=e';clear e'
    split at e
    ·rename_i hl
     obtain⟨el,e4,e'⟩:=bind_some'.1 e
     clear e;have e:=e';clear e'
     rw[hy]at h4
     obtain⟨g1,g2,g3⟩:=intsOf_ok e3 h4
     have hi:=getE_lt e4
     refine⟨_,e,?_,by simp only[Off.val];omega⟩
     simp only[Off.val,Nat.add_zero,Nat.mul_one]at *
     have key:(ivs.drop (o+i)).take 1=[.int kd el]:=by
      have:(((ivs.drop o).take m).drop i).take 1=[.int kd el]:=by
       rw[g1,←List.map_drop,←List.map_take]
       obtain⟨q1,q2⟩:=List.getElem?_eq_some_iff.1 e4
       rw[List.drop_eq_getElem_cons q1,q2];rfl
      rw[drop_take_in _ (by omega),List.drop_drop]at this
      exact this
     rw[key,Cas.single];simp[Ca]
    ·cases e
   ·exact getS_ok h e
  ·exact getS_ok h e
theorem setO_ok {c:Cf} (hb:BRs c) {cs:List AV} {ivs:List IV} (h:Cas c cs ivs) {new:List AV} {vs:List IV} (hv:Cas c new vs) {o:Off} {k:List AV→Option R} {r:R} (e:setO c.H cs o new k=some r):
 ∃out,k out=some r∧Cas c out (splice ivs o.val vs)∧o.val+vs.length≤ivs.length∧(hpL c.H out=true→hpL c.H cs=true∨hpL c.H new=true)∧(lnL c.H out=true→lnL c.H cs=true∨lnL c.H new=true)∧
  (AV.refsL cs=[]→AV.refsL new=[]→AV.refsL out=[]):=by
 have hw:=(Cas.len hv).1
 have parts:∀(f:List AV→Bool),(∀a b,f (a++b)=(f a||f b))→∀a b c d:List AV,(f c=true→f b=true∨f new=true)→f (a++c++d)=true→f (a++b++d)=true∨f new=true:=by
  intro f hf a b c d hc h
  simp only[hf,Bool.or_eq_true]at h ⊢
  rcases h with (h|h)|h
  ·exact .inl (.inl (.inl h))
  ·rcases hc h with h|h
   ·exact .inl (.inl (.inr h))
   ·exact .inr h
  ·exact .inl (.inr h)
 cases o with
 |st o=>exact setS_ok h hv e
 |dyn o m sz i o2=>
  simp only[setO]at e
  obtain⟨x,e1,e'⟩:=bind_some'.1 e
  clear e;have e:=e';clear e'
  obtain⟨y,e2,e'⟩:=bind_some'.1 e
  clear e;have e:=e';clear e'
  obtain⟨h1,h2,h3⟩:=h.split e1
  obtain⟨h4,h5,h6⟩:=h2.split e2
  simp only[List.length_drop]at h6
  have hiv:ivs=ivs.take o++(ivs.drop o).take (m*sz)++ivs.drop (o+m*sz):=by
   rw[List.append_assoc,←List.drop_drop,List.take_append_drop,List.take_append_drop]
  have lenA:(ivs.take o).length=o:=by simp;omega
  have lenM:((ivs.drop o).take (m*sz)).length=m*sz:=by simp;omega
  rw[List.drop_drop]at h5
  have hcs:cs=x.1++y.1++y.2:=by rw[(splitC_eq e1).1,(splitC_eq e2).1,List.append_assoc]
  split at e
  ·rename_i hp ln m' t l hy
   split at e
   ·rename_i hc
    obtain⟨rfl,rfl,hr⟩:=hc
    obtain⟨el,e3,e'⟩:=bind_some'.1 e
    clear e;have e:=e';clear e'
    obtain⟨u,e4,e'⟩:=bind_some'.1 e
    clear e;have e:=e';clear e'
    obtain⟨v,e5,e'⟩:=bind_some'.1 e
    clear e;have e:=e';clear e'
    obtain⟨z,e6,e'⟩:=bind_some'.1 e
    clear e;have e:=e';clear e'
    split at e
    ·rename_i hz
     rw[hy,Cas.single]at h4
     simp only[Ca,TR]at h4
     obtain⟨es,g1,g2,g3⟩:=h4
     obtain⟨w,g4,g5⟩:=g3.get e3
     have hsz:∀e∈es,e.length=t.n:=fun e he=>by obtain⟨x,_,hx⟩:=g3.mem_r e he;exact(TR.one hx).1
     obtain⟨q1,q2,q3⟩:=(cellsT_ok g5).split e4
     obtain⟨q4,q5,q6⟩:=q2.split e5
     have hwl:=(TR.one g5).1
     simp only[List.length_drop,hwl]at q6 q3
     have hi:=getE_lt g4
     rw[g2]at hi
     have hmul:i*t.n+t.n≤m'*t.n:=by
      calc i*t.n+t.n=(i+1)*t.n:=by rw[Nat.add_mul,Nat.one_mul]
       _≤m'*t.n:=Nat.mul_le_mul_right _ hi
     rw[List.drop_drop]at q5
     have hnew:Cas c (u.1++new++v.2) (w.take o2++vs++w.drop (o2+vs.length)):=by
      rw[hw];exact(q1.app hv).app q5
     obtain⟨pre,p1,p2⟩:=toC_frz hb e6 hnew
     rw[hz,List.append_nil]at p1;subst p1
     have sp:=splitC_eq e4
     have sp2:=splitC_eq e5
     have fl:∀f:List AV→Bool,(∀a b,f (a++b)=(f a||f b))→(f (u.1++new++v.2)=true→f (cellsT hp ln t el)=true∨f new=true):=by
      intro f hf hh
      rw[hf,hf]at hh
      rw[sp.1,hf,sp2.1,hf]
      simp only[Bool.or_eq_true]at hh ⊢
      rcases hh with (h|h)|h
      ·exact .inl (.inl h)
      ·exact .inr h
      ·exact .inl (.inr (.inr h))
     obtain⟨u1,u2,p3,p4,p5⟩:=p2 (hp||hpL c.H new) (ln||lnL c.H new)
      (fun hh=>by
        rcases fl (hpL c.H) hpL_app hh with h|h
        ·rw[hpL_cellsT h];rfl
        ·rw[h,Bool.or_true])
      (fun hh=>by
        rcases fl (lnL c.H) lnL_app hh with h|h
        ·rw[lnL_cellsT h];rfl
        ·rw[h,Bool.or_true])
      (fun B hB=>by
        have:AV.refsL (u.1++new++v.2)=[]:=by
         have h0:=refsL_cellsT (hp:=hp) (ln:=ln) (t:=t) (x:=el)
         rw[sp.1,refsL_app,sp2.1,refsL_app]at h0
         simp only[refsL_app,hr]
         simp only[List.append_eq_nil_iff]at h0 ⊢
         exact⟨⟨h0.1,by trivial⟩,h0.2.2⟩
        rw[this]at hB;cases hB)
     rw[hz]at p5;simp only[Cas]at p5;subst p5
     simp only[List.append_nil]at p3;subst p3
     refine⟨_,e,?_,by simp only[Off.val];omega,?_,?_,?_⟩
     rotate_left
     ·rw[hcs];exact parts _ hpL_app _ _ _ _ (by rw[hy];simp[hpL,AV.hpF])
     ·rw[hcs];exact parts _ lnL_app _ _ _ _ (by rw[hy];simp[lnL,AV.lnF])
     ·rw[hcs]
      simp only[refsL_app,List.append_eq_nil_iff]
      exact fun h h'=>⟨⟨h.1.1,by simp[AV.refsL,AV.refs]⟩,h.2⟩
     have mid:TR c.p c.Z c.h (ln||lnL c.H new) (.arr m' t) (hp||hpL c.H new) (l.set i z.1) (es.set i (w.take o2++vs++w.drop (o2+vs.length))).flatten:=by
      simp only[TR]
      refine⟨_,rfl,by simp[g2],All2.set p4 i (g3.imp fun a b h=>TR.flags (by simp;exact fun h=>.inl h) (by simp;exact fun h=>.inl h) h)⟩
     rw[flat_set hsz g4 (by omega),←g1]at mid
     have sm:=splice_mid (ivs.take o) ((ivs.drop o).take (m'*t.n)) (ivs.drop (o+m'*t.n)) vs (i*t.n+o2) (by rw[lenM];omega)
     rw[←hiv,lenA]at sm
     simp only[splice,Off.val]
     rw[show o+i*t.n+o2=o+(i*t.n+o2) by omega,sm]
     exact(h1.app (Cas.single.2 (by simp only[Ca];exact mid))).app h5
    ·cases e
   ·cases e
  ·rename_i kd a rr hy
   split at e
   ·rename_i kd' v
    split at e
    ·rename_i hc
     obtain⟨rfl,rfl,rfl⟩:=hc
     obtain⟨l,e3,e'⟩:=bind_some'.1 e
     clear e;have e:=e';clear e'
     split at e
     ·rename_i hl
      obtain⟨hi,e'⟩:=cut_some.1 e
      clear e;have e:=e';clear e'
      rw[decide_eq_true_eq]at hi
      rw[hy]at h4
      obtain⟨g1,g2,g3⟩:=intsOf_ok e3 h4
      simp only[Cas.single,Ca]at hv
      subst hv
      refine⟨_,e,?_,by simp only[Off.val,List.length_singleton];omega,?_,?_,?_⟩
      rotate_left
      ·rw[hcs];exact parts _ hpL_app _ _ _ _ (by simp[hpL,AV.hpF])
      ·rw[hcs];exact parts _ lnL_app _ _ _ _ (by simp[lnL,AV.lnF])
      ·rw[hcs]
       simp only[refsL_app,List.append_eq_nil_iff]
       exact fun h h'=>⟨⟨h.1.1,by simp[AV.refsL,AV.refs]⟩,h.2⟩
      have mid:TR c.p c.Z c.h false (.arr m (.int kd')) false (l.set i v) ((l.set i v).map fun x=>IV.int kd' x):=by
       simp only[TR]
       exact⟨(l.set i v).map fun x=>[IV.int kd' x],ints_flat _ _,by simp[hl],by simpa only[TR]using all2_ints (p:=c.p) (Z:=c.Z) (h:=c.h) (ln:=false) (hp:=false) (k:=kd') (l.set i v)⟩
      have mm:(l.set i v).map (fun x=>IV.int kd' x)=(l.map fun x=>IV.int kd' x).take i++[IV.int kd' v]++(l.map fun x=>IV.int kd' x).drop (i+1):=by
       rw[List.map_set,List.set_eq_take_append_cons_drop,if_pos (by simp;omega)];simp
      rw[mm,←g1]at mid
      have sm:=splice_mid (ivs.take o) ((ivs.drop o).take (m*1)) (ivs.drop (o+m*1)) [IV.int kd' v] i (by rw[lenM];simp;omega)
      rw[←hiv,lenA]at sm
      simp only[splice,Off.val,Nat.mul_one,Nat.add_zero]at *
      rw[sm]
      exact(h1.app (Cas.single.2 (by simp only[Ca];exact mid))).app h5
     ·cases e
    ·exact setS_ok h hv e
   ·exact setS_ok h hv e
  ·exact setS_ok h hv e
end
end Go.Ideal
set_option linter.unusedVariables false
set_option linter.unusedSimpArgs false
set_option linter.unusedSectionVars false
namespace Go.Ideal
def ICallOk (prog:Nat→Option SFn) (opn:Nat→Bool) {Rr:Type} (icall:Nat→List AV→AHp→(AV→AHp→Option Rr)→Option Rr):Prop:=
 ∀f args H k r,icall f args H k=some r→∀R c ivs,GH R c→c.H=H→Vas c args ivs→
  ∃iv h',callL prog opn f ivs c.h=some (iv,h')∧∃v c',GH R c'∧c'.h=h'∧Le c c'∧Va c' v iv∧k v c'.H=some r
section
variable {Rr:Type} {prog:Nat→Option SFn} {opn:Nat→Bool} {cs:Nat→Option Ct} {ety:Nat→Option Ty} {icall:Nat→List AV→AHp→(AV→AHp→Option Rr)→Option Rr}
 {R:Run} {T:List ASV} {TI:List SV} {c:Cf} {st:ASt} {s:St} {k:ASV→ASt→Option Rr} {r:Rr} {dst:Option Nat}
def OpOk (prog:Nat→Option SFn) (opn:Nat→Bool) (R:Run) (T:List ASV) (TI:List SV) (c:Cf) (s:St) (k:ASV→ASt→Option Rr) (r:Rr) (dst:Option Nat) (op:SOp):Prop:=
 ∃sv s',evOp (callL prog opn) opn dst op s=some (sv,s')∧∃a st' c',G R T TI c' st' s'∧Le c c'∧SVa c' a sv∧k a st'=some r
theorem OpOk.same {op:SOp} (g:G R T TI c st s) {sv:SV} {a:ASV} (h:evOp (callL prog opn) opn dst op s=some (sv,s)) (v:SVa c a sv) (e:k a st=some r):OpOk prog opn R T TI c s k r dst op:=
 ⟨sv,s,h,a,st,c,g,Le.refl c,v,e⟩
variable (g:G R T TI c st s)
include g
theorem op_mov {x:SX} (e:aOp cs opn ety icall T st dst (.mov x) k=some r):OpOk prog opn R T TI c s k r dst (.mov x):=by
 simp only[aOp]at e
 obtain⟨a,e1,e⟩:=bind_some'.1 e
 obtain⟨sv,h1,h2⟩:=ax_ok g.gf e1
 exact .same g (by simp[evOp,h1]) h2 e
theorem op_pick {cx a b:SX} (e:aOp cs opn ety icall T st dst (.pick cx a b) k=some r):OpOk prog opn R T TI c s k r dst (.pick cx a b):=by
 simp only[aOp]at e
 obtain⟨v,e1,e⟩:=bind_some'.1 e
 obtain⟨iv,h1,h2⟩:=av_ok g.gf e1
 cases v<;>simp only at e<;>try (cases e;done)
 rename_i b0
 simp only[Va]at h2;subst h2
 split at e
 ·rename_i x y hx hy
  obtain⟨ix,h3,h4⟩:=av_ok g.gf hx
  obtain⟨iy,h5,h6⟩:=av_ok g.gf hy
  simp only[Va]at h4 h6;subst h4;subst h6
  refine .same g (sv:=.val (.bool (bif b0 then x else y))) ?_ (by simp[SVa,Va]) e
  cases b0<;>simp[evOp,h1,h3,h5]
 ·rename_i kx x ky y hx hy
  split at e
  ·rename_i hk;subst hk
   obtain⟨ix,h3,h4⟩:=av_ok g.gf hx
   obtain⟨iy,h5,h6⟩:=av_ok g.gf hy
   simp only[Va]at h4 h6;subst h4;subst h6
   refine .same g (sv:=.val (.int kx (bif b0 then x else y))) ?_ (by simp[SVa,Va]) e
   cases b0<;>simp[evOp,h1,h3,h5]
  ·cases e
 ·cases b0 with
  |true=>
   simp only[cond_true]at e
   obtain⟨w,e2,e⟩:=bind_some'.1 e
   obtain⟨ix,h3,h4⟩:=av_ok g.gf e2
   exact .same g (sv:=.val ix) (by simp[evOp,h1,h3]) (show SVa c (.val _) (.val _) from h4) e
  |false=>
   simp only[cond_false]at e
   obtain⟨w,e2,e⟩:=bind_some'.1 e
   obtain⟨ix,h3,h4⟩:=av_ok g.gf e2
   exact .same g (sv:=.val ix) (by simp[evOp,h1,h3]) (show SVa c (.val _) (.val _) from h4) e
omit g in
theorem aBinI_ok {op:BinOp} {kd:IntKind} {a b:Int} {K:AV→Option Rr} (e:aBinI op kd a b K=some r):∃v av,binI op kd a b=some v∧K av=some r∧∀c,Va c av v:=by
 cases op<;>simp only[aBinI]at e
 case quo=>
  by_cases hb:b=0
  ·simp[hb]at e
  ·simp only[hb,decide_false,cond_false]at e
   exact⟨_,_,if_neg hb,e,fun c=>by simp only[Va]⟩
 case rem=>
  by_cases hb:b=0
  ·simp[hb]at e
  ·simp only[hb,decide_false,cond_false]at e
   exact⟨_,_,if_neg hb,e,fun c=>by simp only[Va]⟩
 case shl=>
  by_cases hb:b<0
  ·simp[hb]at e
  ·simp only[hb,decide_false,cond_false]at e
   exact⟨_,_,if_neg hb,e,fun c=>by simp only[Va]⟩
 case shr=>
  by_cases hb:b<0
  ·simp[hb]at e
  ·simp only[hb,decide_false,cond_false]at e
   exact⟨_,_,if_neg hb,e,fun c=>by simp only[Va]⟩
 all_goals exact⟨_,_,rfl,e,fun c=>by simp only[Va]⟩
omit g in
theorem aBinS_ok {op:BinOp} {a b:List UInt8} {K:AV→Option Rr} (e:aBinS op a b K=some r):∃v av,binS op a b=some v∧K av=some r∧∀c,Va c av v:=by
 cases op<;>simp only[aBinS]at e<;>try (cases e;done)
 case add=>
  by_cases hb:((a.length+b.length:Nat):Int)>IntKind.i64.max
  ·simp only[hb,decide_true,cond_true]at e;cases e
  ·simp only[hb,decide_false,cond_false]at e
   exact⟨_,_,if_neg hb,e,fun c=>by simp only[Va]⟩
 all_goals exact⟨_,_,rfl,e,fun c=>by simp only[Va]⟩
omit g in
theorem aBin_ok {op:BinOp} {a b:AV} {x y:IV} (hx:Va c a x) (hy:Va c b y) {K:AV→Option Rr} (e:aBin op a b K=some r):∃v av,bin op x y=some v∧K av=some r∧∀c,Va c av v:=by
 unfold aBin at e
 split at e
 ·simp only[Va]at hx hy;subst hx;subst hy
  split at e
  ·rename_i h
   obtain⟨v,av,h1,h2,h3⟩:=aBinI_ok e
   exact⟨v,av,by simp only[bin];rw[if_pos h];exact h1,h2,h3⟩
  ·cases e
 ·simp only[Va]at hx hy;subst hx;subst hy
  exact aBinS_ok e
 ·cases e
theorem op_bin {op:BinOp} {x y:SX} (e:aOp cs opn ety icall T st dst (.bin op x y) k=some r):OpOk prog opn R T TI c s k r dst (.bin op x y):=by
 simp only[aOp]at e
 obtain⟨a,e1,e⟩:=bind_some'.1 e
 obtain⟨b,e2,e⟩:=bind_some'.1 e
 obtain⟨ix,h1,h2⟩:=av_ok g.gf e1
 obtain⟨iy,h3,h4⟩:=av_ok g.gf e2
 obtain⟨v,w,h5,h6,h7⟩:=aBin_ok h2 h4 e
 exact .same g (sv:=.val v) (by simp[evOp,h1,h3,h5]) (show SVa c (.val _) (.val _) from h7 c) h6
theorem op_un {op:UnOp} {x:SX} (e:aOp cs opn ety icall T st dst (.un op x) k=some r):OpOk prog opn R T TI c s k r dst (.un op x):=by
 simp only[aOp]at e
 obtain⟨a,e1,e⟩:=bind_some'.1 e
 obtain⟨ix,h1,h2⟩:=av_ok g.gf e1
 unfold aUn at e
 split at e
 ·simp only[Va]at h2;subst h2
  exact .same g (sv:=.val _) (by simp only[evOp,h1,Option.bind_some,un,binI];rfl) (by simp[SVa,Va]) e
 ·simp only[Va]at h2;subst h2
  obtain⟨v,w,h5,h6,h7⟩:=aBinI_ok e
  exact .same g (sv:=.val v) (by simp only[evOp,h1,Option.bind_some,un,h5]) (show SVa c (.val _) (.val _) from h7 c) h6
 ·simp only[Va]at h2;subst h2
  exact .same g (sv:=.val _) (by simp only[evOp,h1,Option.bind_some,un];rfl) (by simp[SVa,Va]) e
 ·cases e
omit g in
theorem aEqL_ok {kk:LK} {a b:AV} {x y:IV} (hx:Va c a x) (hy:Va c b y) {v:Bool} (e:aEqL kk a b=some v):eqL kk x y=some v:=by
 unfold aEqL at e
 split at e<;>try (cases e;done)
 all_goals (simp only[Va]at hx hy;subst hx;subst hy;exact e)
omit g in
theorem eqC_ints {kk:IntKind}:∀{n:Nat} {ks ks':List LK} {l l':List Int} {xs ys:List IV},allI kk ks n=some ks'→l.length=n→l'.length=n→
 eqC ks (l.map (fun x=>IV.int kk x)++xs) (l'.map (fun x=>IV.int kk x)++ys)=(eqC ks' xs ys).bind fun b=>some ((l==l')&&b)
 |0,ks,ks',l,l',xs,ys,e,h,h'=>by
  have:=List.length_eq_zero_iff.1 h;subst this
  have:=List.length_eq_zero_iff.1 h';subst this
  simp only[allI,Option.some.injEq]at e;subst e
  simp only[List.map_nil,List.nil_append]
  cases eqC ks xs ys<;>simp
 |n+1,ks,ks',l,l',xs,ys,e,h,h'=>by
  cases l with
  |nil=>simp at h
  |cons a l=>
   cases l' with
   |nil=>simp at h'
   |cons a' l'=>
    cases ks with
    |nil=>simp[allI]at e
    |cons k1 ks=>
     cases k1<;>simp only[allI]at e<;>try (cases e;done)
     split at e
     ·rename_i hk;subst hk
      have ih:=eqC_ints (xs:=xs) (ys:=ys) e (show l.length=n by simpa using h) (show l'.length=n by simpa using h')
      simp only[List.map_cons,List.cons_append,eqC,eqL,and_self,if_true,Option.bind_some,ih]
      cases eqC ks' xs ys with
      |none=>rfl
      |some b=>simp[Bool.and_assoc]
     ·cases e
omit g in
theorem all2_flat {k:IntKind}:∀{l:List Int} {es:List (List IV)},All2 (fun x u=>u=[IV.int k x]) l es→es.flatten=l.map fun x=>IV.int k x
 |[],[],_=>rfl
 |[],_::_,h=>h.elim
 |_::_,[],h=>h.elim
 |a::l,e::es,h=>by obtain⟨h1,h2⟩:=h;subst h1;simp[all2_flat h2]
omit g in
theorem aEqC_ok:∀{ks:List LK} {xs ys:List AV} {us vs:List IV},Cas c xs us→Cas c ys vs→∀{v:Bool},aEqC ks xs ys=some v→eqC ks us vs=some v
 |ks,xs,ys,us,vs,hx,hy,v,e=>by
  unfold aEqC at e
  split at e
  ·rename_i n k1 l xs' hp' ln' n' k' l' ys'
   split at e
   ·rename_i hc;obtain⟨rfl,rfl⟩:=hc
    obtain⟨ks',e1,e'⟩:=bind_some'.1 e
    obtain⟨b,e2,e3⟩:=bind_some'.1 e'
    simp at e3;subst e3
    simp only[Cas,Ca,TR]at hx hy
    obtain⟨u1,u2,rfl,⟨es,rfl,hl1,h1⟩,h2⟩:=hx
    obtain⟨w1,w2,rfl,⟨fs,rfl,hl2,h3⟩,h4⟩:=hy
    rw[all2_flat h1,all2_flat h3,eqC_ints e1 (by rw[←h1.len,hl1]) (by rw[←h3.len,hl2]),aEqC_ok h2 h4 e2];rfl
   ·cases e
  ·simp only[Cas]at hx hy;subst hx;subst hy;exact e
  ·rename_i k1 ks x xs y ys hno
   obtain⟨a,e1,e'⟩:=bind_some'.1 e
   obtain⟨b,e2,e3⟩:=bind_some'.1 e'
   simp only[Cas]at hx hy
   obtain⟨u1,u2,rfl,h1,h2⟩:=hx
   obtain⟨w1,w2,rfl,h3,h4⟩:=hy
   have one:x.one=true∧y.one=true:=by
    unfold aEqL at e1
    split at e1<;>first|(cases e1;done)|exact⟨rfl,rfl⟩
   obtain⟨i1,rfl,_,g1⟩:=(cell_val one.1).1 h1
   obtain⟨i2,rfl,_,g2⟩:=(cell_val one.2).1 h3
   simp only[List.cons_append,List.nil_append,eqC,aEqL_ok g1 g2 e1,aEqC_ok h2 h4 e2,Option.bind_some]
   exact e3
  ·cases e
omit g in
theorem isPtr_ok {a:ASV} {sv:SV} (v:SVa c a sv) (h:isPtr c.H a=true):
 (∃n o,sv = .lptr n o)∨(∃b t i o,sv = .val (.ptr b t i o))∨∃b e o,sv = .val (.rptr b e o):=by
 cases a with
 |lptr n o=>cases sv<;>simp only[SVa]at v;exact .inl ⟨_,_,rfl⟩
 |box _=>simp[isPtr]at h
 |cst _=>simp[isPtr]at h
 |val a=>
  cases sv<;>simp only[SVa]at v
  cases a
  case ptr B o=>
   simp only[Va]at v
   simp only[isPtr]at h
   split at h
   ·rename_i wr cs hB
    obtain⟨b,_,rfl⟩:=v.2.obj hB
    exact .inr (.inl ⟨_,_,_,_,rfl⟩)
   ·cases h
  case eptr B i o=>
   simp only[Va]at v
   rcases v.2 with v|⟨_,_,_,_,_,b,_,_,rfl,_⟩
   ·simp[isPtr,v]at h
   ·exact .inr (.inl ⟨_,_,_,_,rfl⟩)
  case rptr hp ln cs o=>
   simp only[Va]at v
   obtain⟨e,_,⟨bo,rfl⟩|⟨_,b,tot,i,k,rfl,_⟩⟩:=v
   ·exact .inr (.inr ⟨_,_,_,rfl⟩)
   ·exact .inr (.inl ⟨_,_,_,_,rfl⟩)
  all_goals simp[isPtr]at h
theorem op_cvI {kd:IntKind} {x:SX} (e:aOp cs opn ety icall T st dst (.cvI kd x) k=some r):OpOk prog opn R T TI c s k r dst (.cvI kd x):=by
 simp only[aOp]at e
 obtain⟨a,e1,e⟩:=bind_some'.1 e
 obtain⟨ix,h1,h2⟩:=av_ok g.gf e1
 cases a<;>simp only at e<;>try (cases e;done)
 simp only[Va]at h2;subst h2
 exact .same g (sv:=.val _) (by simp only[evOp,h1,Option.bind_some];rfl) (by simp[SVa,Va]) e
theorem op_cvIS {x:SX} (e:aOp cs opn ety icall T st dst (.cvIS x) k=some r):OpOk prog opn R T TI c s k r dst (.cvIS x):=by
 simp only[aOp]at e
 obtain⟨a,e1,e⟩:=bind_some'.1 e
 obtain⟨ix,h1,h2⟩:=av_ok g.gf e1
 cases a<;>simp only at e<;>try (cases e;done)
 simp only[Va]at h2;subst h2
 exact .same g (sv:=.val _) (by simp only[evOp,h1,Option.bind_some];rfl) (by simp[SVa,Va]) e
theorem op_cvSS {x:SX} (e:aOp cs opn ety icall T st dst (.cvSS x) k=some r):OpOk prog opn R T TI c s k r dst (.cvSS x):=by
 simp only[aOp]at e
 obtain⟨a,e1,e⟩:=bind_some'.1 e
 obtain⟨ix,h1,h2⟩:=av_ok g.gf e1
 cases a<;>simp only at e<;>try (cases e;done)
 simp only[Va]at h2;subst h2
 exact .same g (sv:=.val _) (by simp only[evOp,h1,Option.bind_some];rfl) (by simp[SVa,Va]) e
theorem op_cvLL {x:SX} (e:aOp cs opn ety icall T st dst (.cvLL x) k=some r):OpOk prog opn R T TI c s k r dst (.cvLL x):=by
 simp only[aOp]at e
 obtain⟨a,e1,e⟩:=bind_some'.1 e
 obtain⟨ix,h1,h2⟩:=av_ok g.gf e1
 cases a<;>simp only at e<;>try (cases e;done)
 rename_i B
 have h2':=h2
 simp only[Va]at h2
 rcases h2.2 with h|⟨wr,hp,ln,t,l,hB,h2⟩
 ·rw[g.H]at h;rw[h]at e;cases e
 ·have hB':=hB
  rw[g.H]at hB;rw[hB]at e;simp only at e
  split at e
  case isFalse=>cases e
  rename_i hn1
  obtain⟨hc,e⟩:=cut_some.1 e
  rw[decide_eq_true_eq]at hc
  have br:=g.gh.blk B _ hB'
  simp only[BR]at br
  replace br:=br.2
  cases hm:c.m B with
  |none=>rw[hm]at br;simp only at br;subst br;simp at hc
  |some b=>
   rw[hm]at br h2;simp only[OwnR]at br h2
   obtain⟨es,h3,h4⟩:=br
   subst h2
   have hg:hget s.2 b l.length=some ⟨t.n,es⟩:=by rw[←g.h];exact hget_iff.2 ⟨h3,h4.len⟩
   refine .same g (sv:=.val (.sl b l.length 0 l.length l.length)) ?_ (show SVa c (.val (.own B)) (.val _) from h2') e
   simp only[evOp,h1,Option.bind_some,hg]
   rw[if_pos ⟨hc,hn1⟩]
theorem op_cvBS {x:SX} (e:aOp cs opn ety icall T st dst (.cvBS x) k=some r):OpOk prog opn R T TI c s k r dst (.cvBS x):=by
 simp only[aOp]at e
 obtain⟨a,e1,e⟩:=bind_some'.1 e
 obtain⟨ix,h1,h2⟩:=av_ok g.gf e1
 have ns:∀b,a≠.str b:=by rintro b rfl;simp at e
 have e:(toL st.H (.int .u8) a).bind (fun l=>k (.val (.str (l.map fun n=>UInt8.ofNat n.toNat))) st)=some r:=by
  cases a<;>simp only at e<;>first|exact e|exact(ns _ rfl).elim
 obtain⟨l,e2,e⟩:=bind_some'.1 e
 rw[←g.H]at e2
 obtain⟨es,h3,h4⟩:=toL_elems g.gh.blk e2 h2
 have nv:∀b,ix≠.str b:=by
  rintro b rfl
  cases a
  case nils=>simp only[Va]at h2;rcases h2 with h|h<;>cases h
  case lst hp ln t l0=>
   simp only[Va,TR]at h2
   obtain⟨iv,h,h2⟩:=h2
   simp at h;subst h
   rcases h2 with ⟨_,h|h⟩|⟨_,_,h,_⟩|⟨_,_,_,_,_,_,_,h,_⟩<;>cases h
  case own B=>
   simp only[Va]at h2
   rcases h2.2 with h|⟨_,_,_,_,_,hB,h⟩
   ·simp only[toL,h]at e2;cases e2
   ·unfold OwnR at h;split at h
    ·rcases h with h|h<;>cases h
    ·cases h
  case sub B _ _ _=>
   simp only[Va]at h2
   rcases h2.2 with h|⟨_,_,_,_,_,hB,h⟩
   ·simp only[toL,h]at e2;cases e2
   ·unfold SubR at h;obtain⟨_,_,h⟩:=h;split at h
    ·rcases h.1 with h|h<;>cases h
    ·cases h
  case str b'=>exact ns _ rfl
  all_goals (simp only[toL]at e2;cases e2)
 have key:∀{l:List Int} {es:List (List IV)},All2 (fun x u=>u=[IV.int IntKind.u8 x]) l es→mapO (fun e=>match e with
  |[.int .u8 n]=>some (UInt8.ofNat n.toNat)
  |_=>none) es=some (l.map fun n=>UInt8.ofNat n.toNat):=by
  intro l
  induction l with
  |nil=>intro es h;cases es with
   |nil=>rfl
   |cons _ _=>exact h.elim
  |cons a l ih=>intro es h;cases es with
   |nil=>exact h.elim
   |cons e es=>obtain⟨h1,h2⟩:=h;subst h1;simp[mapO,ih h2]
 have h4':=key (show All2 (fun x u=>u=[IV.int IntKind.u8 x]) l es from by simpa only[TR]using h4)
 refine .same g (sv:=.val (.str (l.map fun n=>UInt8.ofNat n.toNat))) ?_ (by simp[SVa,Va]) e
 have h3':elems s.2 1 ix=some es:=by rw[←g.h];exact h3
 simp only[evOp,h1,Option.bind_some]
 cases ix<;>first|exact(nv _ rfl).elim|(simp only[h3',Option.bind_some];exact(congrArg (fun z=>Option.bind z _) h4').trans rfl)
theorem op_mkF {f:Fn} {a b:List SX} (e:aOp cs opn ety icall T st dst (.mkF f a b) k=some r):OpOk prog opn R T TI c s k r dst (.mkF f a b):=by
 simp only[aOp]at e
 cases f<;>simp only at e<;>try (cases e;done)
 obtain⟨x,e1,e⟩:=bind_some'.1 e
 obtain⟨y,e2,e⟩:=bind_some'.1 e
 obtain⟨ix,h1,h2⟩:=avs_ok g.gf e1
 obtain⟨iy,h3,h4⟩:=avs_ok g.gf e2
 exact .same g (sv:=.val _) (by simp only[evOp,h1,h3,Option.bind_some];rfl) (by simp only[SVa,Va];exact⟨_,_,rfl,h2,h4⟩) e
omit g in
theorem aNat_ok {a:AV} {iv:IV} (v:Va c a iv) {K:Nat→Option Rr} (e:aNat a K=some r):∃n,asNat iv=some n∧K n=some r:=by
 unfold aNat at e
 split at e
 ·simp only[Va]at v;subst v
  rename_i kd n
  by_cases h:0≤n
  ·simp only[h,decide_true,cond_true]at e
   exact⟨n.toNat,by simp[asNat,h],e⟩
  ·simp[h]at e
 ·cases e
theorem aOptNat_ok {x:Option SX} {d:Nat} {K:Nat→Option Rr} (e:aOptNat T st.fr d K x=some r):∃n,optNat s.1 x d=some n∧K n=some r:=by
 cases x with
 |none=>exact⟨d,rfl,e⟩
 |some x=>
  simp only[aOptNat]at e
  obtain⟨a,e1,e⟩:=bind_some'.1 e
  obtain⟨iv,h1,h2⟩:=av_ok g.gf e1
  obtain⟨n,h3,h4⟩:=aNat_ok h2 e
  exact⟨n,by simp[optNat,h1,h3],h4⟩
theorem op_slS {x:SX} {lo hi:Option SX} (e:aOp cs opn ety icall T st dst (.slS x lo hi) k=some r):OpOk prog opn R T TI c s k r dst (.slS x lo hi):=by
 simp only[aOp]at e
 obtain⟨a,e1,e⟩:=bind_some'.1 e
 obtain⟨ix,h1,h2⟩:=av_ok g.gf e1
 cases a<;>simp only at e<;>try (cases e;done)
 simp only[Va]at h2;subst h2
 obtain⟨l,h3,e⟩:=aOptNat_ok g e
 obtain⟨rr,h4,e⟩:=aOptNat_ok g e
 obtain⟨h5,e⟩:=cut_some.1 e
 rw[decide_eq_true_eq]at h5
 exact .same g (sv:=.val _) (by simp only[evOp,h1,Option.bind_some,h3,h4,if_pos h5];rfl) (by simp[SVa,Va]) e
theorem op_ext {x:SX} {i:Nat} (e:aOp cs opn ety icall T st dst (.ext x i) k=some r):OpOk prog opn R T TI c s k r dst (.ext x i):=by
 simp only[aOp]at e
 obtain⟨a,e1,e⟩:=bind_some'.1 e
 obtain⟨ix,h1,h2⟩:=av_ok g.gf e1
 cases a<;>simp only at e<;>try (cases e;done)
 simp only[Va]at h2
 obtain⟨ivs,rfl,h2⟩:=h2
 obtain⟨v,e2,e⟩:=bind_some'.1 e
 obtain⟨w,h3,h4⟩:=h2.get e2
 exact .same g (sv:=.val w) (by simp only[evOp,h1,Option.bind_some,h3]) (show SVa c (.val _) (.val _) from h4) e
theorem op_idxS {x i:SX} (e:aOp cs opn ety icall T st dst (.idxS x i) k=some r):OpOk prog opn R T TI c s k r dst (.idxS x i):=by
 simp only[aOp]at e
 obtain⟨a,e1,e⟩:=bind_some'.1 e
 obtain⟨b,e2,e⟩:=bind_some'.1 e
 obtain⟨ix,h1,h2⟩:=av_ok g.gf e1
 obtain⟨iy,h3,h4⟩:=av_ok g.gf e2
 obtain⟨n,h5,e⟩:=aNat_ok h4 e
 cases a<;>simp only at e<;>try (cases e;done)
 simp only[Va]at h2;subst h2
 obtain⟨ch,e3,e⟩:=bind_some'.1 e
 exact .same g (sv:=.val _) (by simp only[evOp,h1,h3,Option.bind_some,h5,e3];rfl) (by simp[SVa,Va]) e
omit g in
theorem alen_ok {H:AHp} (hH:c.H=H) (hb:BRs c) {a:AV} {iv:IV} (v:Va c a iv) {n:Nat} (e:alen H a=some n):lenOf iv=some n:=by
 subst hH
 cases a<;>simp only[alen]at e<;>try (cases e;done)
 case str=>simp at e;subst e;simp only[Va]at v;subst v;rfl
 case nils=>simp at e;subst e;simp only[Va]at v;rcases v with rfl|rfl<;>rfl
 case lst hp ln t l=>
  simp at e;subst e
  simp only[Va,TR]at v
  obtain⟨iv',h,v⟩:=v
  simp at h;subst h
  rcases v with ⟨rfl,rfl|rfl⟩|⟨_,es,rfl,_,h⟩|⟨_,b,tot,off,len,cap,k,rfl,_,hk,_,ht,h⟩
  ·rfl
  ·rfl
  ·simp[lenOf,h.len]
  ·have:=h.len
   have h2:=(hget_iff.1 hk).2
   simp only[List.length_take,List.length_drop]at this
   simp only[lenOf,Option.some.injEq];omega
 case own B=>
  simp only[Va]at v
  rcases v.2 with v|⟨_,hp,ln,t,l,hB,v⟩
  ·rw[v]at e;simp at e
  ·rw[hB]at e;simp at e;subst e
   have:=hb _ _ hB
   simp only[BR]at this
   replace this:=this.2
   cases hm:c.m B with
   |none=>
    rw[hm]at this v;simp only[OwnR]at this v;subst this
    rcases v with rfl|rfl<;>rfl
   |some b=>
    rw[hm]at v;simp only[OwnR]at v
    subst v;rfl
 case own2 B=>
  simp only[Va,Own2R]at v
  split at e
  ·rename_i w t l op hB
   injection e with e;subst e
   have:=hb _ _ hB
   rw[hB]at v
   cases hm:c.m B with
   |none=>
    rw[hm]at this v;simp only[OwnR]at v
    rw[(BR.arr2_none this).2.1]
    rcases v.2 with rfl|rfl<;>rfl
   |some b=>
    rw[hm]at v;simp only[OwnR]at v
    rw[v.2];rfl
  ·cases e
 case sub B off len cap=>
  simp only[Va]at v
  rcases v.2 with v|⟨_,hp,ln,t,l,hB,v⟩
  ·rw[v]at e;simp at e
  ·rw[hB]at e;simp at e;subst e
   obtain⟨_,_,v⟩:=v
   cases hm:c.m B with
   |none=>
    rw[hm]at v;simp only at v
    obtain⟨v1,v2,_⟩:=v
    subst v2
    rcases v1 with rfl|rfl<;>rfl
   |some b=>
    rw[hm]at v;simp only at v
    subst v;rfl
theorem alen_nil {H:AHp} (hH:c.H=H) (hb:BRs c) {a:AV} {iv:IV} (v:Va c a iv) {n:Nat} (e:alen H a=some n) (hs:∀b,a≠.str b):∃w,eqV .sl (.val iv) (.val .nils)=some w∧(w=true→n=0):=by
 have hl:=alen_ok hH hb v e
 have key:(iv = .nils∨iv = .esl∨(∃b es,iv = .ro b es)∨∃a b c d e,iv = .sl a b c d e)→∃w,eqV .sl (.val iv) (.val .nils)=some w∧(w=true→n=0):=by
  rintro (rfl|rfl|⟨_,_,rfl⟩|⟨_,_,_,_,_,rfl⟩)
  ·simp only[lenOf,Option.some.injEq]at hl;exact⟨true,rfl,fun _=>hl.symm⟩
  ·exact⟨false,rfl,fun h=>by cases h⟩
  ·exact⟨false,rfl,fun h=>by cases h⟩
  ·exact⟨false,rfl,fun h=>by cases h⟩
 refine key ?_
 subst hH
 cases a<;>simp only[alen]at e<;>try (cases e;done)
 case str b=>exact(hs b rfl).elim
 case nils=>simp only[Va]at v;rcases v with rfl|rfl<;>simp
 case lst hp ln t l=>
  simp only[Va,TR]at v
  obtain⟨iv',h,v⟩:=v
  simp at h;subst h
  rcases v with ⟨_,rfl|rfl⟩|⟨_,es,rfl,_,h⟩|⟨_,b,tot,off,len,cap,k,rfl,_⟩<;>simp
 case own B=>
  simp only[Va]at v
  rcases v.2 with v|⟨_,hp,ln,t,l,hB,v⟩
  ·rw[v]at e;simp at e
  ·unfold OwnR at v
   split at v
   ·rcases v with rfl|rfl<;>simp
   ·subst v;simp
 case own2 B=>
  simp only[Va,Own2R]at v
  split at e
  ·rename_i w t l op hB
   rw[hB]at v
   replace v:OwnR (c.m B) l.length iv:=v.2
   unfold OwnR at v
   split at v
   ·rcases v with rfl|rfl<;>simp
   ·subst v;simp
  ·cases e
 case sub B off len cap=>
  simp only[Va]at v
  rcases v.2 with v|⟨_,hp,ln,t,l,hB,v⟩
  ·rw[v]at e;simp at e
  ·unfold SubR at v
   obtain⟨_,_,v⟩:=v
   split at v
   ·rcases v.1 with rfl|rfl<;>simp
   ·subst v;simp
end
end Go.Ideal
set_option linter.unusedVariables false
set_option linter.unusedSimpArgs false
set_option linter.unusedSectionVars false
namespace Go.Ideal
theorem Off.add_val (o:Off) (d:Nat):(o.add d).val=o.val+d:=by
 cases o<;>simp[Off.add,Off.val];omega
theorem take_one {α:Type} {l:List α} {i:Nat} {x:α} (h:(l.drop i).take 1=[x]):l[i]? = some x:=by
 have h1:(l.drop i)[0]? = some x:=by
  cases hd:l.drop i with
  |nil=>rw[hd]at h;simp at h
  |cons a r=>rw[hd]at h;simp at h;simp[h]
 rw[List.getElem?_drop]at h1
 simpa using h1
theorem flat_ok {c:Cf} {a:AV} {iv:IV} (v:Va c a iv) {vs:List AV} (e:a.flat=some vs):∃ivs,iv.flat=some ivs∧Cas c vs ivs:=by
 cases ho:a.one with
 |true=>
  have h1:=one_iv ho v
  have:vs=[a]:=by cases a<;>simp_all [AV.flat,AV.one]
  subst this
  refine⟨[iv],?_,Cas.single.2 ((cell_val ho).2 ⟨iv,rfl,h1,v⟩)⟩
  cases iv<;>simp_all [IV.flat,IV.one]
 |false=>
  cases a<;>simp only[AV.one,Bool.true_eq_false]at ho
  ·simp only[AV.flat]at e;cases e
  ·simp only[AV.flat,Option.some.injEq]at e;subst e
   simp only[Va]at v
   obtain⟨ivs,rfl,h⟩:=v
   exact⟨ivs,rfl,h⟩
  ·simp only[AV.flat]at e;cases e
section
variable {Rr:Type} {prog:Nat→Option SFn} {opn:Nat→Bool} {cs:Nat→Option Ct} {ety:Nat→Option Ty} {icall:Nat→List AV→AHp→(AV→AHp→Option Rr)→Option Rr}
 {R:Run} {T:List ASV} {TI:List SV} {c:Cf} {st:ASt} {s:St} {k:ASV→ASt→Option Rr} {r:Rr} {dst:Option Nat}
variable (g:G R T TI c st s)
include g
theorem op_nilc {x:SX} (e:aOp cs opn ety icall T st dst (.nilc x) k=some r):OpOk prog opn R T TI c s k r dst (.nilc x):=by
 simp only[aOp]at e
 obtain⟨a,e1,e'⟩:=bind_some'.1 e
 clear e;have e:=e';clear e'
 obtain⟨sv,h1,h2⟩:=ax_ok g.gf e1
 split at e
 ·rename_i hp
  rw[←g.H]at hp
  refine .same g (sv:=sv) ?_ h2 e
  rcases isPtr_ok h2 hp with ⟨_,_,rfl⟩|⟨_,_,_,_,rfl⟩|⟨_,_,_,rfl⟩<;>simp[evOp,h1]
 ·cases e
omit g in
theorem aNil_ok {a:ASV} {sv:SV} (v:SVa c a sv) (hb:BRs c) {K:Bool→Option Rr} {r:Rr} (e:aNil c.H a K=some r):∃w,(eqV .ptr (.val .nilp) sv=some w∧eqV .ptr sv (.val .nilp)=some w)∧K w=some r:=by
 unfold aNil at e
 split at e
 ·rename_i B o
  cases sv<;>simp only[SVa,Va]at v
  split at e
  ·rename_i hB
   obtain⟨b,_,rfl⟩:=v.2.obj hB
   exact⟨false,⟨rfl,rfl⟩,e⟩
  ·rename_i w t x hB
   split at e
   ·have br:=hb _ _ hB
    simp only[BR]at br
    have v:=v.2
    unfold PtrR at v
    rw[hB]at v
    rcases br with ⟨rfl,hm,_⟩|⟨v',b,_,_,rfl,hm,_⟩
    ·rw[hm]at v;rw[v.2];exact⟨true,⟨rfl,rfl⟩,e⟩
    ·rw[hm]at v;rw[v.2];exact⟨false,⟨rfl,rfl⟩,e⟩
   ·cases e
  ·cases e
 ·split at e
  ·rename_i hp
   refine⟨false,?_,e⟩
   rcases isPtr_ok v hp with ⟨_,_,rfl⟩|⟨_,_,_,_,rfl⟩|⟨_,_,_,rfl⟩<;>exact⟨rfl,rfl⟩
  ·cases e
theorem op_eq {neg:Bool} {t:ET} {x y:SX} (e:aOp cs opn ety icall T st dst (.eq neg t x y) k=some r):OpOk prog opn R T TI c s k r dst (.eq neg t x y):=by
 by_cases hsl:t = .sl∧y = .c .nils
 ·obtain⟨rfl,rfl⟩:=hsl
  simp only[aOp]at e
  obtain⟨a,e1,e'⟩:=bind_some'.1 e
  clear e;have e:=e';clear e'
  obtain⟨iv,h1,h2⟩:=av_ok g.gf e1
  obtain⟨n,e2,hstr,e⟩:∃n,alen st.H a=some n∧(∀b,a≠.str b)∧both (n==0) (k (.val (.bool (if neg then !true else true))) st) (k (.val (.bool (if neg then !false else false))) st)=some r:=by
   unfold aNilS at e
   split at e
   ·cases e
   ·rename_i hn
    obtain⟨n,e2,e⟩:=bind_some'.1 e
    exact⟨n,e2,fun b hb=>hn b hb,e⟩
  obtain⟨q1,q2⟩:=both_some e
  obtain⟨v,hv,hn⟩:=alen_nil g g.H g.gh.blk h2 e2 hstr
  have h1':SX.ev s.1 x=some (.val iv):=by
   unfold SX.val at h1
   split at h1
   ·injection h1 with h1;subst h1;assumption
   ·cases h1
  have h3:SX.ev s.1 (.c .nils)=some (.val .nils):=rfl
  have e':k (.val (.bool (if neg then !v else v))) st=some r:=by
   cases v with
   |false=>exact q1
   |true=>exact q2 (by rw[hn rfl];rfl)
  exact .same g (sv:=.val (.bool (if neg then !v else v))) (by simp only[evOp,h1',h3,Option.bind_some,hv]) (by simp[SVa,Va]) e'
 have e:((ax T st.fr x).bind fun a=>(ax T st.fr y).bind fun b=>aEq st.H t a b fun r=>k (.val (.bool (if neg then !r else r))) st)=some r:=by
  simp only[aOp]at e
  split at e
  ·rename_i hy;exact(hsl ⟨rfl,rfl⟩).elim
  ·exact e
 obtain⟨a,e1,e'⟩:=bind_some'.1 e
 clear e;have e:=e';clear e'
 obtain⟨b,e2,e'⟩:=bind_some'.1 e
 clear e;have e:=e';clear e'
 obtain⟨sv,h1,h2⟩:=ax_ok g.gf e1
 obtain⟨sw,h3,h4⟩:=ax_ok g.gf e2
 have fin:∀{v:Bool} {kk:Option Rr},eqV t sv sw=some v→k (.val (.bool (if neg then !v else v))) st=some r→OpOk prog opn R T TI c s k r dst (.eq neg t x y):=by
  intro v kk hv e
  exact .same g (sv:=.val (.bool (if neg then !v else v))) (by simp only[evOp,h1,h3,Option.bind_some,hv]) (by simp[SVa,Va]) e
 have np:∀{a:AV} {iv:IV},Va c a iv→a = .nilp→iv = .nilp:=by rintro a iv v rfl;simpa only[Va]using v
 unfold aEq at e
 split at e
 ·split at e
  ·rename_i k0 x' y'
   obtain⟨v,e3,e'⟩:=bind_some'.1 e
   clear e;have e:=e';clear e'
   cases sv<;>simp only[SVa]at h2
   cases sw<;>simp only[SVa]at h4
   exact fin (kk:=none) (v:=v) (by simp only[eqV];exact aEqL_ok h2 h4 e3) e
  ·cases e
 ·split at e
  ·rename_i ks xs ys
   obtain⟨v,e3,e'⟩:=bind_some'.1 e
   clear e;have e:=e';clear e'
   cases sv<;>simp only[SVa,Va]at h2
   cases sw<;>simp only[SVa,Va]at h4
   obtain⟨us,rfl,h2⟩:=h2
   obtain⟨vs,rfl,h4⟩:=h4
   exact fin (kk:=none) (v:=v) (by simp only[eqV];exact aEqC_ok h2 h4 e3) e
  ·cases e
 ·split at e
  ·cases sv<;>simp only[SVa,Va]at h2
   cases sw<;>simp only[SVa,Va]at h4
   subst h2;subst h4
   exact fin (kk:=none) (v:=true) rfl e
  ·rw[←g.H]at e
   obtain⟨w,q1,q2⟩:=aNil_ok h4 g.gh.blk e
   cases sv<;>simp only[SVa,Va]at h2
   subst h2
   exact fin (kk:=none) (v:=w) q1.1 q2
  ·rw[←g.H]at e
   obtain⟨w,q1,q2⟩:=aNil_ok h2 g.gh.blk e
   cases sw<;>simp only[SVa,Va]at h4
   subst h4
   exact fin (kk:=none) (v:=w) q1.2 q2
  ·cases e
 ·cases e
 ·split at e
  ·cases sv<;>simp only[SVa,Va]at h2
   cases sw<;>simp only[SVa,Va]at h4
   subst h2;subst h4
   exact fin (kk:=none) (v:=true) rfl e
  ·cases sv<;>simp only[SVa,Va]at h2
   cases sw<;>simp only[SVa,Va]at h4
   obtain⟨_,_,rfl,_⟩:=h4
   subst h2
   exact fin (kk:=none) (v:=false) rfl e
  ·cases sv<;>simp only[SVa,Va]at h2
   cases sw<;>simp only[SVa,Va]at h4
   obtain⟨_,_,rfl,_⟩:=h2
   subst h4
   exact fin (kk:=none) (v:=false) rfl e
  ·cases e
theorem op_fadr {off:Nat} {x:SX} (e:aOp cs opn ety icall T st dst (.fadr off x) k=some r):OpOk prog opn R T TI c s k r dst (.fadr off x):=by
 simp only[aOp]at e
 obtain⟨a,e1,e'⟩:=bind_some'.1 e
 clear e;have e:=e';clear e'
 obtain⟨sv,h1,h2⟩:=ax_ok g.gf e1
 split at e
 ·rename_i hp
  rw[←g.H]at hp
  split at e
  ·rename_i t o
   cases sv<;>simp only[SVa]at h2
   obtain⟨rfl,rfl⟩:=h2
   exact .same g (sv:=.lptr _ _) (by simp only[evOp,h1,Option.bind_some];rfl) (by simp[SVa,Off.add_val]) e
  ·rename_i B o
   cases sv<;>simp only[SVa,Va]at h2
   simp only[isPtr]at hp
   split at hp
   ·rename_i wr cs' hB
    obtain⟨b,hm,rfl⟩:=h2.2.obj hB
    exact .same g (sv:=.val _) (by simp only[evOp,h1,Option.bind_some];rfl) (by simp only[SVa,Va];rw[←Off.add_val];exact⟨rfl,.mk hB hm⟩) e
   ·cases hp
  ·rename_i B i o
   cases sv<;>simp only[SVa,Va]at h2
   rcases h2.2 with h|⟨wr,hp',ln',t',l',b,hB,hm,rfl,hi⟩
   ·simp[isPtr,h]at hp
   ·exact .same g (sv:=.val _) (by simp only[evOp,h1,Option.bind_some];rfl) (by simp only[SVa,Va];exact⟨rfl,.inr ⟨wr,hp',ln',t',l',b,hB,hm,by rw[Off.add_val],hi⟩⟩) e
  ·rename_i hp' ln' cs' o
   cases sv<;>simp only[SVa,Va]at h2
   obtain⟨ee,hc,⟨bo,rfl⟩|⟨hh,b,tot,i,kk,rfl,h3,h4,h5⟩⟩:=h2
   ·exact .same g (sv:=.val _) (by simp only[evOp,h1,Option.bind_some];rfl) (by simp only[SVa,Va];exact⟨ee,hc,.inl ⟨bo,by rw[Off.add_val]⟩⟩) e
   ·exact .same g (sv:=.val _) (by simp only[evOp,h1,Option.bind_some];rfl) (by simp only[SVa,Va];exact⟨ee,hc,.inr ⟨hh,b,tot,i,kk,by rw[Off.add_val],h3,h4,h5⟩⟩) e
  ·cases e
 ·cases e
theorem acells_ok {p:ASV} {sv:SV} (v:SVa c p sv) {n:Nat} {K:List AV→Option Rr} (e:acells T st p n K=some r):∃out ivs,K out=some r∧cellsAt s sv n=some ivs∧Cas c out ivs:=by
 unfold acells at e
 split at e
 ·rename_i slot o
  cases sv<;>simp only[SVa]at v
  obtain⟨rfl,rfl⟩:=v
  split at e
  ·rename_i l hl
   obtain⟨s',h1,h2⟩:=aget_ok g.gf hl
   cases s'<;>simp only[SVa]at h2
   split at e
   ·cases e
   ·rename_i hni
    obtain⟨out,h3,h4,h5⟩:=getO_ok h2 e
    exact⟨out,_,h3,by simp only[cellsAt,h1];rw[if_pos ⟨h5,noIt h2 (by simpa using hni)⟩],h4⟩
  ·cases e
 ·rename_i hp ln l o
  cases sv<;>simp only[SVa,Va]at v
  obtain⟨ee,hc,⟨bo,rfl⟩|⟨hh,b,tot,i,kk,rfl,h3,h4,h5⟩⟩:=v
  ·obtain⟨out,q1,q2,q3⟩:=getO_ok hc e
   exact⟨out,_,q1,by simp only[cellsAt];rw[if_pos q3],q2⟩
  ·obtain⟨out,q1,q2,q3⟩:=getO_ok hc e
   exact⟨out,_,q1,by simp only[cellsAt,←g.h,h4,h5,Option.bind_some];rw[if_pos q3],q2⟩
 ·rename_i B o
  cases sv<;>simp only[SVa,Va]at v
  rw[←g.H]at e
  split at e
  next wr cs' hB=>
   obtain⟨b,hm,rfl⟩:=v.2.obj hB
   have br:=g.gh.blk B _ hB
   simp only[BR]at br
   replace br:=br.2
   obtain⟨b',hm',ee,h1,hc⟩:=br
   rw[hm]at hm';injection hm' with hm';subst hm'
   obtain⟨out,q1,q2,q3⟩:=getO_ok hc e
   refine⟨out,_,q1,?_,q2⟩
   have:hget c.h b 1=some ⟨ee.length,[ee]⟩:=hget_iff.2 ⟨h1,rfl⟩
   simp only[cellsAt,←g.h,this,Option.bind_some,List.getElem?_cons_zero]
   rw[if_pos q3]
  next=>cases e
 ·rename_i B i o
  cases sv<;>simp only[SVa,Va]at v
  rcases v.2 with h|⟨wr,hp',ln',t',l',b,hB,hm,rfl,hi⟩
  ·rw[g.H]at h;rw[h]at e;cases e
  ·rw[g.H]at hB;rw[hB]at e;simp only at e
   have br:=g.gh.blk B _ (by rw[g.H];exact hB)
   simp only[BR,hm]at br
   replace br:=br.2
   obtain⟨es,h1,h2⟩:=br
   obtain⟨x,e2,e'⟩:=bind_some'.1 e
   clear e;have e:=e';clear e'
   obtain⟨u,h3,h4⟩:=h2.get e2
   obtain⟨out,q1,q2,q3⟩:=getO_ok (cellsT_ok h4) e
   refine⟨out,_,q1,?_,q2⟩
   have:hget c.h b l'.length=some ⟨t'.n,es⟩:=hget_iff.2 ⟨h1,h2.len⟩
   simp only[cellsAt,←g.h,this,Option.bind_some,h3]
   rw[if_pos q3]
 ·cases e
theorem op_load {n:Option Nat} {x:SX} (e:aOp cs opn ety icall T st dst (.load n x) k=some r):OpOk prog opn R T TI c s k r dst (.load n x):=by
 simp only[aOp]at e
 obtain⟨a,e1,e'⟩:=bind_some'.1 e
 clear e;have e:=e';clear e'
 obtain⟨sv,h1,h2⟩:=ax_ok g.gf e1
 cases n with
 |none=>
  simp only at e
  obtain⟨out,ivs,h3,h4,h5⟩:=acells_ok g h2 e
  split at h3
  ·rename_i v
   split at h3
   ·rename_i hv
    rw[Cas.single]at h5
    obtain⟨iv,rfl,_,h6⟩:=(cell_val hv).1 h5
    exact .same g (sv:=.val iv) (by simp only[evOp,h1,Option.bind_some,h4]) (show SVa c (.val _) (.val _) from h6) h3
   ·cases h3
  ·cases h3
 |some n=>
  simp only at e
  obtain⟨out,ivs,h3,h4,h5⟩:=acells_ok g h2 e
  exact .same g (sv:=.val (.agg ivs)) (by simp only[evOp,h1,Option.bind_some,h4]) (by simp only[SVa,Va];exact⟨_,rfl,h5⟩) h3
theorem op_fld {off:Nat} {n:Option Nat} {x:SX} (e:aOp cs opn ety icall T st dst (.fld off n x) k=some r):OpOk prog opn R T TI c s k r dst (.fld off n x):=by
 simp only[aOp]at e
 obtain⟨a,e1,e'⟩:=bind_some'.1 e
 clear e;have e:=e';clear e'
 obtain⟨ix,h1,h2⟩:=av_ok g.gf e1
 cases a<;>simp only at e<;>try (cases e;done)
 simp only[Va]at h2
 obtain⟨ivs,rfl,h2⟩:=h2
 cases n with
 |none=>
  simp only at e
  obtain⟨out,h3,h4,h5⟩:=getO_ok h2 e
  split at h3
  ·split at h3
   ·rename_i v hv
    rw[Cas.single]at h4
    obtain⟨iv,h6,_,h7⟩:=(cell_val hv).1 h4
    have:=take_one h6
    simp only[Off.val]at this
    exact .same g (sv:=.val iv) (by simp only[evOp,h1,Option.bind_some,part,this]) (show SVa c (.val _) (.val _) from h7) h3
   ·cases h3
  ·cases h3
 |some n=>
  simp only at e
  obtain⟨out,h3,h4,h5⟩:=getO_ok h2 e
  simp only[Off.val]at h4 h5
  exact .same g (sv:=.val (.agg _)) (by simp only[evOp,h1,Option.bind_some,part,if_pos h5];rfl) (by simp only[SVa,Va];exact⟨_,rfl,h4⟩) h3
theorem aoff_val {i:SX} {n sz j:Nat} {o o':Off} (e:aoff i n sz j o=some o'):o'.val=o.val+j*sz:=by
 unfold aoff at e
 split at e
 ·simp at e;subst e;simp[Off.val]
 ·split at e
  ·simp at e;subst e;rw[Off.add_val]
  ·cases e
theorem op_idxA {n sz:Nat} {isAgg:Bool} {x i:SX} (e:aOp cs opn ety icall T st dst (.idxA n sz isAgg x i) k=some r):OpOk prog opn R T TI c s k r dst (.idxA n sz isAgg x i):=by
 simp only[aOp]at e
 obtain⟨a,e1,e'⟩:=bind_some'.1 e
 clear e;have e:=e';clear e'
 obtain⟨b,e2,e'⟩:=bind_some'.1 e
 clear e;have e:=e';clear e'
 obtain⟨ix,h1,h2⟩:=av_ok g.gf e1
 obtain⟨iy,h3,h4⟩:=av_ok g.gf e2
 obtain⟨j,h5,e'⟩:=aNat_ok h4 e
 clear e;have e:=e';clear e'
 cases a<;>simp only at e<;>try (cases e;done)
 simp only[Va]at h2
 obtain⟨ivs,rfl,h2⟩:=h2
 obtain⟨hj,e'⟩:=cut_some.1 e
 clear e;have e:=e';clear e'
 rw[decide_eq_true_eq]at hj
 obtain⟨o,e3,e'⟩:=bind_some'.1 e
 clear e;have e:=e';clear e'
 have ho:=aoff_val g e3
 rw[show (Off.st 0).val=0 from rfl,Nat.zero_add]at ho
 cases isAgg with
 |true=>
  simp only[if_true]at e
  obtain⟨out,h6,h7,h8⟩:=getO_ok h2 e
  rw[ho]at h7 h8
  exact .same g (sv:=.val (.agg _)) (by simp only[evOp,h1,h3,h5,Option.bind_some,if_pos hj,part,if_true,if_pos h8];rfl) (by simp only[SVa,Va];exact⟨_,rfl,h7⟩) h6
 |false=>
  simp only[Bool.false_eq_true,if_false]at e
  obtain⟨out,h6,h7,h8⟩:=getO_ok h2 e
  rw[ho]at h7 h8
  split at h6
  ·split at h6
   ·rename_i v hv
    rw[Cas.single]at h7
    obtain⟨iv,h9,_,h10⟩:=(cell_val hv).1 h7
    have:=take_one h9
    exact .same g (sv:=.val iv) (by simp only[evOp,h1,h3,h5,Option.bind_some,if_pos hj,part,Bool.false_eq_true,if_false,this]) (show SVa c (.val _) (.val _) from h10) h6
   ·cases h6
  ·cases h6
theorem op_iadr {sz:Nat} {x i:SX} (e:aOp cs opn ety icall T st dst (.iadr sz x i) k=some r):OpOk prog opn R T TI c s k r dst (.iadr sz x i):=by
 simp only[aOp]at e
 obtain⟨a,e1,e'⟩:=bind_some'.1 e
 clear e;have e:=e';clear e'
 obtain⟨b,e2,e'⟩:=bind_some'.1 e
 clear e;have e:=e';clear e'
 obtain⟨ix,h1,h2⟩:=av_ok g.gf e1
 obtain⟨iy,h3,h4⟩:=av_ok g.gf e2
 obtain⟨j,h5,e'⟩:=aNat_ok h4 e
 clear e;have e:=e';clear e'
 cases a
 case lst hp ln t l=>
  simp only at e
  split at e
  ·rename_i hsz;subst hsz
   obtain⟨x',e3,e'⟩:=bind_some'.1 e
   clear e;have e:=e';clear e'
   simp only[Va,TR]at h2
   obtain⟨iv,hh,h2⟩:=h2
   simp at hh;subst hh
   rcases h2 with ⟨rfl,_⟩|⟨bo,es,rfl,_,h2⟩|⟨hp',b',tot,off,len,cap,kk,rfl,h6,h7,h8,h9,h2⟩
   ·simp at e3
   ·obtain⟨u,h6,h7⟩:=h2.get e3
    refine .same g (sv:=.val (.rptr bo u 0)) ?_ (by simp only[SVa,Va];exact⟨u,cellsT_ok (h7.flags id (by simp)),.inl ⟨bo,rfl⟩⟩) e
    simp only[evOp,h1,h3,h5,Option.bind_some,h6,(TR.one h7).1,if_true]
   ·obtain⟨u,h10,h11⟩:=h2.get e3
    rw[List.getElem?_take]at h10
    split at h10
    ·rename_i hlt
     rw[List.getElem?_drop]at h10
     refine .same g (sv:=.val (.ptr b' tot (off+j) 0)) ?_ (by simp only[SVa,Va];exact⟨u,cellsT_ok (h11.flags id (fun _=>hp')),.inr ⟨hp',b',tot,off+j,kk,rfl,h6,h7,h10⟩⟩) e
     simp only[evOp,h1,h3,h5,Option.bind_some,←g.h,h7]
     rw[if_pos ⟨h8,hlt,h9.1⟩]
    ·cases h10
  ·cases e
 case own B=>
  simp only at e
  simp only[Va]at h2
  rcases h2.2 with h|⟨wr,hp',ln',t',l',hB,h2⟩
  ·rw[g.H]at h;rw[h]at e;cases e
  ·have hB':=hB
   rw[g.H]at hB;rw[hB]at e;simp only at e
   split at e
   ·rename_i hsz;subst hsz
    obtain⟨hj,e'⟩:=cut_some.1 e
    clear e;have e:=e';clear e'
    rw[decide_eq_true_eq]at hj
    have br:=g.gh.blk B _ hB'
    simp only[BR]at br
    replace br:=br.2
    cases hm:c.m B with
    |none=>rw[hm]at br;simp only at br;subst br;simp at hj
    |some b'=>
     rw[hm]at br h2;simp only[OwnR]at br h2;subst h2
     obtain⟨es,h6,h7⟩:=br
     have hl:=h7.len
     refine .same g (sv:=.val (.ptr b' l'.length (0+j) 0)) ?_ (by simp only[SVa,Va];exact⟨rfl,.inr ⟨wr,hp',ln',t',l',b',hB',hm,by simp[Off.val],hj⟩⟩) e
     have:hget c.h b' l'.length=some ⟨t'.n,es⟩:=hget_iff.2 ⟨h6,hl⟩
     simp only[evOp,h1,h3,h5,Option.bind_some,←g.h,this]
     rw[if_pos ⟨trivial,hj,by omega⟩]
   ·cases e
 case sub B off len cap=>
  simp only at e
  simp only[Va]at h2
  rcases h2.2 with h|⟨wr,hp',ln',t',l',hB,h2⟩
  ·rw[g.H]at h;rw[h]at e;cases e
  ·have hB':=hB
   rw[g.H]at hB;rw[hB]at e;simp only at e
   split at e
   ·rename_i hsz;subst hsz
    obtain⟨hj,e'⟩:=cut_some.1 e
    clear e;have e:=e';clear e'
    rw[decide_eq_true_eq]at hj
    have br:=g.gh.blk B _ hB'
    simp only[BR]at br
    replace br:=br.2
    obtain⟨h2a,h2b,h2⟩:=h2
    cases hm:c.m B with
    |none=>rw[hm]at h2;simp only at h2;omega
    |some b'=>
     rw[hm]at br h2;simp only at br h2;subst h2
     obtain⟨es,h6,h7⟩:=br
     have hl:=h7.len
     refine .same g (sv:=.val (.ptr b' l'.length (off+j) 0)) ?_ (by simp only[SVa,Va];exact⟨rfl,.inr ⟨wr,hp',ln',t',l',b',hB',hm,rfl,by omega⟩⟩) e
     have:hget c.h b' l'.length=some ⟨t'.n,es⟩:=hget_iff.2 ⟨h6,hl⟩
     simp only[evOp,h1,h3,h5,Option.bind_some,←g.h,this]
     rw[if_pos ⟨trivial,hj⟩]
   ·cases e
 all_goals (simp only at e;cases e)
theorem op_iadrA {n sz:Nat} {x i:SX} (e:aOp cs opn ety icall T st dst (.iadrA n sz x i) k=some r):OpOk prog opn R T TI c s k r dst (.iadrA n sz x i):=by
 simp only[aOp]at e
 obtain⟨a,e1,e'⟩:=bind_some'.1 e
 clear e;have e:=e';clear e'
 obtain⟨b,e2,e'⟩:=bind_some'.1 e
 clear e;have e:=e';clear e'
 obtain⟨sv,h1,h2⟩:=ax_ok g.gf e1
 obtain⟨iy,h3,h4⟩:=av_ok g.gf e2
 obtain⟨j,h5,e'⟩:=aNat_ok h4 e
 clear e;have e:=e';clear e'
 obtain⟨hj,e'⟩:=cut_some.1 e
 clear e;have e:=e';clear e'
 rw[decide_eq_true_eq]at hj
 split at e
 ·obtain⟨o,e3,e'⟩:=bind_some'.1 e
  clear e;have e:=e';clear e'
  have ho:=aoff_val g e3
  cases sv<;>simp only[SVa]at h2
  obtain⟨rfl,rfl⟩:=h2
  exact .same g (sv:=.lptr _ _) (by simp only[evOp,h1,h3,h5,Option.bind_some,if_pos hj];rfl) (by simp[SVa,ho]) e
 ·split at e
  ·cases e
  ·rename_i hp
   obtain⟨o,e3,e'⟩:=bind_some'.1 e
   clear e;have e:=e';clear e'
   have ho:=aoff_val g e3
   cases sv<;>simp only[SVa,Va]at h2
   obtain⟨ee,hc,⟨bo,rfl⟩|⟨hh,_⟩⟩:=h2
   ·exact .same g (sv:=.val _) (by simp only[evOp,h1,h3,h5,Option.bind_some,if_pos hj];rfl) (by simp only[SVa,Va];exact⟨ee,hc,.inl ⟨bo,by rw[ho]⟩⟩) e
   ·exact(hp hh).elim
 ·rename_i B o0
  cases sv<;>simp only[SVa,Va]at h2
  rw[←g.H]at e
  split at e
  next wr cs' hB'=>
   obtain⟨b',hm,rfl⟩:=h2.2.obj hB'
   obtain⟨hw,e'⟩:=cut_some.1 e
   clear e;have e:=e';clear e'
   rw[decide_eq_true_eq]at hw
   obtain⟨o,e3,e'⟩:=bind_some'.1 e
   clear e;have e:=e';clear e'
   have ho:=aoff_val g e3
   have br:=g.gh.blk B _ hB'
   simp only[BR]at br
   replace br:=br.2
   obtain⟨b'',hm',ee,h6,hc⟩:=br
   rw[hm]at hm';injection hm' with hm';subst hm'
   have hl:=(Cas.len hc).1
   have hg:hget c.h b' 1=some ⟨ee.length,[ee]⟩:=hget_iff.2 ⟨h6,rfl⟩
   refine .same g (sv:=.val (.ptr b' 1 0 o.val)) ?_ (by simp only[SVa,Va];exact⟨rfl,.mk hB' hm⟩) e
   simp only[evOp,h1,h3,h5,Option.bind_some,if_pos hj,←g.h,hg]
   split
   ·rename_i hc2
    obtain⟨q1,q2,q3,q4⟩:=hc2
    have:j=0:=by omega
    subst this
    rw[ho,q3];simp
   ·rw[if_pos (by rw[hl];exact hw),ho]
  next=>cases e
 ·cases e
theorem op_len {isStr:Bool} {x:SX} (e:aOp cs opn ety icall T st dst (.len isStr x) k=some r):OpOk prog opn R T TI c s k r dst (.len isStr x):=by
 simp only[aOp]at e
 obtain⟨a,e1,e'⟩:=bind_some'.1 e
 clear e;have e:=e';clear e'
 obtain⟨ix,h1,h2⟩:=av_ok g.gf e1
 split at e
 ·simp only[Va]at h2;subst h2
  exact .same g (sv:=.val _) (by simp only[evOp,h1,Option.bind_some];rfl) (by simp[SVa,Va]) e
 ·cases e
 ·rename_i a' hns
  obtain⟨n,e2,e'⟩:=bind_some'.1 e
  clear e;have e:=e';clear e'
  have hl:=alen_ok g.H g.gh.blk h2 e2
  refine .same g (sv:=.val (.int .i64 n)) ?_ (by simp[SVa,Va]) e
  simp only[evOp,h1,Option.bind_some]
  cases ix<;>first|(simp only[hl,Option.bind_some];done)|skip
  exfalso
  cases a
  case str b0=>exact hns b0 rfl
  case nils=>simp only[Va]at h2;rcases h2 with h|h<;>cases h
  case lst hp ln t l0=>
   simp only[Va,TR]at h2
   obtain⟨iv,h,h2⟩:=h2
   simp at h;subst h
   rcases h2 with ⟨_,h|h⟩|⟨_,_,h,_⟩|⟨_,_,_,_,_,_,_,h,_⟩<;>cases h
  case own B=>
   simp only[Va]at h2
   rcases h2.2 with h|⟨_,_,_,_,_,hB,h⟩
   ·rw[g.H]at h;simp only[alen,h]at e2;cases e2
   ·unfold OwnR at h;split at h
    ·rcases h with h|h<;>cases h
    ·cases h
  case own2 B=>
   simp only[Va,Own2R]at h2
   simp only[alen]at e2
   rw[←g.H]at e2
   split at e2
   ·rename_i hB
    rw[hB]at h2
    have h:=h2.2
    simp only at h
    unfold OwnR at h;split at h
    ·rcases h with h|h<;>cases h
    ·cases h
   ·cases e2
  case sub B _ _ _=>
   simp only[Va]at h2
   rcases h2.2 with h|⟨_,_,_,_,_,hB,h⟩
   ·rw[g.H]at h;simp only[alen,h]at e2;cases e2
   ·unfold SubR at h;obtain⟨_,_,h⟩:=h;split at h
    ·rcases h.1 with h|h<;>cases h
    ·cases h
  all_goals (simp only[alen]at e2;cases e2)
 ·cases e
theorem op_lenA {n:Nat} (e:aOp cs opn ety icall T st dst (.lenA n) k=some r):OpOk prog opn R T TI c s k r dst (.lenA n):=by
 simp only[aOp]at e
 exact .same g (sv:=.val _) (by simp only[evOp];rfl) (by simp[SVa,Va]) e
theorem op_mn {x y:SX} (e:aOp cs opn ety icall T st dst (.mn x y) k=some r):OpOk prog opn R T TI c s k r dst (.mn x y):=by
 simp only[aOp]at e
 obtain⟨a,e1,e'⟩:=bind_some'.1 e
 clear e;have e:=e';clear e'
 obtain⟨b,e2,e'⟩:=bind_some'.1 e
 clear e;have e:=e';clear e'
 obtain⟨ix,h1,h2⟩:=av_ok g.gf e1
 obtain⟨iy,h3,h4⟩:=av_ok g.gf e2
 split at e
 ·simp only[Va]at h2 h4;subst h2;subst h4
  exact .same g (sv:=.val _) (by simp only[evOp,h1,h3,Option.bind_some];rfl) (by simp[SVa,Va]) e
 ·cases e
theorem op_mx {x y:SX} (e:aOp cs opn ety icall T st dst (.mx x y) k=some r):OpOk prog opn R T TI c s k r dst (.mx x y):=by
 simp only[aOp]at e
 obtain⟨a,e1,e'⟩:=bind_some'.1 e
 clear e;have e:=e';clear e'
 obtain⟨b,e2,e'⟩:=bind_some'.1 e
 clear e;have e:=e';clear e'
 obtain⟨ix,h1,h2⟩:=av_ok g.gf e1
 obtain⟨iy,h3,h4⟩:=av_ok g.gf e2
 split at e
 ·simp only[Va]at h2 h4;subst h2;subst h4
  exact .same g (sv:=.val _) (by simp only[evOp,h1,h3,Option.bind_some];rfl) (by simp[SVa,Va]) e
 ·cases e
end
end Go.Ideal
