/- A typed evaluator: it runs the resolved code over values of Lean's own types, and gives a plain function. -/
import Derived.Test.YtiiibbnififbpaaLb
set_option linter.unusedVariables false
set_option linter.unusedSimpArgs false
set_option linter.unusedSectionVars false
namespace Go.Ideal
deriving instance DecidableEq for SX,LK,ET,gQ,cH
inductive OK where
 |own
 |obj
 |opt
 |root (i:Nat)
 deriving DecidableEq,Inhabited
@[reducible] def OK.den : OK -> Type -> Type
  |.own,t=>List t
  |.obj,t=>t
  |.opt,t=>Option t
  |.root _,_=>Unit
inductive Ty where
 |int (k:IntKind)
 |bool
 |str
 |unit
 |lst (t:Ty)
 |pair (a b:Ty)
 |arr (n:Nat) (t:Ty)
 |ow (k:OK) (t:Ty)
 deriving DecidableEq,Inhabited
@[reducible] def Ty.den : Ty -> Type
  |.int _=>Int
  |.bool=>Bool
  |.str=>List UInt8
  |.unit=>Unit
  |.lst t=>List t.den
  |.pair a b=>a.den×b.den
  |.arr _ t=>List t.den
  |.ow k t=>k.den t.den
def Ty.n:Ty->Nat
 |.unit=>0
 |.pair a b=>a.n+b.n
 |.arr n t=>n*t.n
 |_=>1
def Ty.dep:Ty->Nat
 |.lst t=>t.dep+1
 |.ow _ t=>t.dep+1
 |.pair a b=>max a.dep b.dep
 |.arr _ t=>t.dep
 |_=>0
def Ty.flat:Ty->Bool
 |.lst _=>false
 |.ow _ _=>false
 |.pair a b=>a.flat&&b.flat
 |.arr _ t=>t.flat
 |_=>true
def Ty.pur:Ty->Bool
 |.lst t=>t.pur
 |.pair a b=>a.pur&&b.pur
 |.arr _ t=>t.pur
 |.ow _ _=>false
 |_=>true
inductive kT where
 |st (o:Nat)
 |dyn (o n sz i o2:Nat)
def kT.val:kT->Nat
 |.st o=>o
 |.dyn o _ sz i o2=>o+i*sz+o2
def kT.add:kT->Nat->kT
 |.st o,d=>.st (o+d)
 |.dyn o n sz i o2,d=>.dyn o n sz i (o2+d)
inductive AV where
 |int (k:IntKind) (x:Int)
 |bool (b:Bool)
 |str (s:List UInt8)
 |nils
 |lst (hp ln:Bool) (t:Ty) (l:List t.den)
 |own (B:Nat)
 |own2 (B:Nat)
 |sub (B off len cap:Nat)
 |nilp
 |ptr (B:Nat) (o:kT)
 |eptr (B i:Nat) (o:kT)
  |eptr2 (B i:Nat) (o:kT)
 |rptr (hp ln:Bool) (cs:List AV) (o:kT)
 |arr (hp ln:Bool) (n:Nat) (t:Ty) (l:List t.den)
 |agg (cs:List AV)
 |tup (vs:List AV)
 |fn (f:Nat) (a b:List AV)
 |nilf
 |mark
  |any
  |iface (t:Nat) (v:AV)
 |kown (B:Nat)
 |keptr (B i o:Nat)
  |klit (cs:List AV)
inductive jY where
 |arr (wr hp ln:Bool) (t:Ty) (l:List t.den)
 |obj (wr:Bool) (cs:List AV)
 |gone
  |arr2 (wr:Bool) (t:Ty) (l:List t.den) (op:Option (Nat×List AV))
 |fold (wr:Bool) (t:Ty) (x:Option t.den)
 |rt (i B:Nat)
  |kns (wr:Bool) (sz:Nat) (es:List (List AV))
inductive dP where
 |val (a:AV)
 |box (cs:List AV)
 |lptr (slot:Nat) (o:kT)
 |cst (i:Nat)
abbrev gZ:=List (Nat×dP)
def gZ.get:gZ->Nat->Option dP
 |[],_=>none
 |(k,v)::r,t=>if k=t then some v else gZ.get r t
def gZ.put (σ:gZ) (t:Nat) (v:dP):gZ:=(t,v)::σ
def gZ.keep (σ:gZ):List Nat->gZ
 |[]=>[]
 |t::ts=>match σ.get t with
  |some (.val v)=>(t,.val v)::σ.keep ts
  |some (.box cs)=>(t,.box cs)::σ.keep ts
  |some (.cst i)=>(t,.cst i)::σ.keep ts
  |_=>σ.keep ts
abbrev eB:=List jY
structure gJ where
 fr:gZ
 H:eB
mutual
def AV.refs:AV->List Nat
 |.own B=>[B]
 |.own2 B=>[B]
 |.sub B _ _ _=>[B]
 |.agg cs=>AV.refsL cs
 |.tup cs=>AV.refsL cs
 |.iface _ v=>v.refs
 |.kown B=>[B]
 |_=>[]
def AV.refsL:List AV->List Nat
 |[]=>[]
 |x::r=>x.refs++AV.refsL r
end
def AV.one:AV->Bool
 |.agg _=>false
 |.tup _=>false
 |.arr ..=>false
 |_=>true
mutual
def pU:IV->Option AV
 |.bool b=>some (.bool b)
 |.int k n=>some (.int k n)
 |.str s=>some (.str s)
 |.nils=>some .nils
 |.nilp=>some .nilp
 |.nilf=>some .nilf
 |.nili=>some .any
 |.agg cs=>(mN cs).bind fun l=>if l.all AV.one then some (.agg l) else none
 |.tup cs=>(mN cs).bind fun l=>some (.tup l)
 |_=>none
def mN:List IV->Option (List AV)
 |[]=>some []
 |x::xs=>(pU x).bind fun y=>(mN xs).bind fun ys=>some (y::ys)
end
def AV.w:AV->Nat
 |.arr _ _ n t _=>n*t.n
 |_=>1
def mA:List AV->Nat
 |[]=>0
 |c::r=>c.w+mA r
def AV.flat:AV->Option (List AV)
 |.agg cs=>some cs
 |.tup _=>none
 |.arr ..=>none
 |v=>some [v]
def dF (hp ln:Bool):(t:Ty)->t.den->List AV
 |.int k,x=>[.int k x]
 |.bool,x=>[.bool x]
 |.str,x=>[.str x]
 |.unit,_=>[]
 |.lst t,l=>[.lst hp ln t l]
 |.pair a b,x=>dF hp ln a x.1++dF hp ln b x.2
 |.arr n t,l=>[.arr hp ln n t l]
 |.ow _ _,_=>[]
def gE:List AV->Nat->Option (List AV×List AV)
 |cs,0=>some ([],cs)
 |[],_+1=>none
 |c::r,n+1=>if c.w≤n+1 then (gE r (n+1-c.w)).bind fun x=>some (c::x.1,x.2) else none
def Ty.strip:Ty->Ty
 |.pair a b=>.pair a.strip b.strip
 |.ow .own t=>.lst t.strip
 |t=>t
def Ty.noLst:Ty->Bool
 |.pair a b=>a.noLst&&b.noLst
 |.ow .own t=>t.noLst
 |.ow _ _=>false
 |.lst _=>false
 |.arr _ t=>t.flat
 |_=>true
def Ty.sOk:Ty->Bool
 |.pair a b=>a.sOk&&b.sOk
 |.ow .own t=>t.sOk
 |.ow _ _=>false
 |.lst t=>t.pur
 |.arr _ t=>t.pur
 |_=>true
theorem eJ:∀{t:Ty},t.sOk=true->t.den=t.strip.den
 |.pair a b,h=>by
  simp only[Ty.sOk,aF]at h
  simp only[Ty.strip,Ty.den]
  rw[eJ h.1,eJ h.2]
 |.ow .own t,h=>by
  simp only[Ty.sOk]at h
  simp only[Ty.strip,Ty.den]
  rw[eJ h]
 |.ow .obj t,h=>by cases h
 |.ow .opt t,h=>by cases h
 |.ow (.root i) t,h=>by cases h
 |.int _,_=>rfl
 |.bool,_=>rfl
 |.str,_=>rfl
 |.unit,_=>rfl
 |.lst _,_=>rfl
 |.arr _ _,_=>rfl
theorem Jq:∀{t:Ty},t.strip.n=t.n
 |.pair a b=>by simp only[Ty.strip,Ty.n,Jq]
 |.ow .own t=>rfl
 |.ow .obj t=>rfl
 |.ow .opt t=>rfl
 |.ow (.root i) t=>rfl
 |.int _=>rfl
 |.bool=>rfl
 |.str=>rfl
 |.unit=>rfl
 |.lst _=>rfl
 |.arr _ _=>rfl
def castT {a b:Ty} (h:a=b) (x:a.den):b.den:=h▸x
def oM {a b:Ty} (h:a=b) (x:List a.den):List b.den:=h▸x
def Jn (H:eB) (t:Ty):AV->Option (List t.den)
 |.nils=>some []
 |.lst _ _ t' l=>if h:t'=t then some (oM h l) else none
 |.own B=>match H[B]? with
  |some (.arr _ _ _ t' l)=>if h:t'=t then some (oM h l) else none
  |_=>none
 |.sub B off len _=>match H[B]? with
  |some (.arr _ _ _ t' l)=>if h:t'=t then some ((oM h l).drop off |>.take len) else none
  |_=>none
 |.str s=>if h:.int .u8=t then some (oM h (s.map fun c=>(c.toNat:Int))) else none
 |_=>none
def Ob (H:eB) (t:Ty):AV->Option (List t.den)
 |.own2 B=>match H[B]? with
  |some (.arr2 _ t' l none)=>if h:t'.sOk=true/\t'.strip=t then some (oM h.2 (cast (congrArg List (eJ h.1)) l)) else none
  |_=>none
 |a=>Jn H t a
def pY (k:IntKind):List AV->Option (List Int)
 |[]=>some []
 |.int k' x::r=>if k'=k then (pY k r).bind fun l=>some (x::l) else none
 |_=>none
def Hr (n:Nat) (cs:List AV):(t:Ty)->Option (List t.den×List AV)
 |.int k=>(gE cs n).bind fun x=>(pY k x.1).bind fun l=>if l.length=n then some (l,x.2) else none
 |_=>none
def Oc (n:Nat) (t:Ty) (cs:List AV):Option (List t.den×List AV):=
 match cs with
 |.arr _ _ n' t' l::r=>if h:t'=t then if n'=n then some (oM h l,r) else none else none
 |cs=>Hr n cs t
def oC (H:eB):(t:Ty)->List AV->Option (t.den×List AV)
 |.int k,.int k' x::r=>if k'=k then some (x,r) else none
 |.bool,.bool x::r=>some (x,r)
 |.str,.str x::r=>some (x,r)
 |.unit,r=>some ((),r)
 |.lst t,.str _::r=>none
 |.lst t,a::r=>(Ob H t a).bind fun l=>some (l,r)
 |.pair a b,cs=>(oC H a cs).bind fun x=>(oC H b x.2).bind fun y=>some ((x.1,y.1),y.2)
 |.arr n t,cs=>Oc n t cs
 |_,_=>none
def AV.hpF (H:eB):AV->Bool
 |.lst hp _ _ _=>hp
 |.own _=>true
 |.own2 _=>true
 |.any=>true
 |.sub ..=>true
 |.rptr hp _ _ _=>hp
 |.arr hp _ _ _ _=>hp
 |.ptr ..=>true
 |.eptr ..=>true
 |.eptr2 ..=>true
 |.fn ..=>true
 |.agg _=>true
 |.tup _=>true
 |.iface ..=>true
 |.kown _=>true
 |.keptr ..=>true
 |.klit _=>true
 |_=>false
def AV.lnF (H:eB):AV->Bool
 |.lst _ ln _ _=>ln
 |.own B=>match H[B]? with
  |some (.arr _ _ ln t _)=>ln&& !t.flat
  |_=>true
 |.sub B _ _ _=>match H[B]? with
  |some (.arr _ _ ln t _)=>ln&& !t.flat
  |_=>true
 |.own2 B=>match H[B]? with
  |some (.arr2 _ t _ _)=>!t.noLst
  |_=>true
 |.arr _ ln _ _ _=>ln
 |.rptr _ ln _ _=>ln
 |.int ..=>false
 |.bool _=>false
 |.str _=>false
 |.nils=>false
 |.nilp=>false
 |.nilf=>false
 |.mark=>false
 |_=>true
def oG (H:eB) (l:List AV):Bool:=l.any (·.hpF H)
def nB (H:eB) (l:List AV):Bool:=l.any (·.lnF H)
def AV.hpV (H:eB):AV->Bool
 |.agg cs=>oG H cs
 |a=>a.hpF H
def AV.lnV (H:eB):AV->Bool
 |.agg cs=>nB H cs
 |a=>a.lnF H
def Dn (H:eB) (l:List AV):Bool:=l.any (·.lnV H)
def Qh (H:eB) (l:List AV):Bool:=l.any (·.hpV H)
def cW:List Ty->Ty
 |[]=>.unit
 |[t]=>t
 |t::u::r=>.pair t (cW (u::r))
def Kl:(t:Ty)->(r:List Ty)->t.den->(cW r).den->(cW (t::r)).den
 |_,[],x,_=>x
 |_,_::_,x,y=>(x,y)
def headD:(t:Ty)->(r:List Ty)->(cW (t::r)).den->t.den
 |_,[],x=>x
 |_,_::_,x=>x.1
def Jp:(t:Ty)->(r:List Ty)->(cW (t::r)).den->(cW r).den
 |_,[],_=>()
 |_,_::_,x=>x.2
structure qL where
 agg:Bool
 t:Ty
 deriving DecidableEq,Inhabited
def ofV (hp ln:Bool) (v:qL) (x:v.t.den):Option AV:=
 if v.agg then some (.agg (dF hp ln v.t x)) else match dF hp ln v.t x with
  |[a]=>if a.one then some a else none
  |_=>none
def Yk (H:eB) (v:qL) (a:AV):Option v.t.den:=
 (if v.agg then match a with | .agg cs=>oC H v.t cs|_=>none
  else if a.one then oC H v.t [a] else none).bind fun x=>match x.2 with
   |[]=>some x.1
   |_=>none
def Cy (H:eB):(vs:List qL)->List AV->Option (cW (vs.map (·.t))).den
 |[],[]=>some ()
 |v::vs,a::as=>(Yk H v a).bind fun x=>(Cy H vs as).bind fun y=>some (Kl v.t (vs.map (·.t)) x y)
 |_,_=>none
def Dl (hp ln:Bool):(vs:List qL)->(cW (vs.map (·.t))).den->Option (List AV)
 |[],_=>some []
 |v::vs,x=>(ofV hp ln v (headD v.t (vs.map (·.t)) x)).bind fun a=>(Dl hp ln vs (Jp v.t (vs.map (·.t)) x)).bind fun as=>some (a::as)
structure Ct where
 args:List qL
 res:List qL
 fresh:Bool
 F:(cW (args.map (·.t))).den->Option (cW (res.map (·.t))).den
section
variable {R:Type}
def cut (b:Bool) (k:Option R):Option R:=bif b then k else none
def Qi (cs:List AV) (o n:Nat) (k:List AV->Option R):Option R:=(gE cs o).bind fun x=>(gE x.2 n).bind fun y=>k y.1
def Li (cs:List AV) (o:Nat) (new:List AV) (k:List AV->Option R):Option R:=(gE cs o).bind fun x=>(gE x.2 (mA new)).bind fun y=>k (x.1++new++y.2)
def Dw (cs:List AV) (o:kT) (n:Nat) (k:List AV->Option R):Option R:=
 match o with
 |.st o=>Qi cs o n k
 |.dyn o m sz i o2=>(gE cs o).bind fun x=>(gE x.2 (m*sz)).bind fun y=>
  match y.1 with
  |[.arr hp ln m' t l]=>if m'=m/\t.n=sz then (l[i]?).bind fun e=>(gE (dF hp ln t e) o2).bind fun u=>(gE u.2 n).bind fun v=>k v.1 else none
  |.int kd a::r=>if sz=1/\o2=0/\n=1 then (pY kd (.int kd a::r)).bind fun l=>if l.length=m then (l[i]?).bind fun e=>k [.int kd e] else none else Qi cs (o+i*sz+o2) n k
  |_=>Qi cs (o+i*sz+o2) n k
def Lj (H:eB) (cs:List AV) (o:kT) (new:List AV) (k:List AV->Option R):Option R:=
 match o with
 |.st o=>Li cs o new k
 |.dyn o m sz i o2=>(gE cs o).bind fun x=>(gE x.2 (m*sz)).bind fun y=>
  match y.1 with
  |[.arr hp ln m' t l]=>if m'=m/\t.n=sz/\AV.refsL new=[] then (l[i]?).bind fun e=>(gE (dF hp ln t e) o2).bind fun u=>(gE u.2 (mA new)).bind fun v=>
     (oC H t (u.1++new++v.2)).bind fun z=>match z.2 with
       |[]=>k (x.1++[.arr (hp||oG H new) (ln||nB H new) m t (l.set i z.1)]++y.2)
       |_=>none
     else none
  |.int kd a::r=>match new with
   |[.int kd' v]=>if sz=1/\o2=0/\kd'=kd then (pY kd (.int kd a::r)).bind fun l=>if l.length=m then cut (decide (i<m)) (k (x.1++[.arr false false m (.int kd) (l.set i v)]++y.2)) else none else Li cs (o+i*sz+o2) new k
   |_=>Li cs (o+i*sz+o2) new k
  |_=>Li cs (o+i*sz+o2) new k
def mF (T:List dP) (σ:gZ) (n:Nat):Option dP:=
 match σ.get n with
 |some (.cst i)=>T[i]?
 |r=>r
def ax (T:List dP) (σ:gZ):SX->Option dP
 |.t n=>match mF T σ n with
  |some (.box _)=>some (.lptr n (.st 0))
  |r=>r
 |.c v=>(pU v).bind fun a=>some (.val a)
 |.f id=>some (.val (.fn id [] []))
def av (T:List dP) (σ:gZ) (x:SX):Option AV:=
 match ax T σ x with
 |some (.val v)=>some v
 |_=>none
def Vp (T:List dP) (σ:gZ) (xs:List SX):Option (List AV):=dM (fun x=>av T σ x) xs
def wV (T:List dP) (σ:gZ) (t:Nat):Bool:=match σ.get t with
 |some (.box _)=>false
 |some (.cst i)=>(match T[i]? with
  |some (.val _)=>true
  |_=>false)
 |_=>true
def Ky (op:BinOp) (k:IntKind) (a b:Int) (K:AV->Option R):Option R:=
 match op with
 |.add=>K (.int k (k.wrap (a+b)))
 |.sub=>K (.int k (k.wrap (a-b)))
 |.mul=>K (.int k (k.wrap (a*b)))
 |.quo=>bif decide (b=0) then none else K (.int k (k.wrap (a.tdiv b)))
 |.rem=>bif decide (b=0) then none else K (.int k (a.tmod b))
 |.and=>K (.int k (k.wrap (BitVec.ofInt k.bits a&&&BitVec.ofInt k.bits b).toNat))
 |.or=>K (.int k (k.wrap (BitVec.ofInt k.bits a|||BitVec.ofInt k.bits b).toNat))
 |.xor=>K (.int k (k.wrap (BitVec.ofInt k.bits a ^^^ BitVec.ofInt k.bits b).toNat))
 |.andNot=>K (.int k (k.wrap (BitVec.ofInt k.bits a&&&~~~ BitVec.ofInt k.bits b).toNat))
 |.shl=>bif decide (b<0) then none else K (.int k (k.wrap (a*2^min b.toNat k.bits)))
 |.shr=>bif decide (b<0) then none else K (.int k (a.fdiv (2^min b.toNat k.bits)))
 |.eql=>K (.bool (a==b))
 |.neq=>K (.bool (a != b))
 |.lss=>K (.bool (decide (a<b)))
 |.leq=>K (.bool (decide (a≤b)))
 |.gtr=>K (.bool (decide (a>b)))
 |.geq=>K (.bool (decide (a≥b)))
def Rh (op:BinOp) (a b:List UInt8) (K:AV->Option R):Option R:=
 match op with
 |.add=>bif decide (((a.length+b.length:Nat):Int)>IntKind.i64.max) then none else K (.str (a++b))
 |.eql=>K (.bool (a==b))
 |.neq=>K (.bool (!(a==b)))
 |.lss=>K (.bool (Op.bytesLess a b))
 |.leq=>K (.bool (Op.bytesLess a b||a==b))
 |.gtr=>K (.bool (!(Op.bytesLess a b||a==b)))
 |.geq=>K (.bool (!Op.bytesLess a b))
 |_=>none
def Ye (op:BinOp) (x y:AV) (K:AV->Option R):Option R:=
 match x,y with
 |.int k a,.int l b=>if fW op||decide (k=l) then Ky op k a b K else none
 |.str a,.str b=>Rh op a b K
 |_,_=>none
def aUn (op:UnOp) (x:AV) (K:AV->Option R):Option R:=
 match op,x with
 |.neg,.int k n=>K (.int k (k.wrap (0-n)))
 |.xor,.int k n=>Ky .xor k (if k.signed then -1 else k.max) n K
 |.not,.bool b=>K (.bool (!b))
 |_,_=>none
def Rc:LK->AV->AV->Option Bool
 |.i k,.int l a,.int m b=>if k=l/\k=m then some (a==b) else none
 |.b,.bool a,.bool b=>some (a==b)
 |.s,.str a,.str b=>some (a==b)
 |_,_,_=>none
def Nc (k:IntKind):List LK->Nat->Option (List LK)
 |ks,0=>some ks
 |.i k'::ks,n+1=>if k'=k then Nc k ks n else none
 |_,_=>none
def Rd:List LK->List AV->List AV->Option Bool
 |ks,.arr _ _ n (.int k) l::xs,.arr _ _ n' (.int k') l'::ys=>if k'=k/\n'=n then (Nc k ks n).bind fun ks'=>(Rd ks' xs ys).bind fun b=>some ((l==l')&&b) else none
 |ks,.arr _ _ n (.int k) l::xs,ys=>(gE ys n).bind fun y=>(pY k y.1).bind fun l'=>if l'.length=n then (Nc k ks n).bind fun ks'=>(Rd ks' xs y.2).bind fun b=>some ((l==l')&&b) else none
 |[],[],[]=>some true
 |k::ks,x::xs,y::ys=>(Rc k x y).bind fun a=>(Rd ks xs ys).bind fun b=>some (a&&b)
 |_,_,_=>none
def qY (H:eB):dP->Bool
 |.lptr ..=>true
 |.val (.ptr B _)=>(match H[B]? with
  |some (.obj ..)=>true
  |_=>false)
 |.val (.eptr B _ _)=>(match H[B]? with
  |some (.arr ..)=>true
  |_=>false)
 |.val (.rptr ..)=>true
 |_=>false
def Us (H:eB) (x:dP) (K:Bool->Option R):Option R:=match x with
 |.val (.ptr B o)=>(match H[B]? with
  |some (.obj ..)=>K false
  |some (.fold _ _ x)=>match o with
   |.st 0=>K x.isNone
   |_=>none
  |_=>none)
 |x=>if qY H x then K false else none
def aEq (H:eB) (t:ET) (x y:dP) (K:Bool->Option R):Option R:=
 match t with
 |.leaf k=>match x,y with
  |.val x,.val y=>(Rc k x y).bind K
  |_,_=>none
 |.cells ks=>match x,y with
  |.val (.agg xs),.val (.agg ys)=>(Rd ks xs ys).bind K
  |_,_=>none
 |.ptr=>match x,y with
  |.val .nilp,.val .nilp=>K true
  |.val .nilp,y=>Us H y K
  |x,.val .nilp=>Us H x K
  |_,_=>none
 |.sl=>none
 |.fnc=>match x,y with
  |.val .nilf,.val .nilf=>K true
  |.val .nilf,.val (.fn ..)=>K false
  |.val (.fn ..),.val .nilf=>K false
  |_,_=>none
def Ej (x:AV) (K:Nat->Option R):Option R:=match x with
 |.int _ n=>bif decide (0≤n) then K n.toNat else none
 |_=>none
def sC (T:List dP) (σ:gZ) (d:Nat) (K:Nat->Option R):Option SX->Option R
 |none=>K d
 |some x=>(av T σ x).bind fun a=>Ej a K
def uV (H:eB):AV->Option Nat
 |.nils=>some 0
 |.lst _ _ _ l=>some l.length
 |.own B=>match H[B]? with
  |some (.arr _ _ _ _ l)=>some l.length
  |_=>none
 |.own2 B=>match H[B]? with
  |some (.arr2 _ _ l _)=>some l.length
  |_=>none
 |.sub B _ len _=>match H[B]? with
  |some (.arr _ _ _ _ _)=>some len
  |_=>none
 |.str s=>some s.length
 |.kown B=>match H[B]? with
  |some (.kns _ _ es)=>some es.length
  |_=>none
 |_=>none
noncomputable def As {R:Type} (c:Bool) (a b:Option R):Option R:=open Classical in if c=true->a=b then b else none
theorem Kq {R:Type} {c:Bool} {a b:Option R} (h:c=true->a=b):As c a b=b:=by unfold As;rw[if_pos h]
theorem Mz {R:Type} {c:Bool} {a:Option R}:As c a a=a:=Kq fun _=>rfl
theorem My {R:Type} {c:Bool} {a b:Option R} {r:R} (e:As c a b=some r):b=some r/\(c=true->a=some r):=by
 unfold As at e
 split at e
 ·rename_i h;exact⟨e,fun hc=>(h hc).trans e⟩
 ·cases e
noncomputable def Vq {R:Type} (H:eB) (a:AV) (K:Bool->Option R):Option R:=match a with
 |.str _=>none
 |a=>(uV H a).bind fun n=>As (n==0) (K true) (K false)
def Uo (i:SX) (n sz j:Nat) (o:kT):Option kT:=match o with
 |.st o=>some (.dyn o n sz j 0)
 |o=>match i with
  |.c _=>some (o.add (j*sz))
  |_=>none
def Lg (H:eB) (t:Ty):List (List AV)->Option (List t.den)
 |[]=>some []
 |e::r=>(oC H t e).bind fun x=>match x.2 with
  |[]=>(Lg H t r).bind fun l=>some (x.1::l)
  |_=>none
def wD (T:List dP) (σ:gZ) (sz:Nat) (es:List (List AV)):List (Nat×SX)->Option (List (List AV))
 |[]=>some es
 |(i,x)::r=>(av T σ x).bind fun v=>v.flat.bind fun vs=>if mA vs=sz/\i<es.length then wD T σ sz (es.set i vs) r else none
def zW (T:List dP) (σ:gZ) (cs:List AV):List (Nat×Nat×SX)->Option (List AV)
 |[]=>some cs
 |(off,n,x)::r=>(av T σ x).bind fun v=>v.flat.bind fun vs=>if mA vs=n then
    (gE cs off).bind fun u=>(gE u.2 n).bind fun w=>zW T σ (u.1++vs++w.2) r else none
def Fw (cs:List AV):Bool:=cs.any fun a=>match a with
 |.mark=>true
 |_=>false
def wE (T:List dP) (st:gJ) (p:dP) (n:Nat) (K:List AV->Option R):Option R:=
 match p with
 |.lptr slot o=>match mF T st.fr slot with
  |some (.box cs)=>if Fw cs then none else Dw cs o n K
  |_=>none
 |.val (.rptr _ _ cs o)=>Dw cs o n K
 |.val (.ptr B o)=>match st.H[B]? with
  |some (.obj _ cs)=>Dw cs o n K
  |_=>none
 |.val (.eptr B i o)=>match st.H[B]? with
  |some (.arr _ hp ln t l)=>(l[i]?).bind fun x=>Dw (dF hp ln t x) o n K
  |_=>none
 |_=>none
def Cs:List Nat->eB->Option eB
 |[],H=>some H
 |B::r,H=>match H[B]? with
  |some (.arr true _ _ _ _)=>Cs r (H.set B .gone)
  |_=>none
def Jb (st:gJ) (p:dP) (vs:List AV) (K:gJ->Option R):Option R:=
 match p with
 |.lptr slot o=>match st.fr.get slot with
  |some (.box cs)=>if Fw cs then none else Lj st.H cs o vs fun cs'=>K { st with fr:=st.fr.put slot (.box cs') }
  |_=>none
 |.val (.ptr B o)=>match st.H[B]? with
  |some (.obj true cs)=>Lj st.H cs o vs fun cs'=>K { st with H:=st.H.set B (.obj true cs') }
  |_=>none
 |.val (.eptr B i o)=>match st.H[B]? with
  |some (.arr true hp ln t l)=>if AV.refsL vs=[] then (l[i]?).bind fun x=>Lj st.H (dF hp ln t x) o vs fun cs'=>
    (oC st.H t cs').bind fun z=>match z.2 with
      |[]=>K { st with H:=st.H.set B (.arr true (hp||oG st.H vs) (ln||nB st.H vs) t (l.set i z.1)) }
      |_=>none
   else (l[i]?).bind fun x=>Lj st.H (dF hp ln t x) o vs fun cs'=>
    (oC st.H t cs').bind fun z=>match z.2 with
      |[]=>if (AV.refsL cs').contains B then none else (Cs (AV.refsL cs') st.H).bind fun H'=>K { st with H:=H'.set B (.arr true true true t (l.set i z.1)) }
      |_=>none
  |_=>none
 |_=>none
def pureVs (H:eB) (l:List AV):Bool:=l.all fun a=>match a with
 |.lst .. | .int .. | .bool _ | .str _ | .nils | .arr ..=>true
 |_=>false
variable (cs:Nat->Option Ct) (opn:Nat->Bool) (ety:Nat->Option Ty)
 (icall:Nat->List AV->eB->(AV->eB->Option R)->Option R)
def Jw (hp ln:Bool) (vs:List qL) (x:(cW (vs.map (·.t))).den):Option AV:=
 (Dl hp ln vs x).bind fun l=>match l with
   |[a]=>some a
   |l=>some (.tup l)
def Rf (f:Nat) (args:List AV) (st:gJ) (k:dP->gJ->Option R):Option R:=
 (cs f).bind fun c=>(Cy st.H c.args args).bind fun x=>
   if c.fresh|| !(Qh st.H args) then (c.F x).bind fun r=>(Jw false (!c.fresh&&Dn st.H args) c.res r).bind fun v=>k (.val v) st else none
def Em (f:Nat) (args:List AV) (st:gJ) (k:dP->gJ->Option R):Option R:=
 if opn f then icall f args st.H fun v H=>k (.val v) { st with H:=H }
 else (cs f).bind fun c=>(Cy st.H c.args args).bind fun x=>
  if c.fresh|| !(Qh st.H args) then (c.F x).bind fun r=>(Jw false (!c.fresh&&Dn st.H args) c.res r).bind fun v=>k (.val v) st else none
def aSel:Option (Nat×Nat)->AV->Option AV
 |none,v=>some v
 |some (off,n),.agg cs=>(gE cs off).bind fun x=>(gE x.2 n).bind fun y=>some (.agg y.1)
 |_,_=>none
def azVal (ag:Bool) (z:List AV):Option AV:=if z.all AV.one then (if ag then some (.agg z) else match z with
 |[c]=>some c
 |_=>none) else none
def Kz (t:Ty) (bytes:Nat) (hp0 ln0:Bool) (new:List t.den) (a:AV) (st:gJ) (k:dP->gJ->Option R):Option R:=match a with
     |.nils=>cut (decide (new.length*(bytes+1)≤bY)) (k (.val (.own st.H.length)) { st with H:=st.H++[.arr true hp0 ln0 t new] })
     |.own B=>match st.H[B]? with
      |some (.arr true hp ln t' l)=>if h:t'=t then cut (decide ((l.length+new.length)*(bytes+1)≤bY))
        (k (.val (.own st.H.length)) { st with H:=st.H.set B .gone++[.arr true (hp||hp0) (ln||ln0) t (oM h l++new)] }) else none
      |_=>none
     |_=>none
noncomputable def iI (T:List dP) (st:gJ) (dst:Option Nat) (op:gQ) (k:dP->gJ->Option R):Option R:=
 match op with
 |.mov x=>(ax T st.fr x).bind fun v=>k v st
 |.pick c a b=>(av T st.fr c).bind fun c=>match c with
  |.bool c=>match av T st.fr a,av T st.fr b with
   |some (.bool x),some (.bool y)=>k (.val (.bool (bif c then x else y))) st
   |some (.int kx x),some (.int ky y)=>if kx=ky then k (.val (.int kx (bif c then x else y))) st else none
   |x,y=>bif c then x.bind fun v=>k (.val v) st else y.bind fun v=>k (.val v) st
  |_=>none
 |.alloc loc sz z=>match z with
  |[e]=>(mN e).bind fun e=>if e.all AV.one then
   (if loc then (match dst with
     |some t=>if wV T st.fr t then k (.box e) st else none
     |none=>none)
   else if mA e=sz/\0<sz then k (.val (.ptr st.H.length (.st 0))) { st with H:=st.H++[.obj true e] } else none) else none
  |_=>none
 |.box loc x=>(av T st.fr x).bind fun v=>v.flat.bind fun vs=>if loc then (match dst with
   |some t=>if wV T st.fr t then k (.box vs) st else none
   |none=>none)
  else if 0<mA vs then k (.val (.ptr st.H.length (.st 0))) { st with H:=st.H++[.obj true vs] } else none
 |.build z ps=>(mN z).bind fun z=>if z.all AV.one then (zW T st.fr z ps).bind fun cs=>k (.val (.agg cs)) st else none
 |.bsl own sz z len ps=>if z.length=sz/\0<sz/\len*sz≤16777216 then (mN z).bind fun z=>if z.all AV.one then (wD T st.fr sz (List.replicate len z) ps).bind fun es=>
   (dst.bind ety).bind fun t=>if t.n=sz/\es.all (fun e=>decide (AV.refsL e=[])) then (Lg st.H t es).bind fun l=>
     if own then k (.val (.own st.H.length)) { st with H:=st.H++[.arr true (es.any (oG st.H)) (es.any (nB st.H)) t l] }
     else if es.any (oG st.H) then none else k (.val (.lst false (es.any (nB st.H)) t l)) st
   else if t.n=sz/\own=true then (Lg st.H t es).bind fun l=>(Cs (es.flatMap AV.refsL) st.H).bind fun H'=>
    k (.val (.own H'.length)) { st with H:=H'++[.arr true true true t l] }
   else none else none else none
 |.load n x=>(ax T st.fr x).bind fun p=>match n with
  |none=>wE T st p 1 fun cs=>match cs with
   |[v]=>if v.one then k (.val v) st else none
   |_=>none
  |some n=>wE T st p n fun cs=>k (.val (.agg cs)) st
 |.store n p x=>(ax T st.fr p).bind fun p=>(av T st.fr x).bind fun v=>v.flat.bind fun vs=>if mA vs=n then Jb st p vs fun st=>k (.val (.tup [])) st else none
 |.nilc x=>(ax T st.fr x).bind fun v=>if qY st.H v then k v st else none
 |.bin op x y=>(av T st.fr x).bind fun a=>(av T st.fr y).bind fun b=>Ye op a b fun v=>k (.val v) st
 |.eq neg t x y=>match t,y with
  |.sl,.c .nils=>(av T st.fr x).bind fun a=>Vq st.H a fun r=>k (.val (.bool (if neg then !r else r))) st
  |_,_=>(ax T st.fr x).bind fun a=>(ax T st.fr y).bind fun b=>aEq st.H t a b fun r=>k (.val (.bool (if neg then !r else r))) st
 |.un op x=>(av T st.fr x).bind fun a=>aUn op a fun v=>k (.val v) st
 |.cvI kd x=>(av T st.fr x).bind fun a=>match a with
  |.int _ n=>k (.val (.int kd (kd.wrap n))) st
  |_=>none
 |.cvSB own x=>(av T st.fr x).bind fun a=>match a with
  |.str b=>cut (decide (b.length≤bY)) (if own then k (.val (.own st.H.length)) { st with H:=st.H++[.arr true false false (.int .u8) (b.map fun c=>(c.toNat:Int))] }
   else k (.val (.lst false false (.int .u8) (b.map fun c=>(c.toNat:Int)))) st)
  |_=>none
 |.cvBS x=>(av T st.fr x).bind fun a=>match a with
  |.str _=>none
  |a=>(Jn st.H (.int .u8) a).bind fun l=>k (.val (.str (l.map fun n=>UInt8.ofNat n.toNat))) st
 |.cvLL x=>(av T st.fr x).bind fun a=>match a with
  |.own B=>match st.H[B]? with
   |some (.arr _ _ _ t l)=>if t.n=1 then cut (decide (0<l.length)) (k (.val (.own B)) st) else none
   |_=>none
  |_=>none
 |.cvIS x=>(av T st.fr x).bind fun a=>match a with
  |.int _ n=>k (.val (.str (Utf8.encode n).data.toList)) st
  |_=>none
 |.cvSS x=>(av T st.fr x).bind fun a=>match a with
  |.str b=>k (.val (.str b)) st
  |_=>none
 |.mkI t x=>(av T st.fr x).bind fun a=>k (.val (.iface t a)) st
 |.asrt ok t ag z x=>(av T st.fr x).bind fun a=>match a with
  |.iface u v=>if u=t then k (.val (if ok then .tup [v,.bool true] else v)) st else if ok then (mN z).bind fun z=>(azVal ag z).bind fun z=>k (.val (.tup [z,.bool false])) st else none
  |_=>none
 |.mkF f a b=>match f with
  |.func f=>(Vp T st.fr a).bind fun a=>(Vp T st.fr b).bind fun b=>k (.val (.fn f a b)) st
  |_=>none
 |.mks sz z bytes l c=>match l,c with
  |.t l',.t c'=>if l'=c' then (av T st.fr l).bind fun n=>match n with
   |.int .i64 n=>(mN z).bind fun z=>(dst.bind ety).bind fun t=>if z.all AV.one/\t.n=sz/\0<sz/\mA z=sz/\AV.refsL z=[]/\oG st.H z=false/\nB st.H z=false then (oC st.H t z).bind fun x=>match x.2 with
    |[]=>cut (decide (0≤n/\n*(bytes+1:Nat)≤bY)) (k (.val (.own st.H.length)) { st with H:=st.H++[.arr true false false t (List.replicate n.toNat x.1)] })
    |_=>none
    else none
   |_=>none
   else none
  |.c l',.c c'=>if l'=c' then match l' with
   |.int .i64 n=>(mN z).bind fun z=>(dst.bind ety).bind fun t=>if z.all AV.one/\t.n=sz/\0<sz/\mA z=sz/\AV.refsL z=[]/\oG st.H z=false/\nB st.H z=false then (oC st.H t z).bind fun x=>match x.2 with
    |[]=>cut (decide (0≤n/\n*(bytes+1:Nat)≤bY)) (k (.val (.own st.H.length)) { st with H:=st.H++[.arr true false false t (List.replicate n.toNat x.1)] })
    |_=>none
    else none
   |_=>none
   else none
  |_,_=>none
 |.slS x lo hi=>(av T st.fr x).bind fun a=>match a with
  |.str b=>sC T st.fr 0 (fun l=>sC T st.fr b.length (fun r=>cut (decide (l≤r/\r≤b.length)) (k (.val (.str ((b.drop l).take (r-l)))) st)) hi) lo
  |_=>none
 |.slL sz x lo hi mx=>(av T st.fr x).bind fun a=>(uV st.H a).bind fun n=>sC T st.fr 0 (fun l=>sC T st.fr n (fun r=>
  match mx with
  |none=>(match a with
   |.nils=>cut (decide (l=0/\r=0)) (k (.val .nils) st)
   |.lst hp ln t b=>if t.n=sz then cut (decide (l≤r/\r≤b.length)) (k (.val (.lst hp ln t ((b.drop l).take (r-l)))) st) else none
   |.own B=>match st.H[B]? with
    |some (.arr _ _ _ t b)=>if t.n=sz then cut (decide (l≤r/\r≤b.length)) (k (.val (.sub B l (r-l) (b.length-l))) st) else none
    |_=>none
   |.sub B off len cap=>match st.H[B]? with
    |some (.arr _ _ _ t b)=>if t.n=sz then cut (decide (l≤r/\r≤cap)) (k (.val (.sub B (off+l) (r-l) (cap-l))) st) else none
    |_=>none
   |_=>none)
  |some mm=>(av T st.fr mm).bind fun m=>Ej m fun m=>(match a with
   |.nils=>cut (decide (l=0/\r=0/\m=0)) (k (.val .nils) st)
   |.lst hp ln t b=>(match mm with
    |.c _=>cut (decide (l=0/\r=0/\m=0)) (k (.val .nils) st)
    |_=>if t.n=sz then cut (decide (l≤r/\r≤m/\m≤b.length)) (k (.val (.lst hp ln t ((b.drop l).take (r-l)))) st) else none)
   |.own ..=>cut (decide (l=0/\r=0/\m=0)) (k (.val .nils) st)
   |.sub ..=>cut (decide (l=0/\r=0/\m=0)) (k (.val .nils) st)
   |_=>none)) hi) lo
 |.fadr off x=>(ax T st.fr x).bind fun p=>if qY st.H p then match p with
  |.lptr t o=>k (.lptr t (o.add off)) st
  |.val (.ptr B o)=>k (.val (.ptr B (o.add off))) st
  |.val (.eptr B i o)=>k (.val (.eptr B i (o.add off))) st
  |.val (.rptr hp ln cs o)=>k (.val (.rptr hp ln cs (o.add off))) st
  |_=>none
  else none
 |.fld off n x=>(av T st.fr x).bind fun a=>match a with
  |.agg cs=>match n with
   |none=>Dw cs (.st off) 1 fun l=>match l with
    |[v]=>if v.one then k (.val v) st else none
    |_=>none
   |some n=>Dw cs (.st off) n fun l=>k (.val (.agg l)) st
  |_=>none
 |.iadr sz x i=>(av T st.fr x).bind fun a=>(av T st.fr i).bind fun i=>Ej i fun i=>match a with
  |.lst hp ln t l=>if t.n=sz then (l[i]?).bind fun e=>k (.val (.rptr hp ln (dF hp ln t e) (.st 0))) st else none
  |.own B=>match st.H[B]? with
   |some (.arr _ _ _ t l)=>if t.n=sz then cut (decide (i<l.length)) (k (.val (.eptr B i (.st 0))) st) else none
   |_=>none
  |.sub B off len _=>match st.H[B]? with
   |some (.arr _ _ _ t l)=>if t.n=sz then cut (decide (i<len/\off+len≤l.length)) (k (.val (.eptr B (off+i) (.st 0))) st) else none
   |_=>none
  |_=>none
 |.iadrA n sz x i=>(ax T st.fr x).bind fun p=>(av T st.fr i).bind fun iv=>Ej iv fun j=>cut (decide (j<n)) (
   let o':kT->Option kT:=Uo i n sz j
   match p with
   |.lptr t o=>(o' o).bind fun o=>k (.lptr t o) st
   |.val (.rptr hp ln cs o)=>if hp then none else (o' o).bind fun o=>k (.val (.rptr hp ln cs o)) st
   |.val (.ptr B o)=>match st.H[B]? with
    |some (.obj _ cs)=>cut (decide (o.val+n*sz≤mA cs)) ((o' o).bind fun o=>k (.val (.ptr B o)) st)
    |_=>none
   |_=>none)
 |.idxS x i=>(av T st.fr x).bind fun a=>(av T st.fr i).bind fun i=>Ej i fun i=>match a with
  |.str b=>(b[i]?).bind fun c=>k (.val (.int .u8 c.toNat)) st
  |_=>none
 |.idxA n sz isAgg x i=>(av T st.fr x).bind fun a=>(av T st.fr i).bind fun iv=>Ej iv fun j=>match a with
  |.agg cs=>cut (decide (j<n)) (
    (Uo i n sz j (.st 0)).bind fun o=>Dw cs o (if isAgg then sz else 1) fun l=>
      if isAgg then k (.val (.agg l)) st else match l with
       |[v]=>if v.one then k (.val v) st else none
       |_=>none)
  |_=>none
 |.ext x i=>(av T st.fr x).bind fun a=>match a with
  |.tup vs=>(vs[i]?).bind fun v=>k (.val v) st
  |_=>none
 |.call f args=>(Vp T st.fr args).bind fun l=>Em cs opn icall f l st k
 |.callc f args=>(Vp T st.fr args).bind fun l=>Rf cs f l st k
 |.callv f args=>(av T st.fr f).bind fun f=>(Vp T st.fr args).bind fun l=>match f with
  |.fn f a b=>Em cs opn icall f (a++l++b) st k
  |_=>none
 |.callm tab x args=>(av T st.fr x).bind fun a=>(Vp T st.fr args).bind fun l=>match a with
  |.iface t v=>(tab.lookup t).bind fun r=>(aSel r.2 v).bind fun v'=>Em cs opn icall r.1 (v'::l) st k
  |_=>none
 |.app sz bytes x y=>(av T st.fr x).bind fun a=>(av T st.fr y).bind fun b=>(dst.bind ety).bind fun t=>if t.n=sz/\0<sz then (Jn st.H t b).bind fun new=>
   Kz t bytes (b.hpF st.H) (b.lnF st.H) new a st k
   else none
 |.appz sz bytes z x n=>(av T st.fr x).bind fun a=>(av T st.fr n).bind fun nv=>(mN z).bind fun zc=>(dst.bind ety).bind fun t=>
   if zc.all AV.one/\t.n=sz/\0<sz/\mA zc=sz/\AV.refsL zc=[]/\oG st.H zc=false/\nB st.H zc=false then (oC st.H t zc).bind fun v=>match v.2,nv with
    |[],.int .i64 m=>cut (decide (0≤m/\m*(bytes+1:Nat)≤bY)) (Kz t bytes false false (List.replicate m.toNat v.1) a st k)
    |_,_=>none
   else none
 |.cpy sz x y=>(av T st.fr x).bind fun a=>(av T st.fr y).bind fun b=>
   let go (B off len:Nat):Option R:=match st.H[B]? with
    |some (.arr true hp ln t l)=>if t.n=sz/\0<sz then (Jn st.H t b).bind fun src=>
      k (.val (.int .i64 (min src.length len:Nat))) { st with H:=st.H.set B (.arr true (hp||b.hpF st.H) (ln||b.lnF st.H) t (l.take off++src.take (min src.length len)++l.drop (off+min src.length len))) } else none
    |_=>none
   match a with
   |.own B=>match st.H[B]? with
    |some (.arr _ _ _ _ l)=>go B 0 l.length
    |_=>none
   |.sub B off len _=>match st.H[B]? with
    |some (.arr _ _ _ _ l)=>cut (decide (off+len≤l.length)) (go B off len)
    |_=>none
   |_=>none
 |.clr sz z x=>(av T st.fr x).bind fun a=>(mN z).bind fun zc=>
   let go (B off len:Nat):Option R:=match st.H[B]? with
    |some (.arr true hp ln t l)=>if zc.all AV.one/\t.n=sz/\0<sz/\mA zc=sz/\AV.refsL zc=[]/\oG st.H zc=false/\nB st.H zc=false then (oC st.H t zc).bind fun v=>match v.2 with
      |[]=>k (.val (.tup [])) { st with H:=st.H.set B (.arr true hp ln t (l.take off++List.replicate len v.1++l.drop (off+len))) }
      |_=>none else none
    |_=>none
   match a with
   |.own B=>match st.H[B]? with
    |some (.arr _ _ _ _ l)=>go B 0 l.length
    |_=>none
   |.sub B off len _=>match st.H[B]? with
    |some (.arr _ _ _ _ l)=>cut (decide (off+len≤l.length)) (go B off len)
    |_=>none
   |_=>none
 |.len lJ x=>(av T st.fr x).bind fun a=>match lJ,a with
  |true,.str b=>k (.val (.int .i64 b.length)) st
  |false,.str _=>none
  |false,a=>(uV st.H a).bind fun n=>k (.val (.int .i64 n)) st
  |_,_=>none
 |.lenA n=>k (.val (.int .i64 n)) st
 |.mn x y=>(av T st.fr x).bind fun a=>(av T st.fr y).bind fun b=>match a,b with
  |.int k1 a,.int _ b=>k (.val (.int k1 (if b<a then b else a))) st
  |_,_=>none
 |.mx x y=>(av T st.fr x).bind fun a=>(av T st.fr y).bind fun b=>match a,b with
  |.int k1 a,.int _ b=>k (.val (.int k1 (if b>a then b else a))) st
  |_,_=>none
 |.range x=>(av T st.fr x).bind fun a=>match a,dst with
  |.str b,some t=>if wV T st.fr t then k (.box [.mark,.str b,.int .i64 0]) st else none
  |_,_=>none
 |.next x=>match x with
  |.t t=>match st.fr.get t with
   |some (.box [.mark,.str b,.int .i64 n])=>cut (decide (0≤n)) (bif decide (n.toNat<b.length) then
     k (.val (.tup [.bool true,.int .i64 n.toNat,.int .i32 (nF b n.toNat).1])) { st with fr:=st.fr.put t (.box [.mark,.str b,.int .i64 (n.toNat+(nF b n.toNat).2:Nat)]) }
     else k (.val (.tup [.bool false])) st)
   |_=>none
  |_=>none
 |_=>none
end
end Go.Ideal
namespace Go.Ideal
def DL:List Ty->Type
 |[]=>Unit
 |t::r=>t.den×DL r
def DL.app:{a b:List Ty}->DL a->DL b->DL (a++b)
 |[],_,_,y=>y
 |_::_,_,x,y=>(x.1,DL.app x.2 y)
def DL.fst:{a b:List Ty}->DL (a++b)->DL a
 |[],_,_=>()
 |_::_,_,x=>(x.1,DL.fst x.2)
def DL.snd:{a b:List Ty}->DL (a++b)->DL b
 |[],_,x=>x
 |_::_,_,x=>DL.snd (a:=_) x.2
def tX:{a:List Ty}->DL a->(cW a).den
 |[],_=>()
 |[_],x=>x.1
 |_::_::_,x=>(x.1,tX x.2)
def qQ:{a:List Ty}->(cW a).den->DL a
 |[],_=>()
 |[_],x=>(x,())
 |_::_::_,x=>(x.1,qQ x.2)
structure kY where
 own:List Nat
 frz:List Nat
 obj:List Nat
def kY.nil:kY:=⟨[],[],[]⟩
def kY.app (a b:kY):kY:=⟨a.own++b.own,a.frz++b.frz,a.obj++b.obj⟩
def Yo (a b:Bool):Bool:=!a||b
def gP (H:eB) (i:Nat):Option Nat:=H.findSome? fun x=>match x with
 |.rt j B=>if j=i then some B else none
 |_=>none
def Fa (H:eB) (t:Ty):AV->Option (List t.den×kY)
 |.nils=>some ([],kY.nil)
 |.own B=>match H[B]? with
  |some (.arr true hp ln t' l)=>if h:t'=t then some (oM h l,⟨[B],[],[]⟩) else none
  |_=>none
 |_=>none
def Da (H:eB) (t:Ty):AV->Option (List t.den×kY)
 |.nils=>some ([],kY.nil)
 |.own B=>match H[B]? with
  |some (.arr true hp ln t' l)=>if h:t'=t then if t.pur then some (oM h l,⟨[B],[],[]⟩) else none else none
  |_=>none
 |.own2 B=>match H[B]? with
  |some (.arr2 true t' l none)=>if h:t'=t then if t.pur then none else some (oM h l,⟨[B],[],[]⟩) else none
  |_=>none
 |_=>none
def Ko {a b:Ty} (h:a=b) (x:Option a.den):Option b.den:=h▸x
def Pb (H:eB) (u:Ty):AV->Option (Nat×List u.den×Nat×List AV)
 |.own2 B=>match H[B]? with
  |some (.arr2 true t' l (some y))=>if h:t'=u then if u.pur then none else some (B,oM h l,y.1,y.2) else none
  |_=>none
 |_=>none
def mK (H:eB):(t:Ty)->List AV->Option ((t.den×List AV)×kY)
 |.pair a b,cs=>(mK H a cs).bind fun x=>(mK H b x.1.2).bind fun y=>some (((x.1.1,y.1.1),y.1.2),x.2.app y.2)
 |.ow .own u,cs=>match cs with
  |a::r=>match Pb H u a with
   |some z=>(mK H u z.2.2.2).bind fun y=>match y.1.2 with
    |[]=>some ((z.2.1.set z.2.2.1 y.1.1,r),⟨z.1::y.2.own,y.2.frz,y.2.obj⟩)
    |_=>none
   |none=>(Da H u a).bind fun x=>some ((x.1,r),x.2)
  |[]=>none
 |.ow .obj u,cs=>match cs with
  |.ptr B (.st 0)::r=>match H[B]? with
   |some (.fold true u' x)=>if h:u'=u then (Ko h x).bind fun v=>some ((v,r),⟨[B],[],[]⟩) else none
   |some (.obj true l)=>(mK H u l).bind fun y=>match y.1.2 with
    |[]=>some ((y.1.1,r),⟨B::y.2.own,y.2.frz,y.2.obj⟩)
    |_=>none
   |_=>none
  |_=>none
 |.ow .opt u,cs=>match cs with
  |.nilp::r=>some ((none,r),kY.nil)
  |.ptr B (.st 0)::r=>match H[B]? with
   |some (.fold true u' x)=>if h:u'=u then some ((Ko h x,r),⟨[B],[],[]⟩) else none
   |some (.obj true l)=>(mK H u l).bind fun y=>match y.1.2 with
    |[]=>some ((some y.1.1,r),⟨B::y.2.own,y.2.frz,y.2.obj⟩)
    |_=>none
   |_=>none
  |_=>none
 |.ow (.root i) u,cs=>match cs with
  |.ptr B (.st 0)::r=>if gP H i=some B then (match H[B]? with
    |some (.obj ..)=>some (((),r),kY.nil)
    |some (.fold ..)=>some (((),r),kY.nil)
    |_=>none) else none
  |_=>none
 |t,cs=>(oC H t cs).bind fun x=>some (x,⟨[],AV.refsL (cs.take (cs.length-x.2.length)),[]⟩)
def jO (ro:Nat->Option Nat):(t:Ty)->t.den->eB->List AV×eB
 |.pair a b,x,H=>let y:=jO ro a x.1 H;let z:=jO ro b x.2 y.2;(y.1++z.1,z.2)
 |.ow .own u,x,H=>if u.pur then ([.own H.length],H++[.arr true (!u.flat) (!u.flat) u x]) else ([.own2 H.length],H++[.arr2 true u x none])
 |.ow .obj u,x,H=>([.ptr H.length (.st 0)],H++[.fold true u (some x)])
 |.ow .opt u,x,H=>([.ptr H.length (.st 0)],H++[.fold true u x])
 |.ow (.root i) u,x,H=>(match ro i with
  |some B=>[.ptr B (.st 0)]
  |none=>[.any],H)
 |t,x,H=>(dF true true t x,H)
inductive SC where
 |ty (hp ln:Bool) (t:Ty)
 |own (t:Ty)
 |mark
 |ow (k:OK) (t:Ty)
 deriving DecidableEq,Inhabited
def SC.hole:SC->Ty
 |.ty _ _ t=>t
 |.mark=>.unit
 |.own t=>.lst t
 |.ow k t=>.ow k t
inductive SK where
 |keep
 |val (hp ln:Bool) (v:qL)
 |own (t:Ty)
 |box (cs:List SC)
 |obj (cs:List SC)
  |ow (k:OK) (t:Ty)
 |root (t:Ty)
 |groot (t:Ty)
  |agw (t:Ty)
 deriving DecidableEq,Inhabited
def SK.hs:SK->List Ty
 |.keep=>[]
 |.val _ _ v=>[v.t]
 |.own t=>[.lst t]
 |.box cs=>cs.map SC.hole
 |.obj cs=>cs.map SC.hole
 |.ow k t=>[.ow k t]
 |.root t=>[.ow .obj t]
 |.groot t=>[.ow .obj t]
 |.agw t=>[t]
abbrev nY:=List (Nat×SK)
def nY.hs:nY->List Ty
 |[]=>[]
 |(_,k)::r=>k.hs++nY.hs r
def tH (H:eB):(cs:List SC)->List AV->Option (DL (cs.map SC.hole)×kY)
 |[],[]=>some ((),kY.nil)
 |.ty hp ln t::r,cs=>(oC H t cs).bind fun x=>(tH H r x.2).bind fun y=>
  if Yo (oG H (cs.take (cs.length-x.2.length))) hp&&Yo (nB H (cs.take (cs.length-x.2.length))) ln then some ((x.1,y.1),⟨y.2.own,AV.refsL (cs.take (cs.length-x.2.length))++y.2.frz,y.2.obj⟩) else none
 |.own t::r,a::cs=>(Fa H t a).bind fun x=>(tH H r cs).bind fun y=>some ((x.1,y.1),x.2.app y.2)
 |.mark::r,.mark::cs=>(tH H r cs).bind fun y=>some (((),y.1),y.2)
 |.ow k t::r,cs=>(mK H (.ow k t) cs).bind fun x=>(tH H r x.1.2).bind fun y=>some ((x.1.1,y.1),x.2.app y.2)
 |_,_=>none
def pG:Nat:=1000000
def iF (H:eB) (t:Nat):Option dP:=if pG≤t then (gP H (t-pG)).map fun B=>.val (.ptr B (.st 0)) else none
def zZ (T:List dP) (pos:Nat->Option Nat) (base:Nat->Option dP) (chk:Bool) (st:gJ) (t:Nat):(k:SK)->Option (DL k.hs×kY)
 |.keep=>if pG≤t then none else match st.fr.get t with
  |some (.cst i)=>if chk then (if pos t=some i then some ((),kY.nil) else none) else some ((),kY.nil)
  |some (.val _)=>if chk then none else some ((),kY.nil)
  |some (.box _)=>if chk then none else some ((),kY.nil)
  |_=>none
 |.val hp ln v=>match mF T st.fr t with
  |some (.val a)=>if Yo (a.hpV st.H) hp&&Yo (a.lnV st.H) ln then (Yk st.H v a).bind fun x=>some ((x,()),⟨[],a.refs,[]⟩) else none
  |_=>none
 |.own u=>match mF T st.fr t with
  |some (.val a)=>(Fa st.H u a).bind fun x=>some ((x.1,()),x.2)
  |_=>none
 |.box cs=>match mF T st.fr t with
  |some (.box l)=>tH st.H cs l
  |_=>none
 |.obj cs=>match mF T st.fr t,base t with
  |some (.val (.ptr B (.st 0))),some (.val (.ptr B' (.st 0)))=>if B'=B then (match st.H[B]? with
    |some (.obj true l)=>(tH st.H cs l).bind fun x=>some (x.1,⟨x.2.own,x.2.frz,B::x.2.obj⟩)
    |_=>none) else none
  |_,_=>none
 |.root u=>match mF T st.fr t,base t with
  |some (.val (.ptr B (.st 0))),some (.val (.ptr B' (.st 0)))=>if B'=B then (match st.H[B]? with
    |some (.obj true l)=>(mK st.H u l).bind fun x=>match x.1.2 with
     |[]=>some ((x.1.1,()),⟨x.2.own,x.2.frz,B::x.2.obj⟩)
     |_=>none
    |_=>none) else none
  |_,_=>none
 |.groot u=>match base t with
  |some (.val (.ptr B (.st 0)))=>(match st.H[B]? with
    |some (.obj true l)=>(mK st.H u l).bind fun x=>match x.1.2 with
     |[]=>some ((x.1.1,()),⟨x.2.own,x.2.frz,B::x.2.obj⟩)
     |_=>none
    |_=>none)
  |_=>none
 |.agw u=>match mF T st.fr t with
  |some (.val (.agg l))=>(mK st.H u l).bind fun x=>match x.1.2 with
   |[]=>some ((x.1.1,()),x.2)
   |_=>none
  |_=>none
 |.ow k u=>match mF T st.fr t with
  |some (.val a)=>if a.one then (mK st.H (.ow k u) [a]).bind fun x=>match x.1.2 with
    |[]=>some ((x.1.1,()),x.2)
    |_=>none
   else none
  |_=>none
def Ng (T:List dP) (pos:Nat->Option Nat) (base:Nat->Option dP) (chk:Bool) (st:gJ):(sh:nY)->Option (DL sh.hs×kY)
 |[]=>some ((),kY.nil)
 |(t,k)::r=>(zZ T pos base chk st t k).bind fun x=>(Ng T pos base chk st r).bind fun y=>some (x.1.app y.1,x.2.app y.2)
def pV:List Nat->Bool
 |[]=>true
 |x::r=>!r.contains x&&pV r
def jY.wr:jY->Bool
 |.arr w _ _ _ _=>w
 |.obj w _=>w
 |.arr2 w _ _ _=>w
 |.fold w _ _=>w
 |.kns w _ _=>w
 |_=>false
def wrB (H:eB) (B:Nat):Bool:=match H[B]? with
 |some x=>x.wr
 |none=>false
def kY.ok (u:kY) (H:eB):Bool:=pV u.own&&pV u.obj&&u.frz.all (fun B=>wrB H B&& !u.own.contains B&& !u.obj.contains B)&&u.own.all fun B=>!u.obj.contains B
def Ee (T:List dP) (fr:gZ) (sh:nY):Bool:=fr.all fun x=>wV T fr x.1||sh.any fun q=>q.1==x.1&&match q.2 with
 |.groot _=>false
 |_=>true
def Nr (T:List dP) (pos:Nat->Option Nat) (base:Nat->Option dP) (chk:Bool) (st:gJ) (sh:nY):Option ((cW sh.hs).den×kY):=
 (Ng T pos base chk st sh).bind fun x=>if x.2.ok st.H&&Ee T st.fr sh then some (tX x.1,x.2) else none
def Ds (ro:Nat->Option Nat):(cs:List SC)->DL (cs.map SC.hole)->eB->List AV×eB
 |[],_,H=>([],H)
 |.ty hp ln t::r,x,H=>let y:=Ds ro r x.2 H;(dF hp ln t x.1++y.1,y.2)
 |.mark::r,x,H=>let y:=Ds ro r x.2 H;(.mark::y.1,y.2)
 |.own t::r,x,H=>let y:=Ds ro r x.2 (H++[.arr true (!t.flat) (!t.flat) t x.1]);(.own H.length::y.1,y.2)
 |.ow k t::r,x,H=>let y:=jO ro (.ow k t) x.1 H;let z:=Ds ro r x.2 y.2;(y.1++z.1,z.2)
def zA (ro:Nat->Option Nat) (base:Nat->Option dP) (t:Nat):(k:SK)->DL k.hs->eB->Option (Option dP×eB)
 |.keep,_,H=>(base t).bind fun v=>some (some v,H)
 |.val hp ln v,x,H=>(ofV hp ln v x.1).bind fun a=>some (some (.val a),H)
 |.own u,x,H=>some (some (.val (.own H.length)),H++[.arr true (!u.flat) (!u.flat) u x.1])
 |.box cs,x,H=>let y:=Ds ro cs x H;some (some (.box y.1),y.2)
 |.obj cs,x,H=>match base t with
  |some (.val (.ptr B (.st 0)))=>let y:=Ds ro cs x H;some (some (.val (.ptr B (.st 0))),y.2.set B (.obj true y.1))
  |_=>none
 |.root u,x,H=>match base t with
  |some (.val (.ptr B (.st 0)))=>let y:=jO ro u x.1 H;some (some (.val (.ptr B (.st 0))),y.2.set B (.obj true y.1))
  |_=>none
 |.groot u,x,H=>match base t with
  |some (.val (.ptr B (.st 0)))=>let y:=jO ro u x.1 H;some (none,y.2.set B (.obj true y.1))
  |_=>none
 |.agw u,x,H=>let y:=jO ro u x.1 H;some (some (.val (.agg y.1)),y.2)
 |.ow k u,x,H=>let y:=jO ro (.ow k u) x.1 H;match y.1 with
  |[a]=>some (some (.val a),y.2)
  |_=>none
def Wx (t:Nat):Option dP->gZ->gZ
 |none,fr=>fr
 |some v,fr=>(t,v)::fr
def Dr (ro:Nat->Option Nat) (base:Nat->Option dP):(sh:nY)->DL sh.hs->eB->Option gJ
 |[],_,H=>some ⟨[],H⟩
 |(t,k)::r,x,H=>(zA ro base t k x.fst H).bind fun y=>(Dr ro base r x.snd y.2).bind fun z=>some ⟨Wx t y.1 z.fr,z.H⟩
def inv (base:Nat->Option dP) (sh:nY) (x:(cW sh.hs).den) (H:eB):Option gJ:=Dr (gP H) base sh (qQ x) H
def Bj:jY->jY
 |.arr _ hp ln t l=>.arr false hp ln t l
 |.obj _ cs=>.obj false cs
 |.gone=>.gone
 |.arr2 _ t l op=>.arr2 false t l op
 |.fold _ t x=>.fold false t x
 |.rt i B=>.rt i B
 |.kns _ sz es=>.kns false sz es
def sK:jY->Bool
 |.rt _ _=>true
 |_=>false
def eL (l:List Nat) (ro:Bool):Nat->eB->eB
 |_,[]=>[]
 |B,x::r=>(if l.contains B&& !sK x then .gone else if ro then Bj x else x)::eL l ro (B+1) r
def tP (H H':eB):Bool:=H'.all fun x=>match x with
 |.rt i _=>(gP H i).isSome
 |_=>true
def vT (H:eB):Nat->AV->List Nat
 |0,_=>[]
 |n+1,a=>match a with
  |.own B=>[B]
  |.own2 B=>B::match H[B]? with
   |some (.arr2 _ _ _ (some y))=>y.2.flatMap (vT H n)
   |_=>[]
  |.sub B _ _ _=>[B]
  |.eptr B _ _=>[B]
  |.eptr2 B _ _=>[B]
  |.ptr B _=>B::match H[B]? with
   |some (.obj _ cs)=>cs.flatMap (vT H n)
   |_=>[]
  |.agg cs=>cs.flatMap (vT H n)
  |.tup cs=>cs.flatMap (vT H n)
  |.iface _ v=>vT H n v
  |.klit cs=>cs.flatMap (vT H n)
  |.kown B=>B::match H[B]? with
   |some (.kns _ _ es)=>es.flatten.flatMap (vT H n)
   |_=>[]
  |.keptr B _ _=>[B]
  |_=>[]
def Ps (T:List dP) (st:gJ) (t:Nat):List Nat:=match (iF st.H t).orElse fun _=>mF T st.fr t with
 |some (.val a)=>vT st.H 8 a
 |some (.box cs)=>cs.flatMap (vT st.H 8)
 |_=>[]
def Ap (l:List Nat):Nat->eB->eB
 |_,[]=>[]
 |B,x::r=>(if l.contains B then x else Bj x)::Ap l (B+1) r
def kS (T:List dP) (σ0:gZ) (raw:List Nat):gZ->Nat->gZ×List dP×List (Nat×Nat)
 |[],_=>([],[],[])
 |(t,_)::r,i=>match mF T σ0 t with
  |some (.val a)=>if raw.contains t then (let y:=kS T σ0 raw r i;((t,.val a)::y.1,y.2)) else let y:=kS T σ0 raw r (i+1);((t,.cst i)::y.1,.val a::y.2.1,(t,i)::y.2.2)
  |some (.box a)=>if raw.contains t then (let y:=kS T σ0 raw r i;((t,.box a)::y.1,y.2)) else let y:=kS T σ0 raw r (i+1);((t,.cst i)::y.1,.box a::y.2.1,(t,i)::y.2.2)
  |_=>kS T σ0 raw r i
def lC (T:List dP) (σ:gZ):nY->Nat->gZ×List dP×List (Nat×Nat)
 |[],_=>([],[],[])
 |(t,.keep)::r,i=>(match mF T σ t with
  |some (.val v)=>let y:=lC T σ r (i+1);((t,.cst i)::y.1,.val v::y.2.1,(t,i)::y.2.2)
  |some (.box v)=>let y:=lC T σ r (i+1);((t,.cst i)::y.1,.box v::y.2.1,(t,i)::y.2.2)
  |_=>lC T σ r i)
 |_::r,i=>lC T σ r i
def pF (l:List (Nat×Nat)) (t:Nat):Option Nat:=(l.find? (·.1==t)).map (·.2)
def mJ (T:List dP) (H:eB) (σ:gZ) (t:Nat):Option dP:=(iF H t).orElse fun _=>match σ.get t with
 |some (.cst i)=>some (.cst i)
 |_=>mF T σ t
inductive iH where
 |skip
 |reg (its:List cH) (live:List Nat)
 |drw (q0:List cH) (bs:List DB) (live:List Nat)
 |seq (a b:iH)
 |cond (c:SX) (a b:iH)
 |block (id:Nat) (c:iH)
 |loop (head:nY) (exits:List (Ex×nY)) (c:iH)
 |exit (id:Nat)
 |ret
 |bad
 |join (raw:List Nat) (exits:List (Ex×nY)) (c:iH)
 |prim (p:Rm)
  |unr (n:Nat) (c:iH)
  |refine(t o:Nat) (k:IntKind) (i:Int) (c:iH)
  |split (t o:Nat) (k:IntKind) (is:List Int) (c:iH)
def iH.erase:iH->dJ
 |.skip=>.skip
 |.reg a b=>.reg a b
 |.drw a b c=>.drw a b c
 |.seq a b=>.seq a.erase b.erase
 |.cond c a b=>.cond c a.erase b.erase
 |.block i c=>.block i c.erase
 |.loop _ _ c=>.loop c.erase
 |.exit i=>.exit i
 |.ret=>.ret
 |.bad=>.bad
 |.join _ _ c=>c.erase
 |.prim p=>.prim p
 |.unr _ c=>.loop c.erase
 |.refine _ _ _ _ c=>c.erase
 |.split _ _ _ _ c=>c.erase
def XT:List (Ex×nY)->Type
 |[]=>Empty
 |[x]=>(cW x.2.hs).den
 |x::y::r=>(cW x.2.hs).den⊕XT (y::r)
def Hb (T:List dP) (pos:Nat->Option Nat) (base:Nat->Option dP) (ex:Ex) (st:gJ):(xs:List (Ex×nY))->Option (XT xs)
 |[]=>none
 |[x]=>if x.1=ex then (Nr T pos base true st x.2).bind fun y=>some y.1 else none
 |x::y::r=>if x.1=ex then (Nr T pos base true st x.2).bind fun y=>some (.inl y.1) else (Hb T pos base ex st (y::r)).bind fun z=>some (.inr z)
def Ij {R:Type} (base:Nat->Option dP) (H:eB):(xs:List (Ex×nY))->XT xs->(Ex->gJ->Option R)->Option R
 |[],_,_=>none
 |[x],v,k=>(inv base x.2 v H).bind fun st=>k x.1 st
 |x::y::r,v,k=>match v with
  |.inl v=>(inv base x.2 v H).bind fun st=>k x.1 st
  |.inr v=>Ij base H (y::r) v k
def nM {S X:Type} (f:S->Option (S⊕X)):Nat->S->Option X
 |0,_=>none
 |n+1,s=>(f s).bind fun r=>match r with
  |.inl s=>nM f n s
  |.inr x=>some x
noncomputable def cL {S X:Type} (f:S->Option (S⊕X)) (s:S):Option X:=lim fun n=>nM f n s
section
variable (cs:Nat->Option Ct) (opn:Nat->Bool) (ety:Nat->Option Ty)
section
variable {R:Type} (icall:Nat->List AV->eB->(AV->eB->Option R)->Option R)
def Cn (T:List dP) (st:gJ) (d:Option Nat) (v:dP) (k:gJ->Option R):Option R:=match d with
 |none=>k st
 |some t=>if wV T st.fr t then k { st with fr:=st.fr.put t v } else none
def ptrOp:gQ->Option SX
 |.nilc x=>some x
 |.load _ x=>some x
 |.store _ p _=>some p
 |.fadr _ x=>some x
 |.iadrA _ _ x _=>some x
 |.slA _ _ x _ _=>some x
 |_=>none
def Yb (T:List dP) (st:gJ) (x:Option SX) (k:gJ->Option R):Option R:=match x.bind (ax T st.fr) with
 |some (.val (.ptr B _))=>match st.H[B]? with
  |some (.fold true t x)=>x.bind fun v=>let y:=jO (gP st.H) t v st.H;k { st with H:=y.2.set B (.obj true y.1) }
  |_=>k st
 |_=>k st
def seg (cs:List AV) (o n:Nat):Option (List AV):=(gE cs o).bind fun x=>(gE x.2 n).bind fun y=>some y.1
def xX (cs:List AV) (o:Nat) (vs:List AV):Option (List AV):=(gE cs o).bind fun x=>(gE x.2 (mA vs)).bind fun y=>some (x.1++vs++y.2)
def AV.plain:AV->Bool
 |.int ..=>true
 |.bool _=>true
 |.str _=>true
 |.lst ..=>true
 |.arr ..=>true
 |_=>false
def tD (B:Nat) (H:eB) (k:eB->Option R):Option R:=match H[B]? with
 |some (.arr2 true t l (some y))=>(mK H t y.2).bind fun z=>match z.1.2 with
  |[]=>if z.2.frz.isEmpty&&pV (B::z.2.own) then k ((eL z.2.own false 0 H).set B (.arr2 true t (l.set y.1 z.1.1) none)) else none
  |_=>none
 |_=>k H
def Wo (n:Option Nat) (cs:List AV):Option dP:=match n with
 |none=>(match cs with
  |[v]=>if v.one then some (.val v) else none
  |_=>none)
 |some _=>some (.val (.agg cs))
def Po (n:Option Nat) (B i o:Nat) (st:gJ) (k:dP->gJ->Option R):Option R:=tD B st.H fun H=>match H[B]? with
 |some (.arr2 wr t l none)=>(l[i]?).bind fun e=>(seg (jO (gP H) t e H).1 o (n.getD 1)).bind fun cs=>
   (Wo n cs).bind fun v=>
   if cs.all AV.plain then k v { st with H:=H } else if wr then k v { st with H:=(jO (gP H) t e H).2.set B (.arr2 true t l (some (i,(jO (gP H) t e H).1))) } else none
 |_=>none
def Hs (B i o:Nat) (vs:List AV) (st:gJ) (k:dP->gJ->Option R):Option R:=match st.H[B]? with
 |some (.arr2 true t l none)=>(l[i]?).bind fun e=>(xX (jO (gP st.H) t e st.H).1 o vs).bind fun cs'=>
   tD B ((jO (gP st.H) t e st.H).2.set B (.arr2 true t l (some (i,cs')))) fun H'=>k (.val (.tup [])) { st with H:=H' }
 |some (.arr2 true t l (some y))=>bif decide (y.1=i) then (xX y.2 o vs).bind fun cs'=>
   tD B (st.H.set B (.arr2 true t l (some (y.1,cs')))) fun H'=>k (.val (.tup [])) { st with H:=H' } else none
 |_=>none
def Jo (H:eB) (t:Ty):AV->Option (List t.den×Nat)
 |.own2 B=>match H[B]? with
  |some (.arr2 true t' l none)=>if h:t'=t then some (oM h l,B) else none
  |_=>none
 |_=>none
def Ya (bytes:Nat) (t:Ty) (a b:AV) (st:gJ) (k:dP->gJ->Option R):Option R:=match a with
 |.nils=>(Jo st.H t b).bind fun y=>cut (decide (y.1.length*(bytes+1)≤bY)) (k (.val (.own2 st.H.length)) { st with H:=eL [y.2] false 0 st.H++[.arr2 true t y.1 none] })
 |.own2 B=>tD B st.H fun H=>(Jo H t b).bind fun y=>match H[B]? with
  |some (.arr2 true t' l none)=>if h:t'=t then if B=y.2 then none else cut (decide ((l.length+y.1.length)*(bytes+1)≤bY))
    (k (.val (.own2 H.length)) { st with H:=eL [B,y.2] false 0 H++[.arr2 true t (oM h l++y.1) none] }) else none
  |_=>none
 |_=>none
def He (H:eB) (t:Ty):List (List AV)->Option (List t.den×List Nat)
 |[]=>some ([],[])
 |e::r=>(mK H t e).bind fun z=>match z.1.2 with
  |[]=>if z.2.frz.isEmpty then (He H t r).bind fun y=>some (z.1.1::y.1,z.2.own++y.2) else none
  |_=>none
def Xz (t:Ty) (es:List (List AV)) (st:gJ) (k:dP->gJ->Option R):Option R:=(He st.H t es).bind fun y=>
 if pV y.2 then k (.val (.own2 st.H.length)) { st with H:=eL y.2 false 0 st.H++[.arr2 true t y.1 none] } else none
def Tt (T:List dP) (st:gJ) (x:SX):Bool:=match ax T st.fr x with
 |some (.val (.eptr2 ..))=>true
 |_=>false
def isV (T:List dP) (st:gJ) (dst:Option Nat):gQ->Bool
 |.load _ x=>Tt T st x
 |.store _ p _=>Tt T st p
 |.fadr _ x=>Tt T st x
 |.nilc x=>Tt T st x
 |.iadr _ x _=>match av T st.fr x with
  |some (.own2 _)=>true
  |_=>false
 |.app ..=>match dst.bind ety with
  |some t=>!t.pur
  |none=>false
 |.bsl ..=>match dst.bind ety with
  |some t=>!t.pur
  |none=>false
 |_=>false
def Yd (T:List dP) (st:gJ) (dst:Option Nat) (op:gQ) (k:dP->gJ->Option R):Option R:=match op with
 |.load n x=>match ax T st.fr x with
  |some (.val (.eptr2 B i (.st o)))=>Po n B i o st k
  |_=>none
 |.store n p x=>match ax T st.fr p with
  |some (.val (.eptr2 B i (.st o)))=>(av T st.fr x).bind fun v=>v.flat.bind fun vs=>if mA vs=n then Hs B i o vs st k else none
  |_=>none
 |.fadr off x=>match ax T st.fr x with
  |some (.val (.eptr2 B i o))=>(match st.H[B]? with
   |some (.arr2 ..)=>k (.val (.eptr2 B i (o.add off))) st
   |_=>none)
  |_=>none
 |.nilc x=>match ax T st.fr x with
  |some (.val (.eptr2 B i o))=>(match st.H[B]? with
   |some (.arr2 ..)=>k (.val (.eptr2 B i o)) st
   |_=>none)
  |_=>none
 |.iadr sz x i=>match av T st.fr x with
  |some (.own2 B)=>(av T st.fr i).bind fun i=>Ej i fun i=>(match st.H[B]? with
   |some (.arr2 _ t l _)=>if t.n=sz then cut (decide (i<l.length)) (k (.val (.eptr2 B i (.st 0))) st) else none
   |_=>none)
  |_=>none
 |.app sz bytes x y=>(av T st.fr x).bind fun a=>(av T st.fr y).bind fun b=>(dst.bind ety).bind fun t=>if t.n=sz/\0<sz then Ya bytes t a b st k else none
 |.bsl own sz z len ps=>if z.length=sz/\0<sz/\len*sz≤16777216 then (mN z).bind fun z=>if z.all AV.one then (wD T st.fr sz (List.replicate len z) ps).bind fun es=>
   (dst.bind ety).bind fun t=>if t.n=sz/\own=true then Xz t es st k else none else none else none
 |_=>none
def isN (T:List dP) (st:gJ) (dst:Option Nat):gQ->Bool
 |.load n x=>match ax T st.fr x with
  |some (.val (.keptr ..))=>true
  |some (.val (.eptr B 0 (.st 0)))=>(match st.H[B]? with
   |some (.arr _ _ _ (.int _) _)=>decide (1<n.getD 1)
   |_=>false)
  |_=>false
 |.iadr _ x _=>match av T st.fr x with
  |some (.kown _)=>true
  |_=>false
 |.app _ _ x _=>match av T st.fr x with
  |some (.kown _)=>true
  |some (.klit _)=>true
  |_=>false
 |.bsl ..=>(dst.bind ety).isNone
 |.boxA _=>true
 |.alloc loc _ z=>!loc&&decide (z.length≠1)
 |.slA _ _ x _ _=>match ax T st.fr x with
  |some (.val (.eptr ..))=>true
  |_=>false
 |_=>false
def arrI:List AV->Option (IntKind×List Int)
 |[.arr _ _ _ (.int kd) l]=>some (kd,l)
 |.int kd a::r=>(pY kd (.int kd a::r)).bind fun l=>some (kd,l)
 |_=>none
def arrN:List AV->Nat
 |[.arr _ _ n _ _]=>n
 |cs=>cs.length
def ptrA (H:eB):AV->Bool
 |.ptr B _=>(match H[B]? with
  |some (.obj ..)=>true
  |_=>false)
 |_=>false
def ownA (H:eB):AV->Bool
 |.iface _ (.agg cs)=>cs.any (ptrA H)
 |_=>false
def kelems (H:eB) (sz:Nat):AV->Option (List (List AV))
 |.nils=>some []
 |.klit cs=>if sz=1/\cs.all AV.one=true then some (cs.map fun a=>[a]) else none
 |.kown B=>match H[B]? with
  |some (.kns _ sz' es)=>if sz'=sz then some es else none
  |_=>none
 |_=>none
def aOpN (T:List dP) (st:gJ) (op:gQ) (k:dP->gJ->Option R):Option R:=match op with
 |.load n x=>match ax T st.fr x with
  |some (.val (.keptr B i o))=>(match st.H[B]? with
   |some (.kns _ _ es)=>(es[i]?).bind fun cs=>(gE cs o).bind fun x=>(gE x.2 (n.getD 1)).bind fun y=>(Wo n y.1).bind fun v=>k v st
   |_=>none)
  |some (.val (.eptr B 0 (.st 0)))=>(match st.H[B]?,n with
   |some (.arr _ _ _ (.int kd) l),some n=>if 1<n then cut (decide (l.length=n)) (k (.val (.agg [.arr false false n (.int kd) l])) st) else none
   |_,_=>none)
  |_=>none
 |.boxA x=>match av T st.fr x with
  |some (.agg cs)=>(arrI cs).bind fun y=>if 0<arrN cs then k (.val (.eptr st.H.length 0 (.st 0))) { st with H:=st.H++[.arr true false false (.int y.1) y.2] } else none
  |_=>none
 |.alloc loc sz z=>if loc=false/\sz=1/\z.all (·.length=1)=true then (mN z.flatten).bind fun cs=>(arrI cs).bind fun y=>if 0<arrN cs then
   k (.val (.eptr st.H.length 0 (.st 0))) { st with H:=st.H++[.arr true false false (.int y.1) y.2] } else none else none
 |.slA n sz x lo hi=>match ax T st.fr x with
  |some (.val (.eptr B 0 (.st 0)))=>(match st.H[B]? with
   |some (.arr _ _ _ t l)=>if sz=1/\t.n=1 then cut (decide (l.length=n)) (sC T st.fr 0 (fun l0=>sC T st.fr n (fun r=>cut (decide (l0≤r/\r≤n)) (k (.val (.sub B l0 (r-l0) (n-l0))) st)) hi) lo) else none
   |_=>none)
  |_=>none
 |.iadr sz x i=>match av T st.fr x with
  |some (.kown B)=>(av T st.fr i).bind fun i=>Ej i fun i=>(match st.H[B]? with
   |some (.kns _ sz' es)=>if sz'=sz then cut (decide (i<es.length)) (k (.val (.keptr B i 0)) st) else none
   |_=>none)
  |_=>none
 |.app sz bytes x y=>match av T st.fr x with
  |some (.kown B)=>(av T st.fr y).bind fun b=>(match st.H[B]? with
   |some (.kns true sz' es)=>if sz'=sz/\0<sz then (kelems st.H sz b).bind fun fs=>cut (decide ((es.length+fs.length)*(bytes+1)≤bY))
     (k (.val (.kown st.H.length)) { st with H:=st.H.set B .gone++[.kns true sz (es++fs)] }) else none
   |_=>none)
  |some (.klit cs)=>(av T st.fr y).bind fun b=>if sz=1/\cs.all AV.one=true/\AV.refsL cs=[] then (kelems st.H 1 b).bind fun fs=>if fs.isEmpty then k (.val (.klit cs)) st else
    cut (decide ((cs.length+fs.length)*(bytes+1)≤bY)) (k (.val (.kown st.H.length)) { st with H:=st.H++[.kns true 1 (cs.map (fun a=>[a])++fs)] }) else none
  |_=>none
 |.bsl own sz z len ps=>if own=false/\z.length=sz/\sz=1/\len*sz≤16777216 then (mN z).bind fun z=>if z.all AV.one then (wD T st.fr sz (List.replicate len z) ps).bind fun es=>
   if es.all (fun e=>e.all AV.one)=true/\es.flatten.any (ownA st.H)=true then k (.val (.klit es.flatten)) st else none else none
  else if own=true/\z.length=sz/\0<sz/\len*sz≤16777216/\0<len then (mN z).bind fun z=>if z.all AV.one then (wD T st.fr sz (List.replicate len z) ps).bind fun es=>
   if es.all (fun e=>decide (AV.refsL e=[])) then k (.val (.kown st.H.length)) { st with H:=st.H++[.kns true sz es] } else none else none else none
 |_=>none
noncomputable def Nh (T:List dP) (st:gJ) (dst:Option Nat) (op:gQ) (k:dP->gJ->Option R):Option R:=if isN ety T st dst op then aOpN T st op k else if isV ety T st dst op then Yd ety T st dst op k else Yb T st (ptrOp op) fun st=>iI cs opn ety icall T st dst op k
noncomputable def aIt (T:List dP) (it:cH) (st:gJ) (k:gJ->Option R):Option R:=match it.g with
 |none=>Nh cs opn ety icall T st it.dst it.op fun v st=>Cn T st it.dst v k
 |some (t,w)=>match mF T st.fr t with
  |some (.val (.bool b))=>bif b==w then Nh cs opn ety icall T { st with fr:=st.fr.put t (.val (.bool w)) } it.dst it.op fun v st=>Cn T st it.dst v k
    else Cn T { st with fr:=st.fr.put t (.val (.bool (!w))) } it.dst (.val (.tup [])) k
  |some (.val (.tup []))=>Cn T st it.dst (.val (.tup [])) k
  |_=>none
noncomputable def Ut (T:List dP):List cH->gJ->(gJ->Option R)->Option R
 |[],st,k=>k st
 |it::r,st,k=>aIt cs opn ety icall T it st fun st=>Ut T r st k
def zX (T:List dP) (σ:gZ) (its:List cH):Bool:=its.all fun it=>match it.dst with
 |some t=>wV T σ t
 |none=>true
end
def Vj (q0:List cH) (bs:List DB):List cH:=q0++bs.flatMap fun b=>b.w::b.qs
def Qq (T:List dP) (σ:gZ):gQ->Option (Option Nat×Bool)
 |.store _ p _=>match ax T σ p with
  |some (.lptr s _)=>some (some s,false)
  |some (.val _)=>some (none,true)
  |_=>none
 |.next x=>match x with
  |.t t=>some (some t,false)
  |_=>none
 |o=>some (none,!o.quiet opn)
def zE (T:List dP) (σ:gZ) (o:gQ):Bool:=o.deaf||match o with
 |.load _ x=>match ax T σ x with
  |some (.lptr _ _)=>true
  |some (.val (.rptr ..))=>true
  |_=>false
 |.slL _ x _ _ _=>match ax T σ x with
  |some (.val (.lst ..))=>true
  |some (.val .nils)=>true
  |_=>false
 |.iadr _ x _=>match ax T σ x with
  |some (.val (.lst ..))=>true
  |some (.val .nils)=>true
  |_=>false
 |_=>false
def Py (T:List dP) (σ:gZ) (it c:cH):Bool:=
 (match it.dst with
 |some t=>!c.slots.contains t&&decide (c.dst≠some t)
 |none=>true)&&
 match Qq opn T σ it.op with
 |some (b,hp)=>(!hp||zE T σ c.op)&&(match b with
  |some s=>c.op.deaf||c.op.slots.all fun t=>match ax T σ (.t t) with
   |some (.lptr s' _)=>s' != s
   |some _=>true
   |none=>false
  |none=>true)
 |none=>false
def Pz (T:List dP) (st:gJ) (it c:cH):Bool:=
 (match it.dst with
 |some t=>!c.slots.contains t&&decide (c.dst≠some t)
 |none=>true)&&
 match it.op,c.op with
 |.app _ _ x _,.load _ p=>(match av T st.fr x,ax T st.fr p with
  |some (.own B1),some (.val (.ptr B0 _))=>(match st.H[B0]?,st.H[B1]? with
   |some (.obj true _),some (.arr true _ _ _ _)=>B0 != B1
   |_,_=>false)
  |_,_=>false)
 |.bsl ..,.load _ p=>(match ax T st.fr p with
  |some (.val (.ptr B0 _))=>(match st.H[B0]? with
   |some (.obj _ _)=>true
   |_=>false)
  |_=>false)
 |.mks ..,.load _ p=>(match ax T st.fr p with
  |some (.val (.ptr B0 _))=>(match st.H[B0]? with
   |some (.obj _ _)=>true
   |_=>false)
  |_=>false)
 |_,_=>false
def wQ (T:List dP) (st:gJ) (it c:cH):Bool:=Py opn T st.fr it c||Pz T st it c
def rM (σ:gZ) (c:cH):Bool:=c.op.quiet opn&&match c.dst with
 |some t=>!c.slots.contains t&&(match σ.get t with
  |some (.val _)=>true
  |some (.lptr _ _)=>true
  |_=>false)
 |none=>false
def Vv (q0:List cH) (bs:List DB):List (cH×List cH):=q0.map (·,[])++bs.flatMap fun b=>(b.w,b.cs)::b.qs.map (·,[])
def Vd {R:Type} (a b:AV) (K:Option R):Option R:=match a,b with
 |.int k n,.int k' n'=>if k=k' then bif decide (n=n') then K else none else none
 |.bool x,.bool y=>bif x==y then K else none
 |.str x,.str y=>bif x==y then K else none
 |_,_=>none
def Of {R:Type} (a b:kT) (K:Option R):Option R:=match a,b with
 |.st x,.st y=>if x=y then K else none
 |.dyn o _ sz i o2,.dyn o' _ sz' i' o2'=>if o=o'/\sz=sz'/\o2=o2' then bif decide (i=i') then K else none else none
 |_,_=>none
noncomputable def Eh {R:Type} (icall:Nat->List AV->eB->(AV->eB->Option R)->Option R) (T:List dP) (t:Nat) (c:cH) (st:gJ) (K:Option R):Option R:=match st.fr.get t with
 |some (.val a)=>if c.op.quiet opn then Nh cs opn ety icall T st (some t) c.op (fun v _=>match v with
  |.val b=>Vd a b K
  |_=>none) else none
 |some (.lptr n o)=>if c.op.quiet opn then Nh cs opn ety icall T st (some t) c.op (fun v _=>match v with
  |.lptr n' o'=>if n=n' then Of o o' K else none
  |_=>none) else none
 |_=>none
def Js {R:Type} (t:Nat) (st:gJ) (K:Option R):Option R:=match st.fr.get t with
 |some (.val (.tup []))=>K
 |_=>none
noncomputable def Jc {R:Type} (icall:Nat->List AV->eB->(AV->eB->Option R)->Option R) (T:List dP) (c:cH) (st:gJ) (K:Option R):Option R:=match c.dst with
 |some t=>match c.g with
  |none=>Eh cs opn ety icall T t c st K
  |some (gt,w)=>match mF T st.fr gt with
   |some (.val (.bool b))=>bif b==w then Eh cs opn ety icall T t c st K else Js t st K
   |some (.val (.tup []))=>Js t st K
   |_=>none
 |none=>none
noncomputable def xN {R:Type} (icall:Nat->List AV->eB->(AV->eB->Option R)->Option R) (T:List dP):List cH->gJ->Option R->Option R
 |[],_,K=>K
 |c::r,st,K=>Jc cs opn ety icall T c st (xN icall T r st K)
noncomputable def aDs {R:Type} (icall:Nat->List AV->eB->(AV->eB->Option R)->Option R) (T:List dP):List (cH×List cH)->List cH->gJ->(gJ->Option R)->Option R
 |[],_,st,k=>k st
 |(it,cs')::r,wat,st,k=>aIt cs opn ety icall T it st fun st'=>
    xN cs opn ety icall T (cs'.filter fun c=>!((wat.filter (wQ opn T st it)).any fun d=>decide (d=c))) st'
     (aDs icall T r (if rM opn st'.fr it then it::wat.filter (wQ opn T st it) else wat.filter (wQ opn T st it)) st' k)
def splitN {R:Type} (x:Int) (f:Int->Option R):List Int->Option R
 |[]=>none
 |i::r=>bif decide (x=i) then f i else splitN x f r
def unrN {R:Type} (f:gJ->(Ex->gJ->Option R)->Option R):Nat->gJ->(Ex->gJ->Option R)->Option R
 |0,_,_=>none
 |n+1,st,k=>f st fun ex st=>match ex with
  |.normal=>unrN f n st k
  |ex=>k ex st
noncomputable def aC (icall:∀R:Type,Nat->List AV->eB->(AV->eB->Option R)->Option R) (lp:∀S X:Type,(S->Option (S⊕X))->S->Option X):iH->(T:List dP)->(st:gJ)->{R:Type}->(Ex->gJ->Option R)->Option R
 |.skip,T,st,_,k=>k .normal st
 |.reg its live,T,st,R,k=>Ut cs opn ety (icall R) T its st fun st=>k .normal { st with fr:=st.fr.keep live }
 |.drw q0 bs live,T,st,R,k=>if zX T st.fr (Vj q0 bs) then aDs cs opn ety (icall R) T (Vv q0 bs) [] st fun st=>k .normal { st with fr:=st.fr.keep live } else none
 |.seq a b,T,st,R,k=>aC icall lp a T st fun ex st=>match ex with
  |.normal=>aC icall lp b T st k
  |ex=>k ex st
 |.cond c a b,T,st,R,k=>match av T st.fr c with
  |some (.bool b')=>bif b' then aC icall lp a T st k else aC icall lp b T st k
  |_=>none
 |.block id c,T,st,R,k=>aC icall lp c T st fun ex st=>if ex = .exit id then k .normal st else k ex st
 |.loop head exits c,T,st,R,k=>
  let H:=st.H
  let bs:=mJ T st.H st.fr
  let ks:=lC T st.fr head 0
  let bh:=fun t=>match pF ks.2.2 t with|some i=>some (.cst i)|none=>(iF st.H t).orElse fun _=>mF T st.fr t
  (Nr T (fun _=>none) bh false st head).bind fun x=>
  (lp _ _ (fun s=>(inv bh head s (eL (x.2.own++x.2.frz) true 0 st.H)).bind fun st1=>
    aC icall lp c ks.2.1 st1 (R:=(cW head.hs).den⊕XT exits) fun ex st=>match ex with
     |.normal=>if tP H st.H then (Nr ks.2.1 (pF ks.2.2) bh true st head).bind fun y=>some (.inl y.1) else none
     |ex=>if tP H st.H then (Hb ks.2.1 (pF ks.2.2) bs ex st exits).bind fun y=>some (.inr y) else none) x.1).bind fun v=>
  Ij bs (eL (x.2.own++x.2.frz++x.2.obj) false 0 st.H) exits v k
 |.exit id,T,st,_,k=>k (.exit id) st
 |.ret,T,st,_,k=>k .ret st
 |.bad,_,_,_,_=>none
 |.prim _,_,_,_,_=>none
 |.refine t o kd i c,T,st,R,k=>match av T st.fr (.t t) with
  |some (.ptr B _)=>match st.H[B]? with
   |some (.obj wr cs)=>match gE cs o with
    |some (pre,.int kd' x::post)=>if kd'=kd then cut (decide (x=i)) (aC icall lp c T { st with H:=st.H.set B (.obj wr (pre++.int kd i::post)) } k) else none
    |_=>none
   |_=>none
  |_=>none
 |.split t o kd is c,T,st,R,k=>match av T st.fr (.t t) with
  |some (.agg cs)=>match gE cs o with
   |some (pre,.int kd' x::post)=>if kd'=kd then splitN x (fun i=>aC icall lp c T { st with fr:=st.fr.put t (.val (.agg (pre++.int kd i::post))) } k) is else none
   |_=>none
  |_=>none
 |.unr n c,T,st,R,k=>unrN (fun st k=>aC icall lp c T st k) n st k
 |.join raw exits c,T,st,R,k=>
  let H:=st.H
  let bs:=mJ T st.H st.fr
  let gv:=raw.flatMap (Ps T st)
  let ks:=kS T st.fr raw st.fr 0
  (aC icall lp c ks.2.1 ⟨ks.1,Ap gv 0 st.H⟩ (R:=XT exits) fun ex st=>if tP H st.H then Hb ks.2.1 (pF ks.2.2) bs ex st exits else none).bind fun v=>
  Ij bs (eL gv false 0 st.H) exits v k
end
end Go.Ideal
namespace Go.Ideal
def dI {α β:Type} (r:α->β->Prop):List α->List β->Prop
 |[],[]=>True
 |a::as,b::bs=>r a b/\dI r as bs
 |_,_=>False
section
variable {α β:Type} {r q:α->β->Prop}
theorem dI.len:∀{l:List α} {m:List β},dI r l m->m.length=l.length
 |[],[],_=>rfl
 |a::l,b::m,h=>by simp[dI.len h.2]
 |[],_::_,h=>h.elim
 |_::_,[],h=>h.elim
theorem dI.imp (f:∀a b,r a b->q a b):∀{l:List α} {m:List β},dI r l m->dI q l m
 |[],[],_=>trivial
 |a::l,b::m,h=>⟨f a b h.1,dI.imp f h.2⟩
 |[],_::_,h=>h.elim
 |_::_,[],h=>h.elim
theorem dI.get:∀{l:List α} {m:List β},dI r l m->∀{i:Nat} {a:α},l[i]? = some a->∃b,m[i]? = some b/\r a b
 |a::l,b::m,h,0,x,hx=>by simp at hx;subst hx;exact⟨b,rfl,h.1⟩
 |a::l,b::m,h,i+1,x,hx=>by simpa using dI.get h.2 (i:=i) (by simpa using hx)
 |[],[],_,i,x,hx=>by simp at hx
 |[],_::_,h,_,_,_=>h.elim
 |_::_,[],h,_,_,_=>h.elim
theorem dI.app:∀{l:List α} {m:List β} {l':List α} {m':List β},dI r l m->dI r l' m'->dI r (l++l') (m++m')
 |[],[],_,_,_,h=>h
 |a::l,b::m,_,_,h,h'=>⟨h.1,dI.app h.2 h'⟩
 |[],_::_,_,_,h,_=>h.elim
 |_::_,[],_,_,h,_=>h.elim
theorem dI.take:∀(n:Nat) {l:List α} {m:List β},dI r l m->dI r (l.take n) (m.take n)
 |0,_,_,_=>by simp[dI]
 |n+1,[],[],h=>by simp[dI]
 |n+1,a::l,b::m,h=>by simpa [dI]using ⟨h.1,dI.take n h.2⟩
 |_+1,[],_::_,h=>h.elim
 |_+1,_::_,[],h=>h.elim
theorem dI.drop:∀(n:Nat) {l:List α} {m:List β},dI r l m->dI r (l.drop n) (m.drop n)
 |0,_,_,h=>by simpa using h
 |n+1,[],[],h=>by simp[dI]
 |n+1,a::l,b::m,h=>by simpa using dI.drop n h.2
 |_+1,[],_::_,h=>h.elim
 |_+1,_::_,[],h=>h.elim
theorem dI.set {a:α} {b:β} (hab:r a b):∀(i:Nat) {l:List α} {m:List β},dI r l m->dI r (l.set i a) (m.set i b)
 |_,[],[],h=>by simp[dI]
 |0,x::l,y::m,h=>by simpa [dI]using ⟨hab,h.2⟩
 |i+1,x::l,y::m,h=>by simpa [dI]using ⟨h.1,dI.set hab i h.2⟩
 |_,[],_::_,h=>h.elim
 |_,_::_,[],h=>h.elim
theorem dI.map_r {γ:Type} {f:β->γ} {q:α->γ->Prop} (h:∀a b,r a b->q a (f b)):∀{l:List α} {m:List β},dI r l m->dI q l (m.map f)
 |[],[],_=>trivial
 |a::l,b::m,hh=>⟨h a b hh.1,dI.map_r h hh.2⟩
 |[],_::_,h=>h.elim
 |_::_,[],h=>h.elim
theorem dI.mem_r:∀{l:List α} {m:List β},dI r l m->∀b∈m,∃a∈l,r a b
 |a::l,b::m,h,x,hx=>by
  rcases aQ.1 hx with rfl|hx
  ·exact⟨a,by simp,h.1⟩
  ·obtain⟨y,hy,h'⟩:=dI.mem_r h.2 x hx;exact⟨y,by simp[hy],h'⟩
 |[],[],_,x,hx=>by simp at hx
 |[],_::_,h,_,_=>h.elim
 |_::_,[],h,_,_=>h.elim
theorem dI.repl {a:α} {b:β} (h:r a b):∀n,dI r (List.replicate n a) (List.replicate n b)
 |0=>trivial
 |n+1=>⟨h,dI.repl h n⟩
end
def TR (p:Bool) (Z:Nat->Prop) (h:aN) (ln:Bool):(t:Ty)->(hp:Bool)->t.den->List IV->Prop
 |.int k,_,x,c=>c=[.int k x]
 |.bool,_,x,c=>c=[.bool x]
 |.str,_,x,c=>c=[.str x]
 |.unit,_,_,c=>c=[]
 |.lst t,hp,l,c=>∃iv,c=[iv]/\((l=[]/\(iv = .nils\/iv = .esl))\/(∃bo es,iv = .ro bo es/\(bo=true->ln=true/\p=true)/\dI (TR p Z h ln t false) l es)\/
   (hp=true/\∃b tot off len cap k,iv = .sl b tot off len cap/\Z b/\hget h b tot=some k/\k.sz=t.n/\(off+len≤tot/\len≤cap)/\dI (TR p Z h ln t true) l ((k.es.drop off).take len)))
 |.pair a b,hp,x,c=>∃u v,c=u++v/\TR p Z h ln a hp x.1 u/\TR p Z h ln b hp x.2 v
 |.arr n t,hp,l,c=>∃es:List (List IV),c=es.flatten/\es.length=n/\dI (TR p Z h ln t hp) l es
 |.ow _ t,hp,x,c=>False
structure Cf where
 p:Bool
 H:eB
 m:Nat->Option Nat
 Z:Nat->Prop
 h:aN
 f:Nat->List Nat
 rt:Nat->Option Nat
def Cf.ft (c:Cf) (B:Nat):List Nat:=(c.m B).toList++c.f B
theorem Cf.ft_m {c:Cf} {B b:Nat} (h:c.m B=some b):b∈c.ft B:=by simp[Cf.ft,h]
theorem Cf.ft_f {c:Cf} {B b:Nat} (h:b∈c.f B):b∈c.ft B:=by simp[Cf.ft,h]
theorem Cf.ft_iff {c:Cf} {B b:Nat}:b∈c.ft B↔c.m B=some b\/b∈c.f B:=by simp[Cf.ft,Option.mem_toList,Option.mem_def]
def fC (mb:Option Nat) (n:Nat) (iv:IV):Prop:=match mb with
 |none=>iv = .nils\/iv = .esl
 |some b=>iv = .sl b n 0 n n
def tJ (mb:Option Nat) (n off len cap:Nat) (iv:IV):Prop:=off+cap=n/\len≤cap/\match mb with
 |none=>(iv = .nils\/iv = .esl)/\len=0/\off=0
 |some b=>iv = .sl b n off len cap
def lV (c:Cf) (B:Nat) (o:kT) (iv:IV):Prop:=match c.H[B]? with
 |some .gone=>True
 |some (.obj _ _)=>∃b,c.m B=some b/\iv = .ptr b 1 0 o.val
 |some (.fold _ _ _)=>o = .st 0/\match c.m B with
  |none=>iv = .nilp
  |some b=>iv = .ptr b 1 0 0
 |_=>False
theorem lV.obj {c:Cf} {B:Nat} {o:kT} {iv:IV} (h:lV c B o iv) {wr:Bool} {cs:List AV} (hB:c.H[B]? = some (.obj wr cs)):∃b,c.m B=some b/\iv = .ptr b 1 0 o.val:=by
 unfold lV at h;rw[hB]at h;exact h
theorem lV.mk {c:Cf} {B b:Nat} {o:kT} {wr:Bool} {cs:List AV} (hB:c.H[B]? = some (.obj wr cs)) (hm:c.m B=some b):lV c B o (.ptr b 1 0 o.val):=by
 unfold lV;rw[hB];exact⟨b,hm,rfl⟩
def mP (c:Cf) (B:Nat) (iv:IV):Prop:=match c.H[B]? with
 |some .gone=>True
 |some (.arr2 _ _ l _)=>fC (c.m B) l.length iv
 |_=>False
def lW (c:Cf) (B i:Nat) (o:kT) (iv:IV):Prop:=match c.H[B]? with
 |some .gone=>True
 |some (.arr2 _ _ l _)=>∃b,c.m B=some b/\iv = .ptr b l.length i o.val/\i<l.length
 |_=>False
def KownR (c:Cf) (B:Nat) (iv:IV):Prop:=match c.H[B]? with
 |some .gone=>True
 |some (.kns _ _ es)=>∃b,c.m B=some b/\iv = .sl b es.length 0 es.length es.length
 |_=>False
def KeptrR (c:Cf) (B i o:Nat) (iv:IV):Prop:=match c.H[B]? with
 |some .gone=>True
 |some (.kns _ _ es)=>∃b,c.m B=some b/\iv = .ptr b es.length i o/\i<es.length
 |_=>False
def IV.onc:IV->Bool
 |.mark=>false
 |v=>v.one
theorem IV.onc_one {v:IV} (h:v.onc=true):v.one=true:=by cases v<;>first|exact h|cases h
theorem IV.onc_ne {v:IV} (h:v.onc=true):v≠.mark:=by rintro rfl;cases h
mutual
def Va (c:Cf):AV->IV->Prop
 |.int k x,iv=>iv = .int k x
 |.bool b,iv=>iv = .bool b
 |.str s,iv=>iv = .str s
 |.nils,iv=>iv = .nils\/iv = .esl
 |.lst hp ln t l,iv=>TR c.p c.Z c.h ln (.lst t) hp l [iv]
 |.own B,iv=>iv.onc=true/\(c.H[B]? = some .gone\/∃wr hp ln t l,c.H[B]? = some (.arr wr hp ln t l)/\fC (c.m B) l.length iv)
 |.sub B off len cap,iv=>iv.onc=true/\(c.H[B]? = some .gone\/∃wr hp ln t l,c.H[B]? = some (.arr wr hp ln t l)/\tJ (c.m B) l.length off len cap iv)
 |.nilp,iv=>iv = .nilp
 |.ptr B o,iv=>iv.onc=true/\lV c B o iv
 |.own2 B,iv=>iv.onc=true/\mP c B iv
 |.eptr2 B i o,iv=>iv.onc=true/\lW c B i o iv
 |.eptr B i o,iv=>iv.onc=true/\(c.H[B]? = some .gone\/∃wr hp ln t l b,c.H[B]? = some (.arr wr hp ln t l)/\c.m B=some b/\iv = .ptr b l.length i o.val/\i<l.length)
 |.rptr hp ln cs o,iv=>∃e,dB c cs e/\((∃bo,iv = .rptr bo e o.val)\/(hp=true/\∃b tot i k,iv = .ptr b tot i o.val/\c.Z b/\hget c.h b tot=some k/\k.es[i]? = some e))
 |.arr ..,iv=>False
 |.agg cs,iv=>∃ivs,iv = .agg ivs/\dB c cs ivs
 |.tup cs,iv=>∃ivs,iv = .tup ivs/\jP c cs ivs
 |.fn f a b,iv=>∃a' b',iv = .fn (.func f) a' b'/\jP c a a'/\jP c b b'
 |.nilf,iv=>iv = .nilf
 |.mark,iv=>iv = .mark
 |.any,iv=>iv.onc=true
 |.iface t v,iv=>∃w,iv = .iface t w/\Va c v w
 |.klit cs,iv=>∃ivs:List IV,iv = .lit (ivs.map fun v=>[v])/\dB c cs ivs
 |.kown B,iv=>iv.onc=true/\KownR c B iv
 |.keptr B i o,iv=>iv.onc=true/\KeptrR c B i o iv
def Ca (c:Cf):AV->List IV->Prop
 |.arr hp ln n t l,u=>TR c.p c.Z c.h ln (.arr n t) hp l u
 |.agg _,_=>False
 |.tup _,_=>False
 |.int k x,u=>u=[.int k x]
 |.bool b,u=>u=[.bool b]
 |.str s,u=>u=[.str s]
 |.nils,u=>∃iv,u=[iv]/\(iv = .nils\/iv = .esl)
 |.lst hp ln t l,u=>TR c.p c.Z c.h ln (.lst t) hp l u
 |.own B,u=>∃iv,u=[iv]/\iv.onc=true/\(c.H[B]? = some .gone\/∃wr hp ln t l,c.H[B]? = some (.arr wr hp ln t l)/\fC (c.m B) l.length iv)
 |.sub B off len cap,u=>∃iv,u=[iv]/\iv.onc=true/\(c.H[B]? = some .gone\/∃wr hp ln t l,c.H[B]? = some (.arr wr hp ln t l)/\tJ (c.m B) l.length off len cap iv)
 |.nilp,u=>u=[.nilp]
 |.ptr B o,u=>∃iv,u=[iv]/\iv.onc=true/\lV c B o iv
 |.own2 B,u=>∃iv,u=[iv]/\iv.onc=true/\mP c B iv
 |.eptr2 B i o,u=>∃iv,u=[iv]/\iv.onc=true/\lW c B i o iv
 |.eptr B i o,u=>∃iv,u=[iv]/\iv.onc=true/\(c.H[B]? = some .gone\/∃wr hp ln t l b,c.H[B]? = some (.arr wr hp ln t l)/\c.m B=some b/\iv = .ptr b l.length i o.val/\i<l.length)
 |.rptr hp ln cs o,u=>∃iv,u=[iv]/\∃e,dB c cs e/\((∃bo,iv = .rptr bo e o.val)\/(hp=true/\∃b tot i k,iv = .ptr b tot i o.val/\c.Z b/\hget c.h b tot=some k/\k.es[i]? = some e))
 |.fn f a b,u=>∃a' b',u=[.fn (.func f) a' b']/\jP c a a'/\jP c b b'
 |.nilf,u=>u=[.nilf]
 |.mark,u=>u=[.mark]
 |.any,u=>∃iv,u=[iv]/\iv.onc=true
 |.iface t v,u=>∃w,u=[.iface t w]/\Va c v w
 |.klit cs,u=>∃ivs:List IV,u=[.lit (ivs.map fun v=>[v])]/\dB c cs ivs
 |.kown B,u=>∃iv,u=[iv]/\iv.onc=true/\KownR c B iv
 |.keptr B i o,u=>∃iv,u=[iv]/\iv.onc=true/\KeptrR c B i o iv
def dB (c:Cf):List AV->List IV->Prop
 |[],ivs=>ivs=[]
 |a::r,ivs=>∃u v,ivs=u++v/\Ca c a u/\dB c r v
def jP (c:Cf):List AV->List IV->Prop
 |[],ivs=>ivs=[]
 |a::r,ivs=>∃u v,ivs=u::v/\Va c a u/\jP c r v
end
theorem TR.one {p:Bool} {Z:Nat->Prop} {h:aN} {ln:Bool}:∀{t:Ty} {hp:Bool} {x:t.den} {c:List IV},TR p Z h ln t hp x c->c.length=t.n/\∀v∈c,v.one=true
 |.int k,_,x,c,e=>by simp only[TR]at e;subst e;simp[Ty.n,IV.one]
 |.bool,_,x,c,e=>by simp only[TR]at e;subst e;simp[Ty.n,IV.one]
 |.str,_,x,c,e=>by simp only[TR]at e;subst e;simp[Ty.n,IV.one]
 |.unit,_,x,c,e=>by simp only[TR]at e;subst e;simp[Ty.n]
 |.lst t,hp,l,c,e=>by
  simp only[TR]at e
  obtain⟨iv,rfl,e⟩:=e
  refine⟨rfl,fun v hv=>?_⟩
  simp at hv;subst hv
  rcases e with ⟨_,rfl|rfl⟩|⟨_,_,rfl,_⟩|⟨_,_,_,_,_,_,_,rfl,_⟩<;>rfl
 |.pair a b,hp,x,c,e=>by
  simp only[TR]at e
  obtain⟨u,v,rfl,h1,h2⟩:=e
  have a1:=TR.one h1
  have a2:=TR.one h2
  refine⟨by simp[Ty.n,a1.1,a2.1],fun w hw=>?_⟩
  rcases aE.1 hw with h|h
  ·exact a1.2 w h
  ·exact a2.2 w h
 |.arr n t,hp,l,c,e=>by
  simp only[TR]at e
  obtain⟨es,rfl,rfl,h1⟩:=e
  have:∀e∈es,e.length=t.n/\∀v∈e,v.one=true:=fun e he=>by
   obtain⟨x,_,hx⟩:=h1.mem_r e he
   exact TR.one hx
  constructor
  ·clear h1 l
   induction es with
   |nil=>simp[Ty.n]
   |cons e es ih=>
    have h2:=ih (fun e he=>this e (by simp[he]))
    have h3:=(this e (by simp)).1
    simp only[Ty.n,cB,aV,eE]at h2 |-
    rw[h2,h3,cJ,kM,Nat.add_comm]
  ·intro v hv
   obtain⟨e,he,hv⟩:=eY.1 hv
   exact(this e he).2 v hv
 |.ow _ t,hp,x,c,e=>by simp[TR]at e
theorem eT {c:Cf} {a:AV} (ha:a.one=true) {u:List IV}:Ca c a u↔∃iv,u=[iv]/\iv.one=true/\Va c a iv:=by
 cases a<;>simp only[AV.one]at ha<;>try (cases ha)
 case lst hp ln t l=>
  simp only[Ca,Va]
  constructor
  ·intro h
   obtain⟨h1,h2⟩:=TR.one h
   simp only[Ty.n]at h1
   obtain⟨iv,rfl⟩:=iS.1 h1
   exact⟨iv,rfl,h2 iv (by simp),h⟩
  ·rintro⟨iv,rfl,_,h⟩;exact h
 case nils=>
  simp only[Ca,Va]
  constructor
  ·rintro⟨iv,rfl,h⟩;exact⟨iv,rfl,by rcases h with rfl|rfl<;>rfl,h⟩
  ·rintro⟨iv,rfl,_,h⟩;exact⟨iv,rfl,h⟩
 case rptr hp ln cs o=>
  simp only[Ca,Va]
  constructor
  ·rintro⟨iv,rfl,h⟩
   refine⟨iv,rfl,?_,h⟩
   obtain⟨e,_,⟨bo,rfl⟩|⟨_,b,tot,i,k,rfl,_⟩⟩:=h<;>rfl
  ·rintro⟨iv,rfl,_,h⟩;exact⟨iv,rfl,h⟩
 case fn f a b=>
  simp only[Ca,Va]
  constructor
  ·rintro⟨a',b',rfl,h⟩;exact⟨_,rfl,rfl,a',b',rfl,h⟩
  ·rintro⟨iv,rfl,_,a',b',rfl,h⟩;exact⟨a',b',rfl,h⟩
 case own B=>simp only[Ca,Va];exact⟨fun⟨iv,h1,h2,h3⟩=>⟨iv,h1,IV.onc_one h2,h2,h3⟩,fun⟨iv,h1,_,h2,h3⟩=>⟨iv,h1,h2,h3⟩⟩
 case any=>simp only[Ca,Va];exact⟨fun⟨iv,h1,h2⟩=>⟨iv,h1,IV.onc_one h2,h2⟩,fun⟨iv,h1,_,h2⟩=>⟨iv,h1,h2⟩⟩
 case iface t v=>simp only[Ca,Va];exact⟨fun⟨w,h1,h2⟩=>⟨_,h1,rfl,w,rfl,h2⟩,fun⟨iv,h1,_,w,h2,h3⟩=>⟨w,by rw[h1,h2],h3⟩⟩
 case klit cs=>simp only[Ca,Va];exact⟨fun⟨w,h1,h2⟩=>⟨_,h1,rfl,w,rfl,h2⟩,fun⟨iv,h1,_,w,h2,h3⟩=>⟨w,by rw[h1,h2],h3⟩⟩
 case kown B=>simp only[Ca,Va];exact⟨fun⟨iv,h1,h2,h3⟩=>⟨iv,h1,IV.onc_one h2,h2,h3⟩,fun⟨iv,h1,_,h2,h3⟩=>⟨iv,h1,h2,h3⟩⟩
 case keptr B i o=>simp only[Ca,Va];exact⟨fun⟨iv,h1,h2,h3⟩=>⟨iv,h1,IV.onc_one h2,h2,h3⟩,fun⟨iv,h1,_,h2,h3⟩=>⟨iv,h1,h2,h3⟩⟩
 case eptr2 B i o=>simp only[Ca,Va];exact⟨fun⟨iv,h1,h2,h3⟩=>⟨iv,h1,IV.onc_one h2,h2,h3⟩,fun⟨iv,h1,_,h2,h3⟩=>⟨iv,h1,h2,h3⟩⟩
 case own2 B=>simp only[Ca,Va];exact⟨fun⟨iv,h1,h2,h3⟩=>⟨iv,h1,IV.onc_one h2,h2,h3⟩,fun⟨iv,h1,_,h2,h3⟩=>⟨iv,h1,h2,h3⟩⟩
 case sub B _ _ _=>simp only[Ca,Va];exact⟨fun⟨iv,h1,h2,h3⟩=>⟨iv,h1,IV.onc_one h2,h2,h3⟩,fun⟨iv,h1,_,h2,h3⟩=>⟨iv,h1,h2,h3⟩⟩
 case ptr B o=>simp only[Ca,Va];exact⟨fun⟨iv,h1,h2,h3⟩=>⟨iv,h1,IV.onc_one h2,h2,h3⟩,fun⟨iv,h1,_,h2,h3⟩=>⟨iv,h1,h2,h3⟩⟩
 case eptr B i o=>simp only[Ca,Va];exact⟨fun⟨iv,h1,h2,h3⟩=>⟨iv,h1,IV.onc_one h2,h2,h3⟩,fun⟨iv,h1,_,h2,h3⟩=>⟨iv,h1,h2,h3⟩⟩
 all_goals
  simp only[Ca,Va]
  constructor
  ·rintro rfl;exact⟨_,rfl,rfl,rfl⟩
  ·rintro⟨iv,rfl,_,rfl⟩;rfl
theorem Ca.len {c:Cf} {a:AV} {u:List IV} (h:Ca c a u):u.length=a.w/\∀v∈u,v.one=true:=by
 cases hh:a.one with
 |true=>
  obtain⟨iv,rfl,h1,_⟩:=(eT hh).1 h
  refine⟨?_,by simpa using h1⟩
  cases a<;>simp_all [AV.one,AV.w]
 |false=>
  cases a<;>simp only[AV.one,Bool.true_eq_false]at hh
  case agg=>exact h.elim
  case tup=>exact h.elim
  case arr hp ln n t l=>exact TR.one h
theorem dB.len {c:Cf}:∀{cs:List AV} {u:List IV},dB c cs u->u.length=mA cs/\∀v∈u,v.one=true
 |[],u,h=>by simp only[dB]at h;subst h;simp[mA]
 |a::r,u,h=>by
  simp only[dB]at h
  obtain⟨x,y,rfl,h1,h2⟩:=h
  have:=Ca.len h1
  have:=dB.len h2
  refine⟨by simp[mA, *],fun v hv=>?_⟩
  rcases aE.1 hv with h|h
  ·exact(Ca.len h1).2 v h
  ·exact(dB.len h2).2 v h
theorem dB.app {c:Cf}:∀{cs ds:List AV} {u v:List IV},dB c cs u->dB c ds v->dB c (cs++ds) (u++v)
 |[],ds,u,v,h,h'=>by simp only[dB]at h;subst h;simpa using h'
 |a::r,ds,u,v,h,h'=>by
  simp only[dB]at h
  obtain⟨x,y,rfl,h1,h2⟩:=h
  exact⟨x,y++v,by simp,h1,dB.app h2 h'⟩
theorem dB.splitA {c:Cf}:∀{cs ds:List AV} {u:List IV},dB c (cs++ds) u->∃x y,u=x++y/\dB c cs x/\dB c ds y
 |[],ds,u,h=>⟨[],u,rfl,rfl,h⟩
 |a::r,ds,u,h=>by
  simp only[cG,dB]at h
  obtain⟨x,y,rfl,h1,h2⟩:=h
  obtain⟨p,q,rfl,h3,h4⟩:=dB.splitA h2
  exact⟨x++p,q,by simp,⟨x,p,rfl,h1,h3⟩,h4⟩
theorem jE:∀{cs:List AV} {n:Nat} {x:List AV×List AV},gE cs n=some x->cs=x.1++x.2/\mA x.1=n
 |cs,0,x,h=>by simp only[gE,aD]at h;subst h;simp[mA]
 |[],n+1,x,h=>by simp[gE]at h
 |c::r,n+1,x,h=>by
  simp only[gE]at h
  split at h
  ·rename_i hw
   obtain⟨y,hy,e⟩:=aA.1 h
   simp only[aD]at e
   subst e
   obtain⟨h1,h2⟩:=jE hy
   refine⟨by simp[<-h1],?_⟩
   simp only[mA,h2];omega
  ·cases h
theorem dB.split {c:Cf} {cs:List AV} {u:List IV} (h:dB c cs u) {n:Nat} {x:List AV×List AV} (e:gE cs n=some x):
 dB c x.1 (u.take n)/\dB c x.2 (u.drop n)/\n≤u.length:=by
 obtain⟨h1,h2⟩:=jE e
 rw[h1]at h
 obtain⟨a,b,rfl,ha,hb⟩:=dB.splitA h
 have:=(dB.len ha).1
 rw[h2]at this
 subst this
 simp only[List.take_left,List.drop_left,aV]
 exact⟨ha,hb,by omega⟩
theorem dB.cons {c:Cf} {a:AV} {r:List AV} {x y:List IV} (h:Ca c a x) (h':dB c r y):dB c (a::r) (x++y):=⟨x,y,rfl,h,h'⟩
theorem dB.single {c:Cf} {a:AV} {u:List IV}:dB c [a] u↔Ca c a u:=by
 simp only[dB]
 constructor
 ·rintro⟨x,y,rfl,h,rfl⟩;simpa using h
 ·intro h;exact⟨u,[],by simp,h,rfl⟩
theorem jP.len {c:Cf}:∀{l:List AV} {m:List IV},jP c l m->m.length=l.length
 |[],m,h=>by simp only[jP]at h;subst h;rfl
 |a::r,m,h=>by simp only[jP]at h;obtain⟨u,v,rfl,_,h⟩:=h;simp[jP.len h]
theorem jP.app {c:Cf}:∀{l l':List AV} {m m':List IV},jP c l m->jP c l' m'->jP c (l++l') (m++m')
 |[],l',m,m',h,h'=>by simp only[jP]at h;subst h;simpa using h'
 |a::r,l',m,m',h,h'=>by
  simp only[jP]at h;obtain⟨u,v,rfl,h1,h⟩:=h
  exact⟨u,v++m',by simp,h1,jP.app h h'⟩
theorem jP.get {c:Cf}:∀{l:List AV} {m:List IV} {i:Nat} {a:AV},jP c l m->l[i]? = some a->∃v,m[i]? = some v/\Va c a v
 |a::r,m,0,x,h,e=>by
  simp at e;subst e
  simp only[jP]at h;obtain⟨u,v,rfl,h1,h⟩:=h
  exact⟨u,rfl,h1⟩
 |a::r,m,i+1,x,h,e=>by
  simp only[jP]at h;obtain⟨u,v,rfl,h1,h⟩:=h
  simpa using jP.get h (by simpa using e)
 |[],m,i,x,h,e=>by simp at e
theorem iD {c:Cf} {hp ln:Bool}:∀{t:Ty} {x:t.den} {u:List IV},TR c.p c.Z c.h ln t hp x u->dB c (dF hp ln t x) u
 |.int k,x,u,h=>by simp only[dF,dB.single,Ca];exact h
 |.bool,x,u,h=>by simp only[dF,dB.single,Ca];exact h
 |.str,x,u,h=>by simp only[dF,dB.single,Ca];exact h
 |.unit,x,u,h=>by simp only[dF,dB];exact h
 |.lst t,x,u,h=>by simp only[dF,dB.single,Ca];exact h
 |.pair a b,x,u,h=>by
  simp only[TR]at h
  obtain⟨y,z,rfl,h1,h2⟩:=h
  simp only[dF]
  exact dB.app (iD h1) (iD h2)
 |.arr n t,x,u,h=>by simp only[dF,dB.single,Ca];exact h
 |.ow _ t,x,u,h=>by simp[TR]at h
theorem TR.flags {p:Bool} {Z:Nat->Prop} {h:aN} {ln ln':Bool} (l1:ln=true->ln'=true):∀{t:Ty} {hp hp':Bool} (h1:hp=true->hp'=true) {x:t.den} {c:List IV},TR p Z h ln t hp x c->TR p Z h ln' t hp' x c
 |.int k,_,_,_,x,c,e=>by simpa only[TR]using e
 |.bool,_,_,_,x,c,e=>by simpa only[TR]using e
 |.str,_,_,_,x,c,e=>by simpa only[TR]using e
 |.unit,_,_,_,x,c,e=>by simpa only[TR]using e
 |.lst t,hp,hp',h1,l,c,e=>by
  simp only[TR]at e |-
  obtain⟨iv,rfl,e⟩:=e
  refine⟨iv,rfl,?_⟩
  rcases e with e|⟨bo,es,rfl,e1,e2⟩|⟨e0,b,tot,off,len,cap,k,rfl,e1,e2,e3,e4,e5⟩
  ·exact .inl e
  ·exact .inr (.inl ⟨bo,es,rfl,fun hb=>⟨l1 (e1 hb).1,(e1 hb).2⟩,e2.imp fun a b h=>TR.flags l1 (fun h=>h) h⟩)
  ·exact .inr (.inr ⟨h1 e0,b,tot,off,len,cap,k,rfl,e1,e2,e3,e4,e5.imp fun a b h=>TR.flags l1 (fun h=>h) h⟩)
 |.pair a b,hp,hp',h1,x,c,e=>by
  simp only[TR]at e |-
  obtain⟨u,v,rfl,h2,h3⟩:=e
  exact⟨u,v,rfl,TR.flags l1 h1 h2,TR.flags l1 h1 h3⟩
 |.arr n t,hp,hp',h1,l,c,e=>by
  simp only[TR]at e |-
  obtain⟨es,rfl,h2,h3⟩:=e
  exact⟨es,rfl,h2,h3.imp fun a b h=>TR.flags l1 h1 h⟩
 |.ow _ t,_,_,_,x,c,e=>by simp[TR]at e
theorem cZ {h:aN} {b tot:Nat} {k:mQ}:hget h b tot=some k↔h[b]? = some (some k)/\k.es.length=tot:=by
 unfold hget
 split
 ·rename_i k' e
  rw[e]
  constructor
  ·intro h'
   split at h'
   ·simp at h';subst h';exact⟨rfl,‹_›⟩
   ·cases h'
  ·rintro⟨h1,h2⟩
   simp at h1;subst h1;rw[if_pos h2]
 ·rename_i hno
  constructor
  ·intro h';cases h'
  ·rintro⟨h1,_⟩;exact(hno k h1).elim
structure Ns (Z Z':Nat->Prop) (h h':aN):Prop where
 z:∀b,Z b->Z' b
 h:∀b,Z b->h'[b]? = h[b]?
theorem TR.mono {p:Bool} {Z Z':Nat->Prop} {h h':aN} (le:Ns Z Z' h h') {ln:Bool}:∀{t:Ty} {hp:Bool} {x:t.den} {c:List IV},TR p Z h ln t hp x c->TR p Z' h' ln t hp x c
 |.int k,_,x,c,e=>by simpa only[TR]using e
 |.bool,_,x,c,e=>by simpa only[TR]using e
 |.str,_,x,c,e=>by simpa only[TR]using e
 |.unit,_,x,c,e=>by simpa only[TR]using e
 |.lst t,hp,l,c,e=>by
  simp only[TR]at e |-
  obtain⟨iv,rfl,e⟩:=e
  refine⟨iv,rfl,?_⟩
  rcases e with e|⟨bo,es,rfl,e1,e2⟩|⟨e0,b,tot,off,len,cap,k,rfl,e1,e2,e3,e4,e5⟩
  ·exact .inl e
  ·exact .inr (.inl ⟨bo,es,rfl,e1,e2.imp fun a b h=>TR.mono le h⟩)
  ·refine .inr (.inr ⟨e0,b,tot,off,len,cap,k,rfl,le.z b e1,?_,e3,e4,e5.imp fun a b h=>TR.mono le h⟩)
   rw[cZ]at e2 |-
   exact⟨by rw[le.h b e1];exact e2.1,e2.2⟩
 |.pair a b,hp,x,c,e=>by
  simp only[TR]at e |-
  obtain⟨u,v,rfl,h2,h3⟩:=e
  exact⟨u,v,rfl,TR.mono le h2,TR.mono le h3⟩
 |.arr n t,hp,l,c,e=>by
  simp only[TR]at e |-
  obtain⟨es,rfl,h2,h3⟩:=e
  exact⟨es,rfl,h2,h3.imp fun a b h=>TR.mono le h⟩
 |.ow _ t,_,x,c,e=>by simp[TR]at e
def eD (mb:Option Nat):jY->jY->Prop
 |.arr _ _ _ _ l,.arr _ _ _ _ l'=>l'.length=l.length
 |.obj _ _,.obj _ _=>True
 |.arr2 _ _ l _,.arr2 _ _ l' _=>l'.length=l.length
 |.fold _ _ _,.fold _ _ _=>True
 |.fold _ _ _,.obj _ _=>mb≠none
 |.rt i B,.rt j B'=>j=i/\B'=B
 |.kns _ sz es,.kns _ sz' es'=>sz'=sz/\es'.length=es.length
 |_,_=>False
structure Le (c c':Cf):Prop where
 p:c'.p=c.p
 H:∀B x,c.H[B]? = some x->c'.m B=c.m B/\∃y,c'.H[B]? = some y/\(y = .gone\/eD (c.m B) x y)
 Z:Ns c.Z c'.Z c.h c'.h
 rt:∀i b,c.rt i=some b->c'.rt i=some b
theorem eD.rfl' (m:Option Nat) (x:jY):x = .gone\/eD m x x:=by cases x<;>simp[eD]
theorem eD.trans {m:Option Nat} {x y z:jY} (h:eD m x y) (h':eD m y z):eD m x z:=by
 cases x<;>cases y<;>cases z<;>simp_all [eD]
theorem Le.refl (c:Cf):Le c c:=⟨rfl,fun B x h=>⟨rfl,x,h,eD.rfl' _ x⟩,⟨fun _ h=>h,fun _ _=>rfl⟩,fun _ _ h=>h⟩
theorem eD.gone {m:Option Nat} {x:jY}:¬eD m .gone x:=by cases x<;>simp[eD]
theorem Le.trans {a b c:Cf} (h:Le a b) (h':Le b c):Le a c:=by
 refine⟨h'.p.trans h.p,fun B x hx=>?_,⟨fun i hi=>h'.Z.z i (h.Z.z i hi),fun i hi=>(h'.Z.h i (h.Z.z i hi)).trans (h.Z.h i hi)⟩,fun i b hb=>h'.rt i b (h.rt i b hb)⟩
 obtain⟨m,y,hy,e⟩:=h.H B x hx
 obtain⟨m',z,hz,e'⟩:=h'.H B y hy
 refine⟨m'.trans m,z,hz,?_⟩
 rcases e' with e'|e'
 ·exact .inl e'
 ·rcases e with rfl|e
  ·exact(eD.gone e').elim
  ·rw[m]at e';exact .inr (e.trans e')
section
variable {c c':Cf} (hle:Le c c')
include hle
theorem Le.gone {B:Nat} (h:c.H[B]? = some .gone):c'.H[B]? = some .gone:=by
 obtain⟨_,y,hy,rfl|e⟩:=hle.H B _ h
 ·exact hy
 ·exact(eD.gone e).elim
theorem Le.arr {B:Nat} {wr hp ln t l} (h:c.H[B]? = some (.arr wr hp ln t l)):c'.H[B]? = some .gone\/∃wr hp ln t l',c'.H[B]? = some (.arr wr hp ln t l')/\l'.length=l.length/\c'.m B=c.m B:=by
 obtain⟨m,y,hy,rfl|e⟩:=hle.H B _ h
 ·exact .inl hy
 ·cases y<;>simp only[eD]at e
  exact .inr ⟨_,_,_,_,_,hy,e,m⟩
theorem Pu {B:Nat} {o:kT} {iv:IV} (h:lV c B o iv):lV c' B o iv:=by
 unfold lV at h |-
 cases hB:c.H[B]? with
 |none=>rw[hB]at h;exact h.elim
 |some x=>
  rw[hB]at h
  obtain⟨m,y,hy,hxy⟩:=hle.H B x hB
  rw[hy,m]
  rcases hxy with rfl|hxy
  ·trivial
  ·cases x<;>simp only at h
   case obj=>cases y<;>simp only[eD]at hxy;exact h
   case gone=>exact(eD.gone hxy).elim
   case fold=>
    cases y<;>simp only[eD]at hxy
    ·obtain⟨rfl,h⟩:=h
     cases hm:c.m B with
     |none=>exact(hxy hm).elim
     |some b=>rw[hm]at h;exact⟨b,rfl,h⟩
    ·exact h
theorem Kf {B:Nat} {iv:IV} (h:mP c B iv):mP c' B iv:=by
 unfold mP at h |-
 cases hB:c.H[B]? with
 |none=>rw[hB]at h;exact h.elim
 |some x=>
  rw[hB]at h
  obtain⟨m,y,hy,hxy⟩:=hle.H B x hB
  rw[hy,m]
  rcases hxy with rfl|hxy
  ·trivial
  ·cases x<;>simp only at h
   case arr2=>cases y<;>simp only[eD]at hxy;simp only;rw[hxy];exact h
   case gone=>exact(eD.gone hxy).elim
theorem yV {B i:Nat} {o:kT} {iv:IV} (h:lW c B i o iv):lW c' B i o iv:=by
 unfold lW at h |-
 cases hB:c.H[B]? with
 |none=>rw[hB]at h;exact h.elim
 |some x=>
  rw[hB]at h
  obtain⟨m,y,hy,hxy⟩:=hle.H B x hB
  rw[hy,m]
  rcases hxy with rfl|hxy
  ·trivial
  ·cases x<;>simp only at h
   case arr2=>cases y<;>simp only[eD]at hxy;simp only;rw[hxy];exact h
   case gone=>exact(eD.gone hxy).elim
theorem le_kown {B:Nat} {iv:IV} (h:KownR c B iv):KownR c' B iv:=by
 unfold KownR at h |-
 cases hB:c.H[B]? with
 |none=>rw[hB]at h;exact h.elim
 |some x=>
  rw[hB]at h
  obtain⟨m,y,hy,hxy⟩:=hle.H B x hB
  rw[hy,m]
  rcases hxy with rfl|hxy
  ·trivial
  ·cases x<;>simp only at h
   case kns=>cases y<;>simp only[eD]at hxy;simp only;rw[hxy.2];exact h
   case gone=>exact(eD.gone hxy).elim
theorem le_keptr {B i o:Nat} {iv:IV} (h:KeptrR c B i o iv):KeptrR c' B i o iv:=by
 unfold KeptrR at h |-
 cases hB:c.H[B]? with
 |none=>rw[hB]at h;exact h.elim
 |some x=>
  rw[hB]at h
  obtain⟨m,y,hy,hxy⟩:=hle.H B x hB
  rw[hy,m]
  rcases hxy with rfl|hxy
  ·trivial
  ·cases x<;>simp only at h
   case kns=>cases y<;>simp only[eD]at hxy;simp only;rw[hxy.2];exact h
   case gone=>exact(eD.gone hxy).elim
theorem TR.le {ln:Bool} {t:Ty} {hp:Bool} {x:t.den} {u:List IV} (h:TR c.p c.Z c.h ln t hp x u):TR c'.p c'.Z c'.h ln t hp x u:=by
 rw[hle.p];exact TR.mono hle.Z h
theorem Pv {B:Nat} {iv:IV} (h:c.H[B]? = some .gone\/∃wr hp ln t l,c.H[B]? = some (.arr wr hp ln t l)/\fC (c.m B) l.length iv):
 c'.H[B]? = some .gone\/∃wr hp ln t l,c'.H[B]? = some (.arr wr hp ln t l)/\fC (c'.m B) l.length iv:=by
 rcases h with h|⟨wr,hp,ln,t,l,h,h'⟩
 ·exact .inl (hle.gone h)
 ·rcases hle.arr h with h|⟨_,_,_,_,_,h,e,m⟩
  ·exact .inl h
  ·exact .inr ⟨_,_,_,_,_,h,by rw[e,m];exact h'⟩
theorem Pt {B off len cap:Nat} {iv:IV} (h:c.H[B]? = some .gone\/∃wr hp ln t l,c.H[B]? = some (.arr wr hp ln t l)/\tJ (c.m B) l.length off len cap iv):
 c'.H[B]? = some .gone\/∃wr hp ln t l,c'.H[B]? = some (.arr wr hp ln t l)/\tJ (c'.m B) l.length off len cap iv:=by
 rcases h with h|⟨wr,hp,ln,t,l,h,h'⟩
 ·exact .inl (hle.gone h)
 ·rcases hle.arr h with h|⟨_,_,_,_,_,h,e,m⟩
  ·exact .inl h
  ·exact .inr ⟨_,_,_,_,_,h,by rw[e,m];exact h'⟩
theorem Kg {B i:Nat} {o:kT} {iv:IV} (h:c.H[B]? = some .gone\/∃wr hp ln t l b,c.H[B]? = some (.arr wr hp ln t l)/\c.m B=some b/\iv = .ptr b l.length i o.val/\i<l.length):
 c'.H[B]? = some .gone\/∃wr hp ln t l b,c'.H[B]? = some (.arr wr hp ln t l)/\c'.m B=some b/\iv = .ptr b l.length i o.val/\i<l.length:=by
 rcases h with h|⟨wr,hp,ln,t,l,b,h,h1,h2⟩
 ·exact .inl (hle.gone h)
 ·rcases hle.arr h with h|⟨_,_,_,_,_,h,e,m⟩
  ·exact .inl h
  ·exact .inr ⟨_,_,_,_,_,b,h,by rw[m];exact h1,by rw[e];exact h2⟩
theorem Pw {b tot i:Nat} {iv:IV} {o:kT} {e:List IV} (h:∃b tot i k,iv=IV.ptr b tot i o.val/\c.Z b/\hget c.h b tot=some k/\k.es[i]? = some e):
 ∃b tot i k,iv=IV.ptr b tot i o.val/\c'.Z b/\hget c'.h b tot=some k/\k.es[i]? = some e:=by
 obtain⟨b,tot,i,k,rfl,h1,h2,h3⟩:=h
 rw[cZ]at h2
 exact⟨b,tot,i,k,rfl,hle.Z.z b h1,cZ.2 ⟨by rw[hle.Z.h b h1];exact h2.1,h2.2⟩,h3⟩
mutual
theorem Va.le:∀{a:AV} {iv:IV},Va c a iv->Va c' a iv
 |.int ..,_,h=>by simpa only[Va]using h
 |.bool _,_,h=>by simpa only[Va]using h
 |.str _,_,h=>by simpa only[Va]using h
 |.nils,_,h=>by simpa only[Va]using h
 |.nilp,_,h=>by simpa only[Va]using h
 |.nilf,_,h=>by simpa only[Va]using h
 |.mark,_,h=>by simpa only[Va]using h
 |.lst hp ln t l,iv,h=>by simp only[Va]at h |-;exact TR.le hle h
 |.own B,iv,h=>by simp only[Va]at h |-;exact⟨h.1,Pv hle h.2⟩
 |.sub B _ _ _,iv,h=>by simp only[Va]at h |-;exact⟨h.1,Pt hle h.2⟩
 |.ptr B o,iv,h=>by simp only[Va]at h |-;exact⟨h.1,Pu hle h.2⟩
 |.own2 B,iv,h=>by simp only[Va]at h |-;exact⟨h.1,Kf hle h.2⟩
 |.eptr2 B i o,iv,h=>by simp only[Va]at h |-;exact⟨h.1,yV hle h.2⟩
 |.any,iv,h=>by simpa only[Va]using h
 |.iface t v,iv,h=>by simp only[Va]at h |-;obtain⟨w,h1,h2⟩:=h;exact⟨w,h1,Va.le h2⟩
 |.klit cs,iv,h=>by simp only[Va]at h |-;obtain⟨w,h1,h2⟩:=h;exact⟨w,h1,dB.le h2⟩
 |.kown B,iv,h=>by simp only[Va]at h |-;exact⟨h.1,le_kown hle h.2⟩
 |.keptr B i o,iv,h=>by simp only[Va]at h |-;exact⟨h.1,le_keptr hle h.2⟩
 |.eptr B i o,iv,h=>by simp only[Va]at h |-;exact⟨h.1,Kg hle h.2⟩
 |.rptr hp ln cs o,iv,h=>by
  simp only[Va]at h |-
  obtain⟨e,h1,h2⟩:=h
  refine⟨e,dB.le h1,h2.imp id fun h=>⟨h.1,Pw (b:=0) (tot:=0) (i:=0) hle h.2⟩⟩
 |.arr ..,_,h=>by simp only[Va]at h
 |.agg cs,iv,h=>by
  simp only[Va]at h |-
  obtain⟨ivs,h1,h2⟩:=h
  exact⟨ivs,h1,dB.le h2⟩
 |.tup cs,iv,h=>by
  simp only[Va]at h |-
  obtain⟨ivs,h1,h2⟩:=h
  exact⟨ivs,h1,jP.le h2⟩
 |.fn f a b,iv,h=>by
  simp only[Va]at h |-
  obtain⟨a',b',h1,h2,h3⟩:=h
  exact⟨a',b',h1,jP.le h2,jP.le h3⟩
theorem Ca.le:∀{a:AV} {u:List IV},Ca c a u->Ca c' a u
 |.int ..,_,h=>by simpa only[Ca]using h
 |.bool _,_,h=>by simpa only[Ca]using h
 |.str _,_,h=>by simpa only[Ca]using h
 |.nils,_,h=>by simpa only[Ca]using h
 |.nilp,_,h=>by simpa only[Ca]using h
 |.nilf,_,h=>by simpa only[Ca]using h
 |.mark,_,h=>by simpa only[Ca]using h
 |.lst hp ln t l,iv,h=>by simp only[Ca]at h |-;exact TR.le hle h
 |.own B,u,h=>by simp only[Ca]at h |-;obtain⟨iv,e,o,h⟩:=h;exact⟨iv,e,o,Pv hle h⟩
 |.sub B _ _ _,u,h=>by simp only[Ca]at h |-;obtain⟨iv,e,o,h⟩:=h;exact⟨iv,e,o,Pt hle h⟩
 |.ptr B o,u,h=>by simp only[Ca]at h |-;obtain⟨iv,e,o,h⟩:=h;exact⟨iv,e,o,Pu hle h⟩
 |.any,u,h=>by simpa only[Ca]using h
 |.iface t v,u,h=>by simp only[Ca]at h |-;obtain⟨w,h1,h2⟩:=h;exact⟨w,h1,Va.le h2⟩
 |.klit cs,u,h=>by simp only[Ca]at h |-;obtain⟨w,h1,h2⟩:=h;exact⟨w,h1,dB.le h2⟩
 |.kown B,u,h=>by simp only[Ca]at h |-;obtain⟨iv,e,o,h⟩:=h;exact⟨iv,e,o,le_kown hle h⟩
 |.keptr B i o,u,h=>by simp only[Ca]at h |-;obtain⟨iv,e,o,h⟩:=h;exact⟨iv,e,o,le_keptr hle h⟩
 |.own2 B,u,h=>by simp only[Ca]at h |-;obtain⟨iv,e,o,h⟩:=h;exact⟨iv,e,o,Kf hle h⟩
 |.eptr2 B i o,u,h=>by simp only[Ca]at h |-;obtain⟨iv,e,o,h⟩:=h;exact⟨iv,e,o,yV hle h⟩
 |.eptr B i o,u,h=>by simp only[Ca]at h |-;obtain⟨iv,e,o,h⟩:=h;exact⟨iv,e,o,Kg hle h⟩
 |.rptr hp ln cs o,u,h=>by
  simp only[Ca]at h |-
  obtain⟨iv,rfl,e,h1,h2⟩:=h
  refine⟨iv,rfl,e,dB.le h1,h2.imp id fun h=>⟨h.1,Pw (b:=0) (tot:=0) (i:=0) hle h.2⟩⟩
 |.arr hp ln n t l,u,h=>by simp only[Ca]at h |-;exact TR.le hle h
 |.agg cs,iv,h=>by simp only[Ca]at h
 |.tup cs,iv,h=>by simp only[Ca]at h
 |.fn f a b,iv,h=>by
  simp only[Ca]at h |-
  obtain⟨a',b',h1,h2,h3⟩:=h
  exact⟨a',b',h1,jP.le h2,jP.le h3⟩
theorem dB.le:∀{cs:List AV} {u:List IV},dB c cs u->dB c' cs u
 |[],u,h=>by simpa only[dB]using h
 |a::r,u,h=>by
  simp only[dB]at h |-
  obtain⟨x,y,rfl,h1,h2⟩:=h
  exact⟨x,y,rfl,Ca.le h1,dB.le h2⟩
theorem jP.le:∀{cs:List AV} {u:List IV},jP c cs u->jP c' cs u
 |[],u,h=>by simpa only[jP]using h
 |a::r,u,h=>by
  simp only[jP]at h |-
  obtain⟨x,y,rfl,h1,h2⟩:=h
  exact⟨x,y,rfl,Va.le h1,jP.le h2⟩
end
end
end Go.Ideal
namespace Go.Ideal
theorem TR.nomark {p:Bool} {Z:Nat->Prop} {h:aN} {ln:Bool}:∀{t:Ty} {hp:Bool} {x:t.den} {c:List IV},TR p Z h ln t hp x c->∀v∈c,v≠.mark
 |.int k,_,x,c,e=>by simp only[TR]at e;subst e;simp
 |.bool,_,x,c,e=>by simp only[TR]at e;subst e;simp
 |.str,_,x,c,e=>by simp only[TR]at e;subst e;simp
 |.unit,_,x,c,e=>by simp only[TR]at e;subst e;simp
 |.lst t,hp,l,c,e=>by
  simp only[TR]at e
  obtain⟨iv,rfl,e⟩:=e
  intro v hv
  simp at hv;subst hv
  rcases e with ⟨_,rfl|rfl⟩|⟨_,_,rfl,_⟩|⟨_,_,_,_,_,_,_,rfl,_⟩<;>simp
 |.pair a b,hp,x,c,e=>by
  simp only[TR]at e
  obtain⟨u,v,rfl,h1,h2⟩:=e
  intro w hw
  rcases aE.1 hw with h|h
  ·exact TR.nomark h1 w h
  ·exact TR.nomark h2 w h
 |.arr n t,hp,l,c,e=>by
  simp only[TR]at e
  obtain⟨es,rfl,rfl,h1⟩:=e
  intro v hv
  obtain⟨e,he,hv⟩:=eY.1 hv
  obtain⟨x,_,hx⟩:=h1.mem_r e he
  exact TR.nomark hx v hv
 |.ow _ t,hp,x,c,e=>by simp[TR]at e
theorem Ca.nomark {c:Cf} {a:AV} {u:List IV} (h:Ca c a u) (ha:a≠.mark):∀v∈u,v≠.mark:=by
 cases a<;>simp only[Ca]at h
 case lst=>exact TR.nomark h
 case arr=>exact TR.nomark h
 case own=>obtain⟨iv,rfl,h1,h2⟩:=h;intro v hv;simp at hv;subst hv;exact IV.onc_ne h1
 case sub=>obtain⟨iv,rfl,h1,h2⟩:=h;intro v hv;simp at hv;subst hv;exact IV.onc_ne h1
 case own2=>obtain⟨iv,rfl,h1,h2⟩:=h;intro v hv;simp at hv;subst hv;exact IV.onc_ne h1
 case kown=>obtain⟨iv,rfl,h1,h2⟩:=h;intro v hv;simp at hv;subst hv;exact IV.onc_ne h1
 case keptr=>obtain⟨iv,rfl,h1,h2⟩:=h;intro v hv;simp at hv;subst hv;exact IV.onc_ne h1
 case iface=>obtain⟨w,rfl,h1⟩:=h;simp
 case klit=>obtain⟨w,rfl,h1⟩:=h;simp
 case eptr2=>obtain⟨iv,rfl,h1,h2⟩:=h;intro v hv;simp at hv;subst hv;exact IV.onc_ne h1
 case any=>obtain⟨iv,rfl,h1⟩:=h;intro v hv;simp at hv;subst hv;exact IV.onc_ne h1
 case ptr=>obtain⟨iv,rfl,h1,h2⟩:=h;intro v hv;simp at hv;subst hv;exact IV.onc_ne h1
 case eptr=>obtain⟨iv,rfl,h1,h2⟩:=h;intro v hv;simp at hv;subst hv;exact IV.onc_ne h1
 case rptr=>obtain⟨iv,rfl,e,_,⟨bo,rfl⟩|⟨_,b,tot,i,k,rfl,_⟩⟩:=h<;>simp
 case fn=>obtain⟨_,_,rfl,_⟩:=h;simp
 case nils=>obtain⟨iv,rfl,rfl|rfl⟩:=h<;>simp
 case mark=>exact absurd rfl ha
 all_goals subst h;simp
theorem noIt {c:Cf}:∀{cs:List AV} {ivs:List IV},dB c cs ivs->Fw cs=false->Ts ivs=false:=by
 have key:∀{cs:List AV} {ivs:List IV},dB c cs ivs->Fw cs=false->∀v∈ivs,v≠.mark:=by
  intro cs
  induction cs with
  |nil=>intro ivs h _;simp only[dB]at h;subst h;simp
  |cons a r ih=>
   intro ivs h e
   simp only[dB]at h
   obtain⟨u,v,rfl,h1,h2⟩:=h
   simp only[Fw,List.any_cons,iB]at e ih
   intro w hw
   rcases aE.1 hw with hw|hw
   ·exact h1.nomark (by rintro rfl;simp at e) w hw
   ·exact ih h2 e.2 w hw
 intro cs ivs h e
 have:=key h e
 cases ivs with
 |nil=>rfl
 |cons v r=>
  have:=this v (by simp)
  cases v<;>first|rfl|exact absurd rfl this
theorem TR.flat {p:Bool} {Z:Nat->Prop} {h:aN} {ln ln':Bool}:∀{t:Ty} {hp hp':Bool} {x:t.den} {c:List IV},t.flat=true->TR p Z h ln t hp x c->TR p Z h ln' t hp' x c
 |.int k,_,_,x,c,_,e=>by simpa only[TR]using e
 |.bool,_,_,x,c,_,e=>by simpa only[TR]using e
 |.str,_,_,x,c,_,e=>by simpa only[TR]using e
 |.unit,_,_,x,c,_,e=>by simpa only[TR]using e
 |.lst t,_,_,l,c,hf,e=>by simp[Ty.flat]at hf
 |.pair a b,_,_,x,c,hf,e=>by
  simp only[Ty.flat,aF]at hf
  simp only[TR]at e |-
  obtain⟨u,v,rfl,h2,h3⟩:=e
  exact⟨u,v,rfl,TR.flat hf.1 h2,TR.flat hf.2 h3⟩
 |.arr n t,_,_,l,c,hf,e=>by
  simp only[TR]at e |-
  obtain⟨es,rfl,h2,h3⟩:=e
  exact⟨es,rfl,h2,h3.imp fun a b h=>TR.flat (by simpa [Ty.flat]using hf) h⟩
 |.ow _ t,_,_,x,c,_,e=>by simp[TR]at e
theorem TR.lf {p:Bool} {Z:Nat->Prop} {h:aN} {ln:Bool} {t:Ty} {hp:Bool} {x:t.den} {c:List IV} (e:TR p Z h ln t hp x c):TR p Z h (ln&& !t.flat) t true x c:=by
 cases hf:t.flat with
 |true=>exact TR.flat hf e
 |false=>rw[eP,Hm];exact TR.flags (fun h=>h) (fun _=>rfl) e
abbrev Lo:=List (Option Nat×List Nat)
def cS (L:Lo):List Nat:=L.flatMap fun q=>q.1.toList++q.2
def kK {α β γ:Type} (r:α->β->γ->Prop):List α->List β->List γ->Prop
 |[],[],[]=>True
 |a::as,b::bs,c::cs=>r a b c/\kK r as bs cs
 |_,_,_=>False
def TF (p:Bool) (Z:Nat->Prop) (h:aN) (rt:Nat->Option Nat):(t:Ty)->t.den->List IV->Lo->Prop
 |.pair a b,x,c,L=>∃u v M N,c=u++v/\L=M++N/\TF p Z h rt a x.1 u M/\TF p Z h rt b x.2 v N
 |.ow .own t,x,c,L=>∃iv mb f,c=[iv]/\L=[(mb,f)]/\fC mb x.length iv/\(match mb with
  |none=>x=[]/\f=[]
  |some b=>∃es Ms,h[b]? = some (some ⟨t.n,es⟩)/\kK (TF p Z h rt t) x es Ms/\f=cS Ms.flatten)
 |.ow .obj t,x,c,L=>∃b e M,c=[.ptr b 1 0 0]/\h[b]? = some (some ⟨e.length,[e]⟩)/\TF p Z h rt t x e M/\L=[(some b,cS M)]
 |.ow .opt t,x,c,L=>(x=none/\c=[.nilp]/\L=[(none,[])])\/∃v b e M,x=some v/\c=[.ptr b 1 0 0]/\h[b]? = some (some ⟨e.length,[e]⟩)/\TF p Z h rt t v e M/\L=[(some b,cS M)]
 |.ow (.root i) _,_,c,L=>∃b,rt i=some b/\c=[.ptr b 1 0 0]/\L=[]
 |.int k,x,c,L=>TR p Z h true (.int k) true x c/\L=[]
 |.bool,x,c,L=>TR p Z h true .bool true x c/\L=[]
 |.str,x,c,L=>TR p Z h true .str true x c/\L=[]
 |.unit,x,c,L=>TR p Z h true .unit true x c/\L=[]
 |.lst t,x,c,L=>TR p Z h true (.lst t) true x c/\L=[]
 |.arr n t,x,c,L=>TR p Z h true (.arr n t) true x c/\L=[]
def BR (c:Cf) (x:jY) (mb:Option Nat) (f:List Nat):Prop:=match x with
 |.arr wr hp ln t l=>f=[]/\(match mb with
  |none=>l=[]
  |some b=>∃es,c.h[b]? = some (some ⟨t.n,es⟩)/\dI (TR c.p c.Z c.h ln t hp) l es)
 |.obj wr cs=>f=[]/\∃b,mb=some b/\∃e,c.h[b]? = some (some ⟨e.length,[e]⟩)/\dB c cs e
 |.gone=>True
 |.arr2 wr t l none=>(match mb with
  |none=>l=[]/\f=[]
  |some b=>∃es Ms,c.h[b]? = some (some ⟨t.n,es⟩)/\kK (TF c.p c.Z c.h c.rt t) l es Ms/\f=cS Ms.flatten)
 |.arr2 wr t l (some (i,cs))=>∃b es1 e es2 Ms1 Ms2,mb=some b/\c.h[b]? = some (some ⟨t.n,es1++e::es2⟩)/\es1.length=i/\i<l.length/\e.length=t.n/\
   kK (TF c.p c.Z c.h c.rt t) (l.take i) es1 Ms1/\kK (TF c.p c.Z c.h c.rt t) (l.drop (i+1)) es2 Ms2/\dB c cs e/\f=cS (Ms1++Ms2).flatten
 |.fold wr t x=>(x=none/\mb=none/\f=[])\/∃v b e M,x=some v/\mb=some b/\c.h[b]? = some (some ⟨e.length,[e]⟩)/\TF c.p c.Z c.h c.rt t v e M/\f=cS M
 |.kns wr sz es=>f=[]/\∃b,mb=some b/\∃es',c.h[b]? = some (some ⟨sz,es'⟩)/\dI (fun e e'=>dB c e e'/\e'.length=sz) es es'
 |.rt i B=>mb=none/\f=[]/\c.rt i=c.m B/\c.rt i≠none/\∃y,c.H[B]? = some y/\(match y with
  |.gone=>True
  |.obj ..=>True
  |.fold ..=>True
  |_=>False)
theorem BR.arr2_none {c:Cf} {wr:Bool} {t:Ty} {l:List t.den} {op:Option (Nat×List AV)} {f:List Nat} (h:BR c (.arr2 wr t l op) none f):op=none/\l=[]/\f=[]:=by
 cases op with
 |none=>simp only[BR]at h;exact⟨rfl,h⟩
 |some y=>obtain⟨i,cs⟩:=y;simp only[BR]at h;obtain⟨_,_,_,_,_,_,h,_⟩:=h;cases h
def xB (c:Cf):Prop:=∀B x,c.H[B]? = some x->BR c x (c.m B) (c.f B)
@[simp] theorem pK {a : Ty} (x : List a.den) : oM (rfl : a = a) x = x := rfl
theorem TR.sz {p Z h ln} {t:Ty} {hp:Bool} {l:List t.den} {es:List (List IV)} (a:dI (TR p Z h ln t hp) l es):es.all (·.length=t.n)=true:=by
 rw[bE]
 intro e he
 obtain⟨x,_,hx⟩:=a.mem_r e he
 simpa using (TR.one hx).1
section
variable {c:Cf} (hb:xB c)
include hb
theorem vN {t:Ty} {a:AV} {iv:IV} {l:List t.den} (e:Jn c.H t a=some l) (v:Va c a iv):
 ∃es,fF c.h t.n iv=some es/\dI (TR c.p c.Z c.h (a.lnF c.H) t (a.hpF c.H)) l es:=by
 cases a<;>simp only[Jn]at e<;>try (cases e;done)
 case nils=>
  simp at e;subst e
  simp only[Va]at v
  rcases v with rfl|rfl<;>exact⟨[],rfl,trivial⟩
 case lst hp ln t' l'=>
  split at e
  ·rename_i h;subst h;simp at e;subst e
   simp only[Va,TR]at v
   obtain⟨iv',e1,v⟩:=v
   simp at e1;subst e1
   rcases v with ⟨rfl,rfl|rfl⟩|⟨bo,es,rfl,h1,h2⟩|⟨h0,b,tot,off,len,cap,k,rfl,h1,h2,h3,h4,h5⟩
   ·exact⟨[],rfl,trivial⟩
   ·exact⟨[],rfl,trivial⟩
   ·refine⟨es,by simp only[fF];rw[if_pos (TR.sz h2)],?_⟩
    exact h2.imp fun a b h=>TR.flags (fun h=>h) (by simp) h
   ·refine⟨(k.es.drop off).take len,by simp[fF,h2,h3,h4],?_⟩
    simp only[AV.lnF,AV.hpF]
    rw[h0];exact h5
  ·cases e
 case own B=>
  simp only[Va]at v
  rcases v.2 with v|⟨wr,hp,ln,t',l',hB,v⟩
  ·rw[v]at e;simp at e
  ·rw[hB]at e
   simp only at e
   split at e
   ·rename_i h;subst h;simp at e;subst e
    have br:=hb B _ hB
    simp only[BR]at br
    replace br:=br.2
    simp only[AV.lnF,hB,AV.hpF]
    cases hm:c.m B with
    |none=>
     rw[hm]at v br;simp only[fC]at v br
     subst br
     rcases v with rfl|rfl<;>exact⟨[],rfl,trivial⟩
    |some b=>
     rw[hm]at v br;simp only[fC]at v br
     obtain⟨es,h1,h2⟩:=br
     subst v
     have hl:=h2.len
     refine⟨es,?_,h2.imp fun a b h=>h.lf⟩
     have:hget c.h b l'.length=some ⟨t'.n,es⟩:=cZ.2 ⟨h1,hl⟩
     simp only[fF,this,aB,eO]
     rw[if_pos (by simp),<-hl,eX]
   ·cases e
 case sub B off len cap=>
  simp only[Va]at v
  rcases v.2 with v|⟨wr,hp,ln,t',l',hB,v⟩
  ·rw[v]at e;simp at e
  ·rw[hB]at e
   simp only at e
   split at e
   ·rename_i h;subst h;simp at e;subst e
    have br:=hb B _ hB
    simp only[BR]at br
    replace br:=br.2
    simp only[AV.lnF,hB,AV.hpF]
    simp only[tJ]at v
    obtain⟨v1,v2,v⟩:=v
    cases hm:c.m B with
    |none=>
     rw[hm]at v br;simp only at v br
     subst br
     obtain⟨v3,rfl,rfl⟩:=v
     rcases v3 with rfl|rfl<;>exact⟨[],rfl,by simp[dI]⟩
    |some b=>
     rw[hm]at v br;simp only at v br
     obtain⟨es,h1,h2⟩:=br
     subst v
     have hl:=h2.len
     refine⟨(es.drop off).take len,?_,?_⟩
     ·have:hget c.h b l'.length=some ⟨t'.n,es⟩:=cZ.2 ⟨h1,hl⟩
      simp only[fF,this,aB]
      rw[if_pos ⟨by trivial,by omega⟩]
     ·exact((h2.drop off).take len).imp fun a b h=>h.lf
   ·cases e
 case str s=>
  split at e
  ·rename_i h;subst h;simp at e;subst e
   simp only[Va]at v;subst v
   refine⟨s.map fun b=>[.int .u8 b.toNat],by simp[fF,Ty.n],?_⟩
   clear hb
   induction s with
   |nil=>trivial
   |cons x s ih=>exact⟨by simp[TR],ih⟩
  ·cases e
theorem Sg {t:Ty} {a:AV} {iv:IV} {l:List t.den} (e:Jn c.H t a=some l) (hs:∀s,a≠.str s) (v:Va c a iv) (hz:∀B∈a.refs,∀b∈c.ft B,c.Z b):
 TR c.p c.Z c.h (a.lnF c.H) (.lst t) (a.hpF c.H) l [iv]:=by
 cases a<;>simp only[Jn]at e<;>try (cases e;done)
 case nils=>
  simp at e;subst e
  simp only[Va]at v
  exact⟨iv,rfl,.inl ⟨rfl,v⟩⟩
 case lst hp ln t' l'=>
  split at e
  ·rename_i h;subst h;simp at e;subst e
   simp only[Va]at v;exact v
  ·cases e
 case own B=>
  simp only[Va]at v
  rcases v.2 with v|⟨wr,hp,ln,t',l',hB,v⟩
  ·rw[v]at e;simp at e
  ·rw[hB]at e
   simp only at e
   split at e
   ·rename_i h;subst h;simp at e;subst e
    have br:=hb B _ hB
    simp only[BR]at br
    replace br:=br.2
    simp only[AV.lnF,hB,AV.hpF,TR]
    refine⟨iv,rfl,?_⟩
    cases hm:c.m B with
    |none=>
     rw[hm]at v br;simp only[fC]at v br
     exact .inl ⟨br,v⟩
    |some b=>
     rw[hm]at v br;simp only[fC]at v br
     obtain⟨es,h1,h2⟩:=br
     have hl:=h2.len
     refine .inr (.inr ⟨trivial,b,l'.length,0,l'.length,l'.length,⟨t'.n,es⟩,v,hz B (by simp[AV.refs]) b (Cf.ft_m hm),cZ.2 ⟨h1,hl⟩,rfl,by omega,?_⟩)
     simp only[eO,<-hl,eX]
     exact h2.imp fun a b h=>h.lf
   ·cases e
 case sub B off len cap=>
  simp only[Va]at v
  rcases v.2 with v|⟨wr,hp,ln,t',l',hB,v⟩
  ·rw[v]at e;simp at e
  ·rw[hB]at e
   simp only at e
   split at e
   ·rename_i h;subst h;simp at e;subst e
    have br:=hb B _ hB
    simp only[BR]at br
    replace br:=br.2
    simp only[AV.lnF,hB,AV.hpF,TR]
    simp only[tJ]at v
    obtain⟨v1,v2,v⟩:=v
    refine⟨iv,rfl,?_⟩
    cases hm:c.m B with
    |none=>
     rw[hm]at v br;simp only at v br
     subst br
     exact .inl ⟨by simp,v.1⟩
    |some b=>
     rw[hm]at v br;simp only at v br
     obtain⟨es,h1,h2⟩:=br
     have hl:=h2.len
     refine .inr (.inr ⟨trivial,b,l'.length,off,len,cap,⟨t'.n,es⟩,v,hz B (by simp[AV.refs]) b (Cf.ft_m hm),cZ.2 ⟨h1,hl⟩,rfl,by omega,?_⟩)
     exact((h2.drop off).take len).imp fun a b h=>h.lf
   ·cases e
 case str s=>exact(hs s rfl).elim
end
theorem rQ {c:Cf} {k:IntKind}:∀{cs:List AV} {l:List Int} {u:List IV},pY k cs=some l->dB c cs u->u=l.map (fun x=>.int k x)/\l.length=cs.length/\mA cs=l.length
 |[],l,u,e,h=>by simp only[pY,aD]at e;subst e;simp only[dB]at h;subst h;simp[mA]
 |a::r,l,u,e,h=>by
  cases a<;>simp only[pY]at e<;>try (cases e;done)
  split at e
  ·rename_i hk;subst hk
   obtain⟨l',e1,e2⟩:=aA.1 e
   simp only[aD]at e2;subst e2
   simp only[dB,Ca]at h
   obtain⟨x,y,rfl,rfl,h⟩:=h
   obtain⟨rfl,h2,h3⟩:=rQ e1 h
   refine⟨by simp,by simp[h2],?_⟩
   simp only[mA,AV.w,h3,eE];omega
  ·cases e
theorem Fz {k:IntKind}:∀{cs:List AV} {l:List Int},pY k cs=some l->AV.refsL cs=[]
 |[],l,e=>rfl
 |a::r,l,e=>by
  cases a<;>simp only[pY]at e<;>try (cases e;done)
  split at e
  ·obtain⟨l',e1,e2⟩:=aA.1 e
   simp[AV.refsL,AV.refs,Fz e1]
  ·cases e
theorem jG:∀(a b:List AV),AV.refsL (a++b)=AV.refsL a++AV.refsL b
 |[],b=>by simp[AV.refsL]
 |x::a,b=>by simp[AV.refsL,jG a b]
theorem wB {p Z h ln hp} {k:IntKind}:∀(l:List Int),dI (TR p Z h ln (.int k) hp) l (l.map fun x=>[.int k x])
 |[]=>trivial
 |x::l=>⟨by simp[TR],wB l⟩
theorem sQ {H:eB}:∀{t:Ty} {cs:List AV} {x:t.den×List AV},oC H t cs=some x->∃pre,cs=pre++x.2
 |.int k,cs,x,e=>by
  cases cs with
  |nil=>simp[oC]at e
  |cons a r=>cases a<;>simp[oC]at e;obtain⟨_,rfl⟩:=e;exact⟨[_],rfl⟩
 |.bool,cs,x,e=>by
  cases cs with
  |nil=>simp[oC]at e
  |cons a r=>cases a<;>simp[oC]at e;subst e;exact⟨[_],rfl⟩
 |.str,cs,x,e=>by
  cases cs with
  |nil=>simp[oC]at e
  |cons a r=>cases a<;>simp[oC]at e;subst e;exact⟨[_],rfl⟩
 |.unit,cs,x,e=>by simp[oC]at e;subst e;exact⟨[],rfl⟩
 |.lst t,cs,x,e=>by
  cases cs with
  |nil=>simp[oC]at e
  |cons a r=>
   have h:x.2=r:=by
    cases a<;>simp only[oC]at e<;>first|(cases e;done)|(obtain⟨l,_,e2⟩:=aA.1 e;simp at e2;subst e2;rfl)
   exact⟨[a],by simp[h]⟩
 |.pair a b,cs,x,e=>by
  simp only[oC]at e
  obtain⟨y,e1,e⟩:=aA.1 e
  obtain⟨z,e2,e⟩:=aA.1 e
  simp at e;subst e
  obtain⟨p,h1⟩:=sQ e1
  obtain⟨q,h2⟩:=sQ e2
  exact⟨p++q,by rw[h1,h2];simp⟩
 |.arr n t,cs,x,e=>by
  simp only[oC]at e
  unfold Oc at e
  split at e
  ·split at e
   ·split at e
    ·simp at e;subst e;exact⟨[_],rfl⟩
    ·cases e
   ·cases e
  ·unfold Hr at e
   cases t<;>simp only at e<;>try (cases e;done)
   obtain⟨y,e1,e⟩:=aA.1 e
   obtain⟨l,e2,e⟩:=aA.1 e
   split at e
   ·simp at e;subst e
    exact⟨y.1,(jE e1).1⟩
   ·cases e
 |.ow _ t,cs,x,e=>by unfold oC at e;simp at e
end Go.Ideal
namespace Go.Ideal
theorem vU (k:IntKind):∀l:List Int,l.map (fun x=>IV.int k x)=(l.map fun x=>[IV.int k x]).flatten
 |[]=>rfl
 |x::l=>by simp only[eZ,cB,cG,bZ];rw[vU k l]
theorem Mu {A A' B B':Type} (hA:A=A') (hB:B=B') (h:(A×B)=(A'×B')) (x:A×B):cast h x=(cast hA x.1,cast hB x.2):=by subst hA;subst hB;rfl
theorem Mv {A A':Type} (hA:A=A') (h:List A=List A') (l:List A):cast h l=l.map (cast hA):=by
 subst hA
 induction l with
 |nil=>rfl
 |cons a l ih=>rw[eZ,<-ih];rfl
theorem Mc {Ms:List Lo} {M:Lo} {b:Nat} (h:b∈cS M) (hM:M∈Ms):b∈cS Ms.flatten:=by
 unfold cS at h |-
 rw[dS]at h |-
 obtain⟨q,h1,h2⟩:=h
 exact⟨q,eY.2 ⟨M,hM,h1⟩,h2⟩
theorem Cc {L M:Lo} {b:Nat}:b∈cS (L++M)↔b∈cS L\/b∈cS M:=by simp[cS,List.flatMap_append]
theorem zT {p ln:Bool} {Z:Nat->Prop} {h:aN} {rt:Nat->Option Nat} {t:Ty} (ht:t.sOk=true) (ih:∀{x:t.den} {c:List IV} {L:Lo},TF p Z h rt t x c L->(∀b∈cS L,Z b)->TR p Z h ln t.strip true (cast (eJ ht) x) c):
 ∀{l:List t.den} {es:List (List IV)} {Ms:List Lo},kK (TF p Z h rt t) l es Ms->(∀M∈Ms,∀b∈cS M,Z b)->dI (TR p Z h ln t.strip true) (l.map (cast (eJ ht))) es
 |[],[],[],_,_=>trivial
 |a::l,e::es,M::Ms,h1,h2=>⟨ih h1.1 (h2 M (by simp)),zT ht ih h1.2 fun M' hM'=>h2 M' (by simp[hM'])⟩
 |[],_::_,_,h,_=>h.elim
 |[],[],_::_,h,_=>h.elim
 |_::_,[],_,h,_=>h.elim
 |_::_,_::_,[],h,_=>h.elim
theorem Gz {α β γ:Type} {r:α->β->γ->Prop}:∀{l:List α} {m:List β} {n:List γ},kK r l m n->m.length=l.length
 |[],[],[],_=>rfl
 |a::l,b::m,c::n,h=>by simp[Gz h.2]
 |[],_::_,_,h=>h.elim
 |[],[],_::_,h=>h.elim
 |_::_,[],_,h=>h.elim
 |_::_,_::_,[],h=>h.elim
theorem uX {p ln:Bool} {Z:Nat->Prop} {h:aN} {rt:Nat->Option Nat}:∀{t:Ty} (ht:t.sOk=true) (hl:ln=false->t.noLst=true) {x:t.den} {c:List IV} {L:Lo},TF p Z h rt t x c L->(∀b∈cS L,Z b)->TR p Z h ln t.strip true (cast (eJ ht) x) c
 |.pair a b,ht,hl,x,c,L,e,hz=>by
  have ht':=ht
  have hl1:ln=false->a.noLst=true:=fun h=>by have:=hl h;simp only[Ty.noLst,aF]at this;exact this.1
  have hl2:ln=false->b.noLst=true:=fun h=>by have:=hl h;simp only[Ty.noLst,aF]at this;exact this.2
  simp only[Ty.sOk,aF]at ht'
  simp only[TF]at e
  obtain⟨u,v,M,N,rfl,rfl,h1,h2⟩:=e
  have hc:cast (eJ ht) x=(cast (eJ ht'.1) x.1,cast (eJ ht'.2) x.2):=Mu (eJ ht'.1) (eJ ht'.2) _ x
  simp only[Ty.strip,TR]
  refine⟨u,v,rfl,?_,?_⟩
  ·rw[show (cast (eJ ht) x:a.strip.den×b.strip.den).1=cast (eJ ht'.1) x.1 from congrArg Prod.fst hc]
   exact uX ht'.1 hl1 h1 fun b hb=>hz b (Cc.2 (.inl hb))
  ·rw[show (cast (eJ ht) x:a.strip.den×b.strip.den).2=cast (eJ ht'.2) x.2 from congrArg Prod.snd hc]
   exact uX ht'.2 hl2 h2 fun b hb=>hz b (Cc.2 (.inr hb))
 |.ow .own t,ht,hl0,x,c,L,e,hz=>by
  have ht':t.sOk=true:=ht
  simp only[TF]at e
  obtain⟨iv,mb,f,rfl,rfl,h1,h2⟩:=e
  have hc:cast (eJ ht) x=x.map (cast (eJ ht')):=Mv (eJ ht') _ x
  simp only[Ty.strip,TR]
  refine⟨iv,rfl,?_⟩
  rw[show (cast (eJ ht) x:List t.strip.den)=x.map (cast (eJ ht')) from hc]
  cases mb with
  |none=>
   obtain⟨rfl,_⟩:=h2
   exact .inl ⟨rfl,h1⟩
  |some b=>
   obtain⟨es,Ms,h3,h4,rfl⟩:=h2
   simp only[fC]at h1
   have hl:=Gz h4
   refine .inr (.inr ⟨trivial,b,x.length,0,x.length,x.length,⟨t.n,es⟩,h1,hz b (by simp[cS]),cZ.2 ⟨h3,hl⟩,by simp only;rw[Jq],⟨by omega,by omega⟩,?_⟩)
   simp only[eO,<-hl,eX]
   exact zT ht' (fun {x c L}=>uX ht' hl0) h4 fun M hM b' hb'=>hz b' (by simp only[cS,eG,aE];exact .inl (.inr (Mc hb' hM)))
 |.ow .obj t,ht,_,_,_,_,_,_=>by cases ht
 |.ow .opt t,ht,_,_,_,_,_,_=>by cases ht
 |.ow (.root i) t,ht,_,_,_,_,_,_=>by cases ht
 |.int k,ht,hl,x,c,L,e,hz=>by simp only[TF]at e;exact TR.flat rfl e.1
 |.bool,ht,hl,x,c,L,e,hz=>by simp only[TF]at e;exact TR.flat rfl e.1
 |.str,ht,hl,x,c,L,e,hz=>by simp only[TF]at e;exact TR.flat rfl e.1
 |.unit,ht,hl,x,c,L,e,hz=>by simp only[TF]at e;exact TR.flat rfl e.1
 |.lst t,ht,hl,x,c,L,e,hz=>by
  simp only[TF]at e
  cases ln with
  |true=>exact e.1
  |false=>cases hl rfl
 |.arr n t,ht,hl,x,c,L,e,hz=>by
  simp only[TF]at e
  cases ln with
  |true=>exact e.1
  |false=>exact TR.flat (show (Ty.arr n t).flat=true from hl rfl) e.1
theorem Oa {c:Cf} (hb:xB c) {t:Ty} {a:AV} {iv:IV} {l:List t.den} (e:Ob c.H t a=some l) (hs:∀s,a≠.str s) (v:Va c a iv) (hz:∀B∈a.refs,∀b∈c.ft B,c.Z b):
 TR c.p c.Z c.h (a.lnF c.H) (.lst t) (a.hpF c.H) l [iv]:=by
 unfold Ob at e
 split at e
 ·rename_i B
  split at e
  ·rename_i wr t' l' hB
   split at e
   ·rename_i ht
    obtain⟨ht1,rfl⟩:=ht
    simp only[pK,aD]at e;subst e
    simp only[Va,mP]at v
    rw[hB]at v
    have v:fC (c.m B) l'.length iv:=v.2
    have br:=hb B _ hB
    have hT:TF c.p c.Z c.h c.rt (.ow .own t') l' [iv] [(c.m B,c.f B)]:=by
     simp only[TF]
     refine⟨iv,c.m B,c.f B,rfl,rfl,v,?_⟩
     simp only[BR]at br
     cases hm:c.m B with
     |none=>rw[hm]at br;exact br
     |some b=>rw[hm]at br;exact br
    have:=uX (t:=.ow .own t') (ln:=(AV.own2 B).lnF c.H) ht1 (fun h=>by simpa [AV.lnF,hB,Ty.noLst]using h) hT (fun b hb'=>hz B (by simp[AV.refs]) b (by simpa [cS,Cf.ft]using hb'))
    exact this
   ·cases e
  ·cases e
 ·exact Sg hb e hs v hz
theorem jM {c:Cf} (hb:xB c):∀{t:Ty} {cs:List AV} {x:t.den×List AV} {u:List IV},oC c.H t cs=some x->dB c cs u->
 ∃pre,cs=pre++x.2/\∀hp ln,(oG c.H pre=true->hp=true)->(nB c.H pre=true->ln=true)->(∀B∈AV.refsL pre,∀b∈c.ft B,c.Z b)->
  ∃u1 u2,u=u1++u2/\TR c.p c.Z c.h ln t hp x.1 u1/\dB c x.2 u2
 |.int k,cs,x,u,e,h=>by
  cases cs with
  |nil=>simp[oC]at e
  |cons a r=>
   cases a<;>simp[oC]at e
   obtain⟨rfl,rfl⟩:=e
   simp only[dB,Ca]at h
   obtain⟨u1,u2,rfl,rfl,h⟩:=h
   exact⟨[_],rfl,fun hp ln _ _ _=>⟨_,_,rfl,by simp[TR],h⟩⟩
 |.bool,cs,x,u,e,h=>by
  cases cs with
  |nil=>simp[oC]at e
  |cons a r=>
   cases a<;>simp[oC]at e
   subst e
   simp only[dB,Ca]at h
   obtain⟨u1,u2,rfl,rfl,h⟩:=h
   exact⟨[_],rfl,fun hp ln _ _ _=>⟨_,_,rfl,by simp[TR],h⟩⟩
 |.str,cs,x,u,e,h=>by
  cases cs with
  |nil=>simp[oC]at e
  |cons a r=>
   cases a<;>simp[oC]at e
   subst e
   simp only[dB,Ca]at h
   obtain⟨u1,u2,rfl,rfl,h⟩:=h
   exact⟨[_],rfl,fun hp ln _ _ _=>⟨_,_,rfl,by simp[TR],h⟩⟩
 |.unit,cs,x,u,e,h=>by
  simp[oC]at e;subst e
  exact⟨[],rfl,fun hp ln _ _ _=>⟨[],u,rfl,by simp[TR],h⟩⟩
 |.lst t,cs,x,u,e,h=>by
  cases cs with
  |nil=>simp[oC]at e
  |cons a r=>
   simp only[dB]at h
   obtain⟨u1,u2,rfl,h1,h2⟩:=h
   have key:∃l,Ob c.H t a=some l/\x=(l,r)/\(∀s,a≠.str s)/\a.one=true:=by
    cases a<;>simp only[oC]at e<;>first|(cases e;done)|(obtain⟨l,e1,e2⟩:=aA.1 e;simp at e2;subst e2;first|(simp[Ob,Jn]at e1;done)|exact⟨l,e1,rfl,(by simp),rfl⟩)
   obtain⟨l,e1,rfl,e2,e3⟩:=key
   obtain⟨iv,rfl,_,hv⟩:=(eT e3).1 h1
   refine⟨[a],rfl,fun hp ln f1 f2 f3=>⟨_,_,rfl,?_,h2⟩⟩
   have:=Oa hb e1 e2 hv (fun B hB b hm=>f3 B (by simp[AV.refsL,hB]) b hm)
   exact TR.flags (fun h=>f2 (by simpa [nB]using h)) (fun h=>f1 (by simpa [oG]using h)) this
 |.pair a b,cs,x,u,e,h=>by
  simp only[oC]at e
  obtain⟨y,e1,e⟩:=aA.1 e
  obtain⟨z,e2,e⟩:=aA.1 e
  simp at e;subst e
  obtain⟨p,hp1,h1⟩:=jM hb e1 h
  obtain⟨q,hq⟩:=sQ e2
  refine⟨p++q,by rw[hp1,hq];simp,fun hp ln f1 f2 f3=>?_⟩
  obtain⟨u1,u2,rfl,h3,h4⟩:=h1 hp ln (fun h=>f1 (by simp[oG]at h |-;exact .inl h)) (fun h=>f2 (by simp[nB]at h |-;exact .inl h)) (fun B hB=>f3 B (by rw[jG];simp[hB]))
  obtain⟨q',hq',h2⟩:=jM hb e2 h4
  have:q'=q:=by rw[hq]at hq';exact(List.append_cancel_right hq').symm
  subst this
  obtain⟨u3,u4,rfl,h5,h6⟩:=h2 hp ln (fun h=>f1 (by simp[oG]at h |-;exact .inr h)) (fun h=>f2 (by simp[nB]at h |-;exact .inr h)) (fun B hB=>f3 B (by rw[jG];simp[hB]))
  exact⟨u1++u3,u4,by simp,by simp only[TR];exact⟨u1,u3,rfl,h3,h5⟩,h6⟩
 |.arr n t,cs,x,u,e,h=>by
  simp only[oC]at e
  unfold Oc at e
  split at e
  ·rename_i hp0 ln0 n' t' l r
   split at e
   ·rename_i ht;subst ht
    split at e
    ·rename_i hn;subst hn
     simp at e;subst e
     simp only[dB,Ca]at h
     obtain⟨u1,u2,rfl,h1,h2⟩:=h
     refine⟨[_],rfl,fun hp ln f1 f2 f3=>⟨_,_,rfl,?_,h2⟩⟩
     exact TR.flags (fun h=>f2 (by simpa [nB,AV.lnF]using h)) (fun h=>f1 (by simpa [oG,AV.hpF]using h)) h1
    ·cases e
   ·cases e
  ·unfold Hr at e
   cases t<;>simp only at e<;>try (cases e;done)
   rename_i k0
   obtain⟨y,e1,e⟩:=aA.1 e
   obtain⟨l,e2,e⟩:=aA.1 e
   split at e
   ·rename_i hn;subst hn
    simp at e;subst e
    obtain⟨s1,s2,s3⟩:=h.split e1
    refine⟨y.1,(jE e1).1,fun hp ln f1 f2 f3=>⟨_,_,(gR _ _).symm,?_,s2⟩⟩
    obtain⟨q1,q2,q3⟩:=rQ e2 s1
    rw[q1]
    simp only[TR]
    refine⟨l.map fun x=>[.int k0 x],?_,by simp,?_⟩
    ·exact vU k0 l
    ·simpa only[TR]using wB (p:=c.p) (Z:=c.Z) (h:=c.h) (ln:=ln) (hp:=hp) l
   ·cases e
 |.ow _ t,cs,x,u,e,h=>by unfold oC at e;simp at e
theorem TR.pure {p:Bool} {Z Z':Nat->Prop} {h h':aN} {ln:Bool}:∀{t:Ty} {x:t.den} {c:List IV},TR p Z h ln t false x c->TR p Z' h' ln t false x c
 |.int k,x,c,e=>by simpa only[TR]using e
 |.bool,x,c,e=>by simpa only[TR]using e
 |.str,x,c,e=>by simpa only[TR]using e
 |.unit,x,c,e=>by simpa only[TR]using e
 |.lst t,l,c,e=>by
  simp only[TR]at e |-
  obtain⟨iv,rfl,e⟩:=e
  refine⟨iv,rfl,?_⟩
  rcases e with e|⟨bo,es,rfl,e1,e2⟩|⟨e0,_⟩
  ·exact .inl e
  ·exact .inr (.inl ⟨bo,es,rfl,e1,e2.imp fun a b h=>TR.pure h⟩)
  ·cases e0
 |.pair a b,x,c,e=>by
  simp only[TR]at e |-
  obtain⟨u,v,rfl,h2,h3⟩:=e
  exact⟨u,v,rfl,TR.pure h2,TR.pure h3⟩
 |.arr n t,l,c,e=>by
  simp only[TR]at e |-
  obtain⟨es,rfl,h2,h3⟩:=e
  exact⟨es,rfl,h2,h3.imp fun a b h=>TR.pure h⟩
 |.ow _ t,x,c,e=>by simp[TR]at e
theorem yP {α β:Type} {f:α->Option β}:∀{a b:List α} {a' b':List β},dM f a=some a'->dM f b=some b'->dM f (a++b)=some (a'++b')
 |[],b,a',b',h,h'=>by simp[dM]at h;subst h;simpa using h'
 |x::a,b,a',b',h,h'=>by
  simp only[dM]at h
  obtain⟨y,e1,h⟩:=aA.1 h
  obtain⟨ys,e2,h⟩:=aA.1 h
  simp at h;subst h
  simp[dM,e1,yP e2 h']
theorem Bt {α β:Type} {f:α->Option β}:∀{es:List (List α)} {es':List (List β)},dM (dM f) es=some es'->dM f es.flatten=some es'.flatten
 |[],es',h=>by simp[dM]at h;subst h;rfl
 |x::es,es',h=>by
  simp only[dM]at h
  obtain⟨y,e1,h⟩:=aA.1 h
  obtain⟨ys,e2,h⟩:=aA.1 h
  simp at h;subst h
  simp only[cB]
  exact yP e1 (Bt e2)
theorem wA {α β γ:Type} {r:α->β->Prop} {q:α->γ->Prop} {f:β->Option γ} (hf:∀a b,r a b->∃g,f b=some g/\q a g):∀{l:List α} {m:List β},dI r l m->∃m',dM f m=some m'/\dI q l m'
 |[],[],_=>⟨[],rfl,trivial⟩
 |a::l,b::m,h=>by
  obtain⟨g,e1,h1⟩:=hf a b h.1
  obtain⟨m',e2,h2⟩:=wA hf h.2
  exact⟨g::m',by simp[dM,e1,e2],h1,h2⟩
 |[],_::_,h=>h.elim
 |_::_,[],h=>h.elim
theorem pZ {h:aN} {d:Nat} {v:IV} (hv:v.own=false):fz h d v=some v:=by
 cases d<;>simp[fz,hv]
theorem qW {α β:Type} {f:α->Option β} {a:α} {b:β} (h:f a=some b):dM f [a]=some [b]:=by simp[dM,h]
def Zn:Nat->Prop:=fun _=>False
theorem Ab {p:Bool} {Z:Nat->Prop} {h:aN} {ln:Bool}:∀{t:Ty} {hp:Bool} {x:t.den} {c:List IV} {d:Nat},TR p Z h ln t hp x c->t.dep<d->∃c',dM (fz h d) c=some c'/\TR p Zn [] ln t false x c'
 |.int k,_,x,c,d,e,hd=>by simp only[TR]at e;subst e;exact⟨[.int k x],by rw[qW (pZ rfl)],by simp[TR]⟩
 |.bool,_,x,c,d,e,hd=>by simp only[TR]at e;subst e;exact⟨[.bool x],by rw[qW (pZ rfl)],by simp[TR]⟩
 |.str,_,x,c,d,e,hd=>by simp only[TR]at e;subst e;exact⟨[.str x],by rw[qW (pZ rfl)],by simp[TR]⟩
 |.unit,_,x,c,d,e,hd=>by simp only[TR]at e;subst e;exact⟨[],by simp[dM],by simp[TR]⟩
 |.lst t,hp,l,c,d,e,hd=>by
  simp only[TR]at e |-
  obtain⟨iv,rfl,e⟩:=e
  rcases e with ⟨rfl,e⟩|⟨bo,es,rfl,e1,e2⟩|⟨e0,b,tot,off,len,cap,k,rfl,e1,e2,e3,e4,e5⟩
  ·exact⟨[iv],by rcases e with rfl|rfl<;>rw[qW (pZ rfl)],iv,rfl,.inl ⟨rfl,e⟩⟩
  ·exact⟨[.ro bo es],by rw[qW (pZ rfl)],_,rfl,.inr (.inl ⟨bo,es,rfl,e1,e2.imp fun a b h=>TR.pure h⟩)⟩
  ·cases d with
   |zero=>omega
   |succ d=>
    simp only[Ty.dep]at hd
    obtain⟨es',h1,h2⟩:=wA (f:=dM (fz h d)) (q:=TR p Zn [] ln t false) (fun a b hab=>Ab hab (by omega)) e5
    refine⟨[.ro false es'],?_,_,rfl,.inr (.inl ⟨false,es',rfl,by simp,h2⟩)⟩
    simp only[dM,fz,IV.own,e2,aB,if_true,h1]
    rw[if_pos e4.1];simp
 |.pair a b,hp,x,c,d,e,hd=>by
  simp only[TR]at e |-
  obtain⟨u,v,rfl,h2,h3⟩:=e
  simp only[Ty.dep]at hd
  obtain⟨u',e1,g1⟩:=Ab h2 (d:=d) (by omega)
  obtain⟨v',e2,g2⟩:=Ab h3 (d:=d) (by omega)
  exact⟨u'++v',yP e1 e2,u',v',rfl,g1,g2⟩
 |.arr n t,hp,l,c,d,e,hd=>by
  simp only[TR]at e |-
  obtain⟨es,rfl,h2,h3⟩:=e
  obtain⟨es',h1,h4⟩:=wA (f:=dM (fz h d)) (q:=TR p Zn [] ln t false) (fun a b hab=>Ab hab (by simpa [Ty.dep]using hd)) h3
  exact⟨es'.flatten,Bt h1,es',rfl,by rw[h4.len,<-h3.len,h2],h4⟩
 |.ow _ t,_,x,c,d,e,_=>by simp[TR]at e
theorem sF {p:Bool} {Z:Nat->Prop} {h:aN} {ln:Bool}:∀{t:Ty} {x:t.den} {c:List IV},TR p Z h ln t false x c->TR true Z h true t false x (c.map IV.lend)
 |.int k,x,c,e=>by simp only[TR]at e |-;subst e;rfl
 |.bool,x,c,e=>by simp only[TR]at e |-;subst e;rfl
 |.str,x,c,e=>by simp only[TR]at e |-;subst e;rfl
 |.unit,x,c,e=>by simp only[TR]at e |-;subst e;rfl
 |.lst t,l,c,e=>by
  simp only[TR]at e |-
  obtain⟨iv,rfl,e⟩:=e
  refine⟨iv.lend,rfl,?_⟩
  rcases e with ⟨rfl,e⟩|⟨bo,es,rfl,e1,e2⟩|⟨e0,_⟩
  ·exact .inl ⟨rfl,by rcases e with rfl|rfl<;>simp[IV.lend]⟩
  ·refine .inr (.inl ⟨true,es.map (·.map IV.lend),by simp[IV.lend,IV.lendLL_eq],by simp,e2.map_r fun a b h=>sF h⟩)
  ·cases e0
 |.pair a b,x,c,e=>by
  simp only[TR]at e |-
  obtain⟨u,v,rfl,h2,h3⟩:=e
  exact⟨_,_,Am,sF h2,sF h3⟩
 |.arr n t,l,c,e=>by
  simp only[TR]at e |-
  obtain⟨es,rfl,h2,h3⟩:=e
  exact⟨es.map (·.map IV.lend),by rw[List.map_flatten],by simp[h2],h3.map_r fun a b h=>sF h⟩
 |.ow _ t,x,c,e=>by simp[TR]at e
theorem sE {p:Bool} {Z:Nat->Prop} {h:aN} {ln:Bool} (hl:ln=true->p=false):∀{t:Ty} {x:t.den} {c:List IV},TR p Z h ln t false x c->∀v∈c,v.lent=false
 |.int k,x,c,e=>by simp only[TR]at e;subst e;simp[IV.lent]
 |.bool,x,c,e=>by simp only[TR]at e;subst e;simp[IV.lent]
 |.str,x,c,e=>by simp only[TR]at e;subst e;simp[IV.lent]
 |.unit,x,c,e=>by simp only[TR]at e;subst e;simp
 |.lst t,l,c,e=>by
  simp only[TR]at e
  obtain⟨iv,rfl,e⟩:=e
  simp only[eI,forall_eq]
  rcases e with ⟨rfl,e⟩|⟨bo,es,rfl,e1,e2⟩|⟨e0,_⟩
  ·rcases e with rfl|rfl<;>simp[IV.lent]
  ·simp only[IV.lent,IV.lentLL_eq,iB]
   constructor
   ·cases bo with
    |false=>rfl
    |true=>obtain⟨h1,h2⟩:=e1 rfl;rw[hl h1]at h2;cases h2
   ·rw[cC]
    intro e' he
    obtain⟨x,_,hx⟩:=e2.mem_r e' he
    rw[dT,cC]
    intro v hv
    rw[dT]
    exact sE hl hx v hv
  ·cases e0
 |.pair a b,x,c,e=>by
  simp only[TR]at e
  obtain⟨u,v,rfl,h2,h3⟩:=e
  intro w hw
  rcases aE.1 hw with h|h
  ·exact sE hl h2 w h
  ·exact sE hl h3 w h
 |.arr n t,l,c,e=>by
  simp only[TR]at e
  obtain⟨es,rfl,h2,h3⟩:=e
  intro w hw
  obtain⟨e',he,hw⟩:=eY.1 hw
  obtain⟨x,_,hx⟩:=h3.mem_r e' he
  exact sE hl hx w hw
 |.ow _ t,x,c,e=>by simp[TR]at e
theorem wF {p:Bool} {Z:Nat->Prop} {h:aN} {ln:Bool}:∀{t:Ty} {x:t.den} {c:List IV},TR p Z h ln t false x c->∀v∈c,v.own=false
 |.int k,x,c,e=>by simp only[TR]at e;subst e;simp[IV.own]
 |.bool,x,c,e=>by simp only[TR]at e;subst e;simp[IV.own]
 |.str,x,c,e=>by simp only[TR]at e;subst e;simp[IV.own]
 |.unit,x,c,e=>by simp only[TR]at e;subst e;simp
 |.lst t,l,c,e=>by
  simp only[TR]at e
  obtain⟨iv,rfl,e⟩:=e
  simp only[eI,forall_eq]
  rcases e with ⟨rfl,e⟩|⟨bo,es,rfl,e1,e2⟩|⟨e0,_⟩
  ·rcases e with rfl|rfl<;>simp[IV.own]
  ·simp[IV.own]
  ·cases e0
 |.pair a b,x,c,e=>by
  simp only[TR]at e
  obtain⟨u,v,rfl,h2,h3⟩:=e
  intro w hw
  rcases aE.1 hw with h|h
  ·exact wF h2 w h
  ·exact wF h3 w h
 |.arr n t,l,c,e=>by
  simp only[TR]at e
  obtain⟨es,rfl,h2,h3⟩:=e
  intro w hw
  obtain⟨e',he,hw⟩:=eY.1 hw
  obtain⟨x,_,hx⟩:=h3.mem_r e' he
  exact wF hx w hw
 |.ow _ t,x,c,e=>by simp[TR]at e
end Go.Ideal
namespace Go.Ideal
section
variable {α β γ:Type} {r q:α->β->γ->Prop}
theorem kK.imp:∀{l:List α} {m:List β} {n:List γ},kK r l m n->(∀a b c,c∈n->r a b c->q a b c)->kK q l m n
 |[],[],[],_,_=>trivial
 |a::l,b::m,c::n,h,f=>⟨f a b c (by simp) h.1,kK.imp h.2 fun a b c hc=>f a b c (by simp[hc])⟩
 |[],_::_,_,h,_=>h.elim
 |[],[],_::_,h,_=>h.elim
 |_::_,[],_,h,_=>h.elim
 |_::_,_::_,[],h,_=>h.elim
theorem kK.len:∀{l:List α} {m:List β} {n:List γ},kK r l m n->m.length=l.length/\n.length=l.length
 |[],[],[],_=>⟨rfl,rfl⟩
 |a::l,b::m,c::n,h=>by simp[kK.len h.2]
 |[],_::_,_,h=>h.elim
 |[],[],_::_,h=>h.elim
 |_::_,[],_,h=>h.elim
 |_::_,_::_,[],h=>h.elim
theorem kK.app:∀{l:List α} {m:List β} {n:List γ} {l':List α} {m':List β} {n':List γ},kK r l m n->kK r l' m' n'->kK r (l++l') (m++m') (n++n')
 |[],[],[],_,_,_,_,h=>h
 |a::l,b::m,c::n,_,_,_,h,h'=>⟨h.1,kK.app h.2 h'⟩
 |[],_::_,_,_,_,_,h,_=>h.elim
 |[],[],_::_,_,_,_,h,_=>h.elim
 |_::_,[],_,_,_,_,h,_=>h.elim
 |_::_,_::_,[],_,_,_,h,_=>h.elim
theorem kK.get:∀{l:List α} {m:List β} {n:List γ},kK r l m n->∀{i:Nat} {a:α},l[i]? = some a->∃b c,m[i]? = some b/\n[i]? = some c/\r a b c
 |a::l,b::m,c::n,h,0,x,hx=>by simp at hx;subst hx;exact⟨b,c,rfl,rfl,h.1⟩
 |a::l,b::m,c::n,h,i+1,x,hx=>by simpa using kK.get h.2 (i:=i) (by simpa using hx)
 |[],[],[],_,i,x,hx=>by simp at hx
 |[],_::_,_,h,_,_,_=>h.elim
 |[],[],_::_,h,_,_,_=>h.elim
 |_::_,[],_,h,_,_,_=>h.elim
 |_::_,_::_,[],h,_,_,_=>h.elim
end
theorem kI (a b:Lo):cS (a++b)=cS a++cS b:=by simp[cS]
theorem nP {M:Lo} {Ms:List Lo} (h:M∈Ms) {b:Nat} (hb:b∈cS M):b∈cS Ms.flatten:=by
 simp only[cS,dS]at hb |-
 obtain⟨q,h1,h2⟩:=hb
 exact⟨q,eY.2 ⟨M,h,h1⟩,h2⟩
@[simp] theorem foot_nil : cS [] = [] := rfl
theorem gV (q:Option Nat×List Nat):cS [q]=q.1.toList++q.2:=by simp[cS]
theorem TF.mono {p:Bool} {Z Z':Nat->Prop} {h h':aN} {rt rt':Nat->Option Nat} (le:Ns Z Z' h h') (hr:∀i b,rt i=some b->rt' i=some b):
 ∀{t:Ty} {x:t.den} {c:List IV} {L:Lo},TF p Z h rt t x c L->(∀b∈cS L,h'[b]? = h[b]?)->TF p Z' h' rt' t x c L
 |.pair a b,x,c,L,e,hf=>by
  simp only[TF]at e |-
  obtain⟨u,v,M,N,rfl,rfl,h1,h2⟩:=e
  exact⟨u,v,M,N,rfl,rfl,TF.mono le hr h1 fun b hb=>hf b (by rw[kI];simp[hb]),TF.mono le hr h2 fun b hb=>hf b (by rw[kI];simp[hb])⟩
 |.ow .own t,x,c,L,e,hf=>by
  simp only[TF]at e |-
  obtain⟨iv,mb,f,rfl,rfl,h1,h2⟩:=e
  refine⟨iv,mb,f,rfl,rfl,h1,?_⟩
  cases mb with
  |none=>exact h2
  |some b=>
   obtain⟨es,Ms,h3,h4,rfl⟩:=h2
   exact⟨es,Ms,by rw[hf b (by simp[gV])];exact h3,h4.imp fun a e M hM g=>TF.mono le hr g fun b hb=>hf b (by rw[gV];simp[nP hM hb]),rfl⟩
 |.ow .obj t,x,c,L,e,hf=>by
  simp only[TF]at e |-
  obtain⟨b,e,M,rfl,h1,h2,rfl⟩:=e
  exact⟨b,e,M,rfl,by rw[hf b (by simp[gV])];exact h1,TF.mono le hr h2 fun b hb=>hf b (by rw[gV];simp[hb]),rfl⟩
 |.ow .opt t,x,c,L,e,hf=>by
  simp only[TF]at e |-
  rcases e with e|⟨v,b,e,M,rfl,rfl,h1,h2,rfl⟩
  ·exact .inl e
  ·exact .inr ⟨v,b,e,M,rfl,rfl,by rw[hf b (by simp[gV])];exact h1,TF.mono le hr h2 fun b hb=>hf b (by rw[gV];simp[hb]),rfl⟩
 |.ow (.root i) t,x,c,L,e,hf=>by
  simp only[TF]at e |-
  obtain⟨b,h1,h2⟩:=e
  exact⟨b,hr i b h1,h2⟩
 |.int k,x,c,L,e,hf=>by simp only[TF]at e |-;exact⟨TR.mono le e.1,e.2⟩
 |.bool,x,c,L,e,hf=>by simp only[TF]at e |-;exact⟨TR.mono le e.1,e.2⟩
 |.str,x,c,L,e,hf=>by simp only[TF]at e |-;exact⟨TR.mono le e.1,e.2⟩
 |.unit,x,c,L,e,hf=>by simp only[TF]at e |-;exact⟨TR.mono le e.1,e.2⟩
 |.lst t,x,c,L,e,hf=>by simp only[TF]at e |-;exact⟨TR.mono le e.1,e.2⟩
 |.arr n t,x,c,L,e,hf=>by simp only[TF]at e |-;exact⟨TR.mono le e.1,e.2⟩
theorem BR.le {c c':Cf} (hle:Le c c') {x:jY} {b:Option Nat} {f:List Nat} (hH:∀i,b=some i\/i∈f->c'.h[i]? = c.h[i]?) (h:BR c x b f):BR c' x b f:=by
 cases x with
 |arr wr hp ln t l=>
  simp only[BR]at h |-
  refine⟨h.1,?_⟩
  replace h:=h.2
  cases b with
  |none=>exact h
  |some i=>
   obtain⟨es,h1,h2⟩:=h
   exact⟨es,by rw[hH i (.inl rfl)];exact h1,h2.imp fun a b h=>TR.le hle h⟩
 |obj wr cs=>
  simp only[BR]at h |-
  obtain⟨h0,i,rfl,e,h1,h2⟩:=h
  exact⟨h0,i,rfl,e,by rw[hH i (.inl rfl)];exact h1,h2.le hle⟩
 |gone=>trivial
 |kns wr sz es=>
  simp only[BR]at h |-
  obtain⟨h0,i,rfl,es',h1,h2⟩:=h
  exact⟨h0,i,rfl,es',by rw[hH i (.inl rfl)];exact h1,h2.imp fun a b h=>⟨h.1.le hle,h.2⟩⟩
 |arr2 wr t l op=>
  cases op with
  |some y=>
   obtain⟨i,cs⟩:=y
   simp only[BR]at h |-
   obtain⟨b,es1,e,es2,Ms1,Ms2,rfl,h1,h2,h3,h4,h5,h6,h7,rfl⟩:=h
   refine⟨b,es1,e,es2,Ms1,Ms2,rfl,by rw[hH b (.inl rfl)];exact h1,h2,h3,h4,h5.imp fun a e M hM g=>?_,h6.imp fun a e M hM g=>?_,h7.le hle,rfl⟩
   ·rw[hle.p]
    exact TF.mono hle.Z hle.rt g fun b hb=>hH b (.inr (nP (Er _ hM) hb))
   ·rw[hle.p]
    exact TF.mono hle.Z hle.rt g fun b hb=>hH b (.inr (nP (pM _ hM) hb))
  |none=>
  simp only[BR]at h |-
  cases b with
  |none=>exact h
  |some i=>
   obtain⟨es,Ms,h1,h2,rfl⟩:=h
   refine⟨es,Ms,by rw[hH i (.inl rfl)];exact h1,h2.imp fun a e M hM g=>?_,rfl⟩
   rw[hle.p]
   exact TF.mono hle.Z hle.rt g fun b hb=>hH b (.inr (nP hM hb))
 |fold wr t x=>
  simp only[BR]at h |-
  rcases h with h|⟨v,b,e,M,rfl,rfl,h1,h2,rfl⟩
  ·exact .inl h
  ·refine .inr ⟨v,b,e,M,rfl,rfl,by rw[hH b (.inl rfl)];exact h1,?_,rfl⟩
   rw[hle.p]
   exact TF.mono hle.Z hle.rt h2 fun b hb=>hH b (.inr hb)
 |rt i B=>
  simp only[BR]at h |-
  obtain⟨h1,h2,h3,h4,y,h5,h6⟩:=h
  obtain⟨m,z,hz,hyz⟩:=hle.H B y h5
  obtain⟨b,hb⟩:=tK.1 h4
  refine⟨h1,h2,by rw[hle.rt i b hb,m,<-h3,hb],by rw[hle.rt i b hb];simp,z,hz,?_⟩
  rcases hyz with rfl|hyz
  ·trivial
  ·cases y<;>simp only at h6<;>cases z<;>simp only[eD]at hyz |-
def Cf.all (c:Cf):Cf:={ c with Z:=fun _=>True }
theorem Cf.le_all (c:Cf):Le c c.all:=⟨rfl,fun B x h=>⟨rfl,x,h,eD.rfl' _ x⟩,⟨fun _ _=>trivial,fun _ _=>rfl⟩,fun _ _ h=>h⟩
theorem xB.all {c:Cf} (h:xB c):xB c.all:=fun B x hx=>(h B x hx).le c.le_all fun _ _=>rfl
theorem toC_fz {c:Cf} (hb:xB c) {t:Ty} {cs:List AV} {x:t.den×List AV} {u:List IV} (e:oC c.H t cs=some x) (h:dB c cs u) {d:Nat} (hd:t.dep<d):
 ∃pre,cs=pre++x.2/\∃u1 u2,u=u1++u2/\dB c.all x.2 u2/\∃u',dM (fz c.h d) u1=some u'/\TR c.p Zn [] (nB c.H pre) t false x.1 u':=by
 obtain⟨pre,h1,h2⟩:=jM (c:=c.all) hb.all e (h.le c.le_all)
 refine⟨pre,h1,?_⟩
 obtain⟨u1,u2,rfl,h3,h4⟩:=h2 true (nB c.H pre) (fun _=>rfl) (fun h=>h) (fun _ _ _ _=>trivial)
 obtain⟨u',h5,h6⟩:=Ab h3 hd
 exact⟨u1,u2,rfl,h4,u',h5,h6⟩
def TV (p:Bool) (Z:Nat->Prop) (h:aN) (ln:Bool) (v:qL) (hp:Bool) (x:v.t.den) (iv:IV):Prop:=
 if v.agg=true then ∃cs,iv = .agg cs/\TR p Z h ln v.t hp x cs else TR p Z h ln v.t hp x [iv]
theorem TV.own {p Z h ln v x iv} (e:TV p Z h ln v false x iv):iv.own=false:=by
 unfold TV at e
 split at e
 ·obtain⟨cs,rfl,e⟩:=e
  simp only[IV.own,IV.ownL_eq,cC]
  intro w hw;simp[wF e w hw]
 ·exact wF e iv (by simp)
theorem TV.lent {p Z h ln v x iv} (hl:ln=true->p=false) (e:TV p Z h ln v false x iv):iv.lent=false:=by
 unfold TV at e
 split at e
 ·obtain⟨cs,rfl,e⟩:=e
  simp only[IV.lent,IV.lentL_eq,cC]
  intro w hw;simp[sE hl e w hw]
 ·exact sE hl e iv (by simp)
theorem TV.lend {p Z h ln v x iv} (e:TV p Z h ln v false x iv):TV true Z h true v false x iv.lend:=by
 unfold TV at e |-
 split at e
 ·rename_i ha;rw[if_pos ha]
  obtain⟨cs,rfl,e⟩:=e
  exact⟨_,by simp only[IV.lend,IV.lendL_eq],sF e⟩
 ·rename_i ha;rw[if_neg ha];simpa using sF e
theorem TR.unlent {p p':Bool} {Z:Nat->Prop} {h:aN} {ln ln':Bool} (hl:ln=true->p=false):∀{t:Ty} {hp:Bool} {x:t.den} {c:List IV},TR p Z h ln t hp x c->TR p' Z h ln' t hp x c
 |.int k,_,x,c,e=>by simpa only[TR]using e
 |.bool,_,x,c,e=>by simpa only[TR]using e
 |.str,_,x,c,e=>by simpa only[TR]using e
 |.unit,_,x,c,e=>by simpa only[TR]using e
 |.lst t,hp,l,c,e=>by
  simp only[TR]at e |-
  obtain⟨iv,rfl,e⟩:=e
  refine⟨iv,rfl,?_⟩
  rcases e with e|⟨bo,es,rfl,e1,e2⟩|⟨e0,b,tot,off,len,cap,k,rfl,e1,e2,e3,e4,e5⟩
  ·exact .inl e
  ·refine .inr (.inl ⟨bo,es,rfl,fun hbo=>?_,e2.imp fun a b h=>TR.unlent hl h⟩)
   obtain⟨h1,h2⟩:=e1 hbo
   rw[hl h1]at h2;cases h2
  ·exact .inr (.inr ⟨e0,b,tot,off,len,cap,k,rfl,e1,e2,e3,e4,e5.imp fun a b h=>TR.unlent hl h⟩)
 |.pair a b,hp,x,c,e=>by
  simp only[TR]at e |-
  obtain⟨u,v,rfl,h2,h3⟩:=e
  exact⟨u,v,rfl,TR.unlent hl h2,TR.unlent hl h3⟩
 |.arr n t,hp,l,c,e=>by
  simp only[TR]at e |-
  obtain⟨es,rfl,h2,h3⟩:=e
  exact⟨es,rfl,h2,h3.imp fun a b h=>TR.unlent hl h⟩
 |.ow _ t,_,x,c,e=>by simp[TR]at e
theorem TV.unlent {p p' Z h ln ln' v hp x iv} (hl:ln=true->p=false) (e:TV p Z h ln v hp x iv):TV p' Z h ln' v hp x iv:=by
 unfold TV at e |-
 split at e
 ·rename_i ha;rw[if_pos ha];obtain⟨cs,h1,e⟩:=e;exact⟨cs,h1,e.unlent hl⟩
 ·rename_i ha;rw[if_neg ha];exact e.unlent hl
theorem TV.flags {p Z h ln ln' v hp hp' x iv} (l1:ln=true->ln'=true) (h1:hp=true->hp'=true) (e:TV p Z h ln v hp x iv):TV p Z h ln' v hp' x iv:=by
 unfold TV at e |-
 split at e
 ·rename_i ha;rw[if_pos ha];obtain⟨cs,h2,e⟩:=e;exact⟨cs,h2,e.flags l1 h1⟩
 ·rename_i ha;rw[if_neg ha];exact e.flags l1 h1
theorem TV.pure {p Z Z' h h' ln v x iv} (e:TV p Z h ln v false x iv):TV p Z' h' ln v false x iv:=by
 unfold TV at e |-
 split at e
 ·rename_i ha;rw[if_pos ha];obtain⟨cs,h2,e⟩:=e;exact⟨cs,h2,e.pure⟩
 ·rename_i ha;rw[if_neg ha];exact e.pure
theorem Wq {H:eB} {v:qL} {a:AV} {x:v.t.den} (e:Yk H v a=some x):(v.agg=true/\∃cs,a = .agg cs/\oC H v.t cs=some (x,[]))\/(v.agg=false/\a.one=true/\oC H v.t [a]=some (x,[])):=by
 unfold Yk at e
 obtain⟨y,e1,e⟩:=aA.1 e
 have hy:y=(x,[]):=by
  obtain⟨y1,y2⟩:=y
  cases y2 with
  |nil=>simp only[aD]at e;subst e;rfl
  |cons _ _=>cases e
 subst hy
 split at e1
 ·rename_i ha
  cases a<;>simp only at e1<;>try (cases e1;done)
  exact .inl ⟨ha,_,rfl,e1⟩
 ·rename_i ha
  split at e1
  ·rename_i h1;exact .inr ⟨by simpa using ha,h1,e1⟩
  ·cases e1
theorem yN {c:Cf} {a:AV} (h:a.one=true) {iv:IV} (v:Va c a iv):iv.one=true:=by
 cases a<;>simp only[AV.one]at h<;>try (cases h;done)
 all_goals simp only[Va]at v
 case lst hp ln t l=>exact(TR.one v).2 iv (by simp)
 case nils=>rcases v with rfl|rfl<;>rfl
 case rptr=>obtain⟨e,_,⟨bo,rfl⟩|⟨_,b,tot,i,k,rfl,_⟩⟩:=v<;>rfl
 case fn=>obtain⟨_,_,rfl,_⟩:=v;rfl
 case own B=>exact IV.onc_one v.1
 case sub=>exact IV.onc_one v.1
 case own2=>exact IV.onc_one v.1
 case kown=>exact IV.onc_one v.1
 case keptr=>exact IV.onc_one v.1
 case iface=>obtain⟨w,rfl,_⟩:=v;rfl
 case klit=>obtain⟨w,rfl,_⟩:=v;rfl
 case eptr2=>exact IV.onc_one v.1
 case any=>exact IV.onc_one v
 case ptr=>exact IV.onc_one v.1
 case eptr=>exact IV.onc_one v.1
 all_goals subst v;rfl
theorem Cz {c:Cf} (hb:xB c) {v:qL} {a:AV} {x:v.t.den} {iv:IV} (e:Yk c.H v a=some x) (h:Va c a iv) {hp ln:Bool}
 (f1:a.hpV c.H=true->hp=true) (f2:a.lnV c.H=true->ln=true) (f3:∀B∈a.refs,∀b∈c.ft B,c.Z b):TV c.p c.Z c.h ln v hp x iv:=by
 unfold TV
 rcases Wq e with ⟨ha,cs,rfl,e'⟩|⟨ha,h1,e'⟩
 ·rw[if_pos ha]
  simp only[Va]at h
  obtain⟨ivs,rfl,h⟩:=h
  obtain⟨pre,h1,h2⟩:=jM hb e' h
  simp only[bA]at h1;subst h1
  obtain⟨u1,u2,rfl,h3,h4⟩:=h2 hp ln f1 f2 (by simpa only[AV.refs]using f3)
  simp only[dB]at h4;subst h4
  exact⟨_,rfl,by simpa using h3⟩
 ·rw[if_neg (by simp[ha])]
  have hc:dB c [a] [iv]:=dB.single.2 ((eT h1).2 ⟨iv,rfl,yN h1 h,h⟩)
  obtain⟨pre,g1,h2⟩:=jM hb e' hc
  simp only[bA]at g1;subst g1
  have k1:a.hpV c.H=a.hpF c.H:=by cases a<;>simp_all [AV.one,AV.hpV]
  have k2:a.lnV c.H=a.lnF c.H:=by cases a<;>simp_all [AV.one,AV.lnV]
  obtain⟨u1,u2,g,h3,h4⟩:=h2 hp ln (by simpa [oG,<-k1]using f1) (by simpa [nB,<-k2]using f2) (by simpa [AV.refsL]using f3)
  simp only[dB]at h4;subst h4
  simp at g;subst g
  exact h3
theorem wO {α β:Type} {f:α->Option β} {a:α} {r:List β} (h:dM f [a]=some r):∃b,f a=some b/\r=[b]:=by
 simp only[dM]at h
 obtain⟨b,e1,h⟩:=aA.1 h
 simp at h;exact⟨b,e1,h.symm⟩
theorem Xs {h:aN} {d:Nat} {cs cs':List IV} (e:dM (fz h d) cs=some cs'):fz h (d+1) (.agg cs)=some (.agg cs'):=by
 unfold fz
 split
 ·simp[e]
 ·rename_i ho
  have hno:∀v∈cs,v.own=false:=by
   intro v hv
   simp only[IV.own,IV.ownL_eq]at ho
   rw[dT,cC]at ho
   simpa using ho v hv
  have:dM (fz h d) cs=some cs:=by
   clear e ho
   induction cs with
   |nil=>rfl
   |cons a l ih=>simp[dM,pZ (hno a (by simp)),ih (fun v hv=>hno v (by simp[hv]))]
  rw[this]at e;injection e with e;subst e;rfl
theorem Wp {c:Cf} (hb:xB c) {v:qL} {a:AV} {x:v.t.den} {iv:IV} (e:Yk c.H v a=some x) (h:Va c a iv) {d:Nat} (hd:v.t.dep<d):
 ∃iv',fz c.h (d+1) iv=some iv'/\TV c.p Zn [] (a.lnV c.H) v false x iv':=by
 have h1:=Cz (c:=c.all) hb.all (hp:=true) (ln:=a.lnV c.H) e (h.le c.le_all) (fun _=>rfl) (fun h=>h) (fun _ _ _ _=>trivial)
 unfold TV at h1 |-
 split at h1
 ·rename_i ha
  simp only[if_pos ha]
  obtain⟨cs,rfl,h1⟩:=h1
  obtain⟨u,g1,g2⟩:=Ab h1 hd
  exact⟨_,Xs g1,u,rfl,g2⟩
 ·rename_i ha
  simp only[if_neg ha]
  obtain⟨u,g1,g2⟩:=Ab h1 (show v.t.dep<d+1 by omega)
  obtain⟨b,g3,rfl⟩:=wO g1
  exact⟨b,g3,g2⟩
def qM (p:Bool) (Z:Nat->Prop) (h:aN) (ln hp:Bool):(vs:List qL)->(cW (vs.map (·.t))).den->List IV->Prop
 |[],_,ivs=>ivs=[]
 |v::vs,x,ivs=>∃iv r,ivs=iv::r/\TV p Z h ln v hp (headD v.t (vs.map (·.t)) x) iv/\qM p Z h ln hp vs (Jp v.t (vs.map (·.t)) x) r
theorem qZ:∀{t:Ty} {r:List Ty} (x:t.den) (y:(cW r).den),headD t r (Kl t r x y)=x
 |_,[],_,_=>rfl
 |_,_::_,_,_=>rfl
theorem qR:∀{t:Ty} {r:List Ty} (x:t.den) (y:(cW r).den),Jp t r (Kl t r x y)=y
 |_,[],_,_=>rfl
 |_,_::_,_,_=>rfl
theorem xC {c:Cf} (hb:xB c) {d:Nat}:∀{vs:List qL} {as:List AV} {x:(cW (vs.map (·.t))).den} {ivs:List IV},Cy c.H vs as=some x->jP c as ivs->(∀v∈vs,v.t.dep<d)->
 ∃ivs',dM (fz c.h (d+1)) ivs=some ivs'/\qM c.p Zn [] (Dn c.H as) false vs x ivs'/\(Qh c.H as=false->∀iv∈ivs,iv.own=false)
 |[],as,x,ivs,e,h,hd=>by
  cases as with
  |nil=>simp only[jP]at h;subst h;exact⟨[],rfl,rfl,by simp⟩
  |cons _ _=>simp[Cy]at e
 |v::vs,as,x,ivs,e,h,hd=>by
  cases as with
  |nil=>simp[Cy]at e
  |cons a as=>
   simp only[Cy]at e
   obtain⟨y,e1,e⟩:=aA.1 e
   obtain⟨z,e2,e⟩:=aA.1 e
   simp only[aD]at e;subst e
   simp only[jP]at h
   obtain⟨iv,r,rfl,h1,h2⟩:=h
   obtain⟨iv',g1,g2⟩:=Wp hb e1 h1 (hd v (by simp))
   obtain⟨r',g3,g4,g5⟩:=xC hb e2 h2 (fun v hv=>hd v (by simp[hv]))
   refine⟨iv'::r',by simp[dM,g1,g3],⟨iv',r',rfl,?_,?_⟩,?_⟩
   ·rw[qZ];exact g2.flags (by simp[Dn];exact fun h=>.inl h) id
   ·rw[qR]
    have:∀{vs:List qL} {x:(cW (vs.map (·.t))).den} {ivs:List IV} {ln ln':Bool},(ln=true->ln'=true)->qM c.p Zn [] ln false vs x ivs->qM c.p Zn [] ln' false vs x ivs:=by
     intro vs
     induction vs with
     |nil=>intro x ivs ln ln' _ h;exact h
     |cons v vs ih=>
      intro x ivs ln ln' hl h
      simp only[qM]at h |-
      obtain⟨iv,r,rfl,h1,h2⟩:=h
      exact⟨iv,r,rfl,h1.flags hl id,ih hl h2⟩
    exact this (by simp only[Dn,List.any_cons,cV];exact fun h=>.inr h) g4
   ·intro hh iv0 hiv
    simp only[Qh,List.any_cons,iB]at hh
    rcases aQ.1 hiv with rfl|hiv
    ·have:=Cz (c:=c.all) hb.all (hp:=false) (ln:=true) e1 (h1.le c.le_all) (fun h=>by have:=hh.1;rw[show c.all.H=c.H from rfl]at h;rw[this]at h;cases h) (fun _=>rfl) (fun _ _ _ _=>trivial)
     exact this.own
    ·exact g5 hh.2 iv0 hiv
theorem qM.flags {p:Bool} {Z:Nat->Prop} {h:aN} {ln ln' hp hp':Bool} (l1:ln=true->ln'=true) (h1:hp=true->hp'=true):∀{vs:List qL} {x:(cW (vs.map (·.t))).den} {ivs:List IV},qM p Z h ln hp vs x ivs->qM p Z h ln' hp' vs x ivs
 |[],x,ivs,e=>e
 |v::vs,x,ivs,e=>by
  simp only[qM]at e |-
  obtain⟨iv,r,rfl,g1,g2⟩:=e
  exact⟨iv,r,rfl,g1.flags l1 h1,qM.flags l1 h1 g2⟩
theorem qM.unlent {p p':Bool} {Z:Nat->Prop} {h:aN} {ln ln' hp:Bool} (hl:ln=true->p=false):∀{vs:List qL} {x:(cW (vs.map (·.t))).den} {ivs:List IV},qM p Z h ln hp vs x ivs->qM p' Z h ln' hp vs x ivs
 |[],x,ivs,e=>e
 |v::vs,x,ivs,e=>by
  simp only[qM]at e |-
  obtain⟨iv,r,rfl,g1,g2⟩:=e
  exact⟨iv,r,rfl,g1.unlent hl,qM.unlent hl g2⟩
theorem qM.pure {p:Bool} {Z Z':Nat->Prop} {h h':aN} {ln:Bool}:∀{vs:List qL} {x:(cW (vs.map (·.t))).den} {ivs:List IV},qM p Z h ln false vs x ivs->qM p Z' h' ln false vs x ivs
 |[],x,ivs,e=>e
 |v::vs,x,ivs,e=>by
  simp only[qM]at e |-
  obtain⟨iv,r,rfl,g1,g2⟩:=e
  exact⟨iv,r,rfl,g1.pure,qM.pure g2⟩
theorem qM.lend {p:Bool} {Z:Nat->Prop} {h:aN} {ln:Bool}:∀{vs:List qL} {x:(cW (vs.map (·.t))).den} {ivs:List IV},qM p Z h ln false vs x ivs->qM true Z h true false vs x (ivs.map IV.lend)
 |[],x,ivs,e=>by simp only[qM]at e;subst e;rfl
 |v::vs,x,ivs,e=>by
  simp only[qM]at e |-
  obtain⟨iv,r,rfl,g1,g2⟩:=e
  exact⟨iv.lend,r.map IV.lend,rfl,g1.lend,qM.lend g2⟩
theorem qM.lent {p:Bool} {Z:Nat->Prop} {h:aN} {ln:Bool} (hl:ln=true->p=false):∀{vs:List qL} {x:(cW (vs.map (·.t))).den} {ivs:List IV},qM p Z h ln false vs x ivs->∀v∈ivs,v.lent=false
 |[],x,ivs,e=>by simp only[qM]at e;subst e;simp
 |v::vs,x,ivs,e=>by
  simp only[qM]at e
  obtain⟨iv,r,rfl,g1,g2⟩:=e
  intro w hw
  rcases aQ.1 hw with rfl|hw
  ·exact g1.lent hl
  ·exact qM.lent hl g2 w hw
theorem Pl {c:Cf} {hp ln:Bool} {v:qL} {x:v.t.den} {a:AV} {iv:IV} (e:ofV hp ln v x=some a) (h:TV c.p c.Z c.h ln v hp x iv):Va c a iv:=by
 unfold ofV at e
 unfold TV at h
 split at e
 ·rename_i ha
  rw[if_pos ha]at h
  simp at e;subst e
  obtain⟨cs,rfl,h⟩:=h
  exact⟨cs,rfl,iD h⟩
 ·rename_i ha
  rw[if_neg ha]at h
  have:=iD h
  split at e
  ·rename_i b hb
   split at e
   ·rename_i h1
    simp at e;subst e
    rw[hb,dB.single]at this
    obtain⟨iv',g1,_,g2⟩:=(eT h1).1 this
    simp at g1;subst g1;exact g2
   ·cases e
  ·cases e
theorem Dk {c:Cf} {hp ln:Bool}:∀{vs:List qL} {x:(cW (vs.map (·.t))).den} {as:List AV} {ivs:List IV},Dl hp ln vs x=some as->qM c.p c.Z c.h ln hp vs x ivs->jP c as ivs
 |[],x,as,ivs,e,h=>by simp[Dl]at e;subst e;exact h
 |v::vs,x,as,ivs,e,h=>by
  simp only[Dl]at e
  obtain⟨y,e1,e⟩:=aA.1 e
  obtain⟨z,e2,e⟩:=aA.1 e
  simp only[aD]at e;subst e
  simp only[qM]at h
  obtain⟨iv,r,rfl,g1,g2⟩:=h
  exact⟨iv,r,rfl,Pl e1 g1,Dk e2 g2⟩
theorem Pk {hp ln:Bool}:∀{vs:List qL} {x:(cW (vs.map (·.t))).den} {as:List AV},Dl hp ln vs x=some as->as.length=vs.length
 |[],x,as,e=>by simp[Dl]at e;subst e;rfl
 |v::vs,x,as,e=>by
  simp only[Dl]at e
  obtain⟨y,e1,e⟩:=aA.1 e
  obtain⟨z,e2,e⟩:=aA.1 e
  simp only[aD]at e;subst e
  simp[Pk e2]
def Av (p ln:Bool) (vs:List qL) (x:(cW (vs.map (·.t))).den) (iv:IV):Prop:=
 ∃ivs,qM p Zn [] ln false vs x ivs/\iv=gK ivs
theorem Fk {c:Cf} {ln:Bool} {vs:List qL} {x:(cW (vs.map (·.t))).den} {a:AV} {iv:IV} (e:Jw false ln vs x=some a) (h:Av c.p ln vs x iv):Va c a iv:=by
 unfold Jw at e
 obtain⟨as,e1,e⟩:=aA.1 e
 obtain⟨ivs,h,rfl⟩:=h
 have:=Dk (c:=c) e1 h.pure
 split at e
 ·simp at e;subst e
  simp only[jP]at this
  obtain⟨u,v,rfl,h1,rfl⟩:=this
  exact h1
 ·rename_i hno
  simp at e;subst e
  have hl:=this.len
  refine⟨ivs,?_,this⟩
  unfold gK
  split
  ·rename_i v
   obtain⟨a,rfl⟩:=iS.1 hl.symm
   exact(hno a rfl).elim
  ·rfl
theorem Av.unlent {p p' ln ln':Bool} (hl:ln=true->p=false) {vs:List qL} {x:(cW (vs.map (·.t))).den} {iv:IV} (h:Av p ln vs x iv):Av p' ln' vs x iv:=by
 obtain⟨ivs,h,e⟩:=h;exact⟨ivs,h.unlent hl,e⟩
theorem Av.lent {p ln:Bool} (hl:ln=true->p=false) {vs:List qL} {x:(cW (vs.map (·.t))).den} {iv:IV} (h:Av p ln vs x iv):iv.lent=false:=by
 obtain⟨ivs,h,rfl⟩:=h
 have:=h.lent hl
 unfold gK
 split
 ·exact this _ (by simp)
 ·simp only[IV.lent,IV.lentL_eq,cC]
  intro w hw;simp[this w hw]
structure hQ (prog:Nat->Option mO) (opn:Nat->Bool) (f:Nat) (c:Ct):Prop where
 dep:∀v∈c.args,v.t.dep<19
 ok:∀(p:Bool) x ivs r,qM p Zn [] true false c.args x ivs->c.F x=some r->∃iv h' iv',eC prog opn f ivs []=some (iv,h')/\fz h' depth iv=some iv'/\Av p (!c.fresh) c.res r iv'
theorem zK {prog:Nat->Option mO} {opn opn':Nat->Bool} {f:Nat} {ct:Ct} (hc:hQ prog opn f ct) (ho:opn' f=false) {c:Cf} (hb:xB c) {args:List AV} {ivs:List IV} (h:jP c args ivs) {x} (hx:Cy c.H ct.args args=some x)
 (hf:(ct.fresh|| !(Qh c.H args))=true) {r} (hr:ct.F x=some r):∃iv,iX (eC prog opn) opn' f ivs c.h=some (iv,c.h)/\Av c.p (!ct.fresh&&Dn c.H args) ct.res r iv:=by
 obtain⟨ivs',g1,g2,g3⟩:=xC hb hx h hc.dep
 unfold iX
 rw[ho]
 simp only[aR,if_false]
 split
 ·rename_i hown
  have hfresh:ct.fresh=true:=by
   cases hfr:ct.fresh with
   |true=>rfl
   |false=>
    rw[hfr]at hf
    simp at hf
    have:=g3 hf
    obtain⟨v,hv,hv'⟩:=kF.1 hown
    rw[this v hv]at hv';cases hv'
  obtain⟨iv,h',iv',q1,q2,q3⟩:=hc.ok true x _ r g2.lend hr
  have hv:Jk c.h ivs=some (ivs'.map IV.lend):=by unfold Jk;rw[show depth=19+1 from rfl,g1];rfl
  have hl:=q3.lent (by simp[hfresh])
  refine⟨iv',?_,q3.unlent (by simp[hfresh])⟩
  simp[hv,q1,q2,hl]
 ·rename_i hown
  have hsame:ivs'=ivs:=by
   have:dM (fz c.h 20) ivs=some ivs:=by
    rw[dT,cC]at hown
    clear g1 g2 g3 h
    induction ivs with
    |nil=>rfl
    |cons a l ih=>
     have h1:=hown a (by simp)
     simp[dM,pZ (by simpa using h1),ih (fun v hv=>hown v (by simp[hv]))]
   rw[show (19+1:Nat)=20 from rfl,this]at g1
   injection g1 with g1;exact g1.symm
  subst hsame
  cases hl:Dn c.H args with
  |true=>
   obtain⟨iv,h',iv',q1,q2,q3⟩:=hc.ok c.p x _ r (g2.flags (fun _=>rfl) id) hr
   refine⟨iv',by simp[q1,q2],?_⟩
   simpa using q3
  |false=>
   rw[hl]at g2
   obtain⟨iv,h',iv',q1,q2,q3⟩:=hc.ok false x _ r (g2.unlent (by simp)) hr
   exact⟨iv',by simp[q1,q2],q3.unlent (fun _=>rfl)⟩
end Go.Ideal
namespace Go.Ideal
def jY.isGone:jY->Bool
 |.gone=>true
 |_=>false
structure lL where
 p:Bool
 N:Nat
 O0:Nat->Prop
 h0:aN
 Z0:Nat->Prop
structure GH (R:lL) (c:Cf):Prop where
 p:c.p=R.p
 blk:xB c
 inj:∀B B' x x' b,c.H[B]? = some x->c.H[B']? = some x'->x.wr=true->x'.wr=true->b∈c.ft B->b∈c.ft B'->B=B'
 nd:∀B x,c.H[B]? = some x->x.wr=true->(c.ft B).Nodup
 wr:∀B x b,c.H[B]? = some x->x.wr=true->b∈c.ft B->(R.O0 b\/R.N≤b)/\¬c.Z b
 ro:∀B x b,c.H[B]? = some x->x.wr=false->x≠.gone->b∈c.ft B->b<R.N/\¬R.O0 b
 lt:∀B x b,c.H[B]? = some x->x≠.gone->b∈c.ft B->b<c.h.length
 base:R.N≤c.h.length/\∀b,b<R.N->¬R.O0 b->c.h[b]? = R.h0[b]?
 zb:∀b,c.Z b->b<c.h.length/\(R.Z0 b\/R.O0 b\/R.N≤b)
 z0:∀b,R.Z0 b->c.Z b
 rtd:∀i b,c.rt i=some b->∃(j:Nat) (B:Nat),c.H[j]? = some (.rt i B)
theorem GH.gen' {R:lL} {c c':Cf} (g:GH R c) (hp:c'.p=c.p) (hZ:c'.Z=c.Z) (hrt:∀i b,c.rt i=some b->c'.rt i=some b) (hrd:∀i b,c'.rt i=some b->∃(j:Nat) (B:Nat),c'.H[j]? = some (.rt i B)) (hlen:c.h.length≤c'.h.length) (W:Nat->Prop)
 (hW:∀b,W b->∃B x,c.H[B]? = some x/\x.wr=true/\b∈c.ft B)
 (hh:∀b,b<c.h.length->¬W b->c'.h[b]? = c.h[b]?)
 (hle:∀B x,c.H[B]? = some x->c'.m B=c.m B/\∃y,c'.H[B]? = some y/\(y = .gone\/eD (c.m B) x y))
 (hH:Le c c'->∀B x,c'.H[B]? = some x->x = .gone\/(c.H[B]? = some x/\c'.m B=c.m B/\c'.f B=c.f B/\∀b,b∈c.ft B->¬W b)\/
   (x.wr=true/\BR c' x (c'.m B) (c'.f B)/\(c'.ft B).Nodup/\∀b,b∈c'.ft B->b<c'.h.length/\(W b\/c.h.length≤b)/\∀B' x',c'.H[B']? = some x'->x'.wr=true->b∈c'.ft B'->B'=B)\/
   (BR c' x (c'.m B) (c'.f B)/\c'.ft B=[])):
 GH R c'/\Le c c':=by
 have hWr:∀b,W b->(R.O0 b\/R.N≤b)/\¬c.Z b:=fun b hb=>by obtain⟨B,x,h1,h2,h3⟩:=hW b hb;exact g.wr B x b h1 h2 h3
 have le:Le c c':=⟨hp,hle,⟨fun b hb=>by rw[hZ];exact hb,fun b hb=>hh b (g.zb b hb).1 fun hw=>(hWr b hw).2 hb⟩,hrt⟩
 have hH:=hH le
 have hft:∀{B},c'.m B=c.m B->c'.f B=c.f B->c'.ft B=c.ft B:=fun h1 h2=>by simp only[Cf.ft,h1,h2]
 refine⟨⟨hp.trans g.p,?_,?_,?_,?_,?_,?_,⟨cQ g.base.1 hlen,?_⟩,?_,fun b hb=>by rw[hZ];exact g.z0 b hb,hrd⟩,le⟩
 ·intro B x hB
  rcases hH B x hB with rfl|⟨h1,h2,hf,h3⟩|⟨_,h,_⟩|⟨h,_⟩
  ·trivial
  ·rw[h2,hf]
   by_cases hg:x = .gone
   ·subst hg;trivial
   ·exact(g.blk B x h1).le le fun b hb=>hh b (g.lt B x b h1 hg (Cf.ft_iff.2 hb)) (h3 b (Cf.ft_iff.2 hb))
  ·exact h
  ·exact h
 ·intro B B' x x' b hB hB' hx hx' hm hm'
  rcases hH B x hB with rfl|⟨h1,h2,hf,h3⟩|⟨_,_,_,h⟩|⟨_,h⟩
  ·cases hx
  ·rcases hH B' x' hB' with rfl|⟨k1,k2,kf,k3⟩|⟨_,_,_,k⟩|⟨_,k⟩
   ·cases hx'
   ·rw[hft h2 hf]at hm;rw[hft k2 kf]at hm'
    exact g.inj B B' x x' b h1 k1 hx hx' hm hm'
   ·exact(k b hm').2.2 B x hB hx hm
   ·rw[k]at hm';cases hm'
  ·exact((h b hm).2.2 B' x' hB' hx' hm').symm
  ·rw[h]at hm;cases hm
 ·intro B x hB hx
  rcases hH B x hB with rfl|⟨h1,h2,hf,h3⟩|⟨_,_,h,_⟩|⟨_,h⟩
  ·cases hx
  ·rw[hft h2 hf];exact g.nd B x h1 hx
  ·exact h
  ·rw[h];simp
 ·intro B x b hB hx hm
  rw[hZ]
  rcases hH B x hB with rfl|⟨h1,h2,hf,h3⟩|⟨_,_,_,h⟩|⟨_,h⟩
  ·cases hx
  ·rw[hft h2 hf]at hm;exact g.wr B x b h1 hx hm
  ·rcases (h b hm).2.1 with h|h
   ·exact hWr b h
   ·exact⟨.inr (cQ g.base.1 h),fun hz=>by have:=(g.zb b hz).1;omega⟩
  ·rw[h]at hm;cases hm
 ·intro B x b hB hx hg hm
  rcases hH B x hB with rfl|⟨h1,h2,hf,h3⟩|⟨h,_,_⟩|⟨_,h⟩
  ·exact(hg rfl).elim
  ·rw[hft h2 hf]at hm;exact g.ro B x b h1 hx hg hm
  ·rw[hx]at h;cases h
  ·rw[h]at hm;cases hm
 ·intro B x b hB hg hm
  rcases hH B x hB with rfl|⟨h1,h2,hf,h3⟩|⟨_,_,_,h⟩|⟨_,h⟩
  ·exact(hg rfl).elim
  ·rw[hft h2 hf]at hm;exact bM (g.lt B x b h1 hg hm) hlen
  ·exact(h b hm).1
  ·rw[h]at hm;cases hm
 ·intro b hb ho
  rw[hh b (bM hb g.base.1) fun hw=>by
   rcases (hWr b hw).1 with h|h
   ·exact ho h
   ·omega]
  exact g.base.2 b hb ho
 ·intro b hb
  rw[hZ]at hb
  exact⟨bM (g.zb b hb).1 hlen,(g.zb b hb).2⟩
theorem GH.gen {R:lL} {c c':Cf} (g:GH R c) (hp:c'.p=c.p) (hZ:c'.Z=c.Z) (hrt:c'.rt=c.rt) (hrd:∀(j:Nat) i B,c.H[j]? = some (.rt i B)->c'.H[j]? = some (.rt i B)) (hlen:c.h.length≤c'.h.length) (W:Nat->Prop)
 (hW:∀b,W b->∃B x,c.H[B]? = some x/\x.wr=true/\b∈c.ft B)
 (hh:∀b,b<c.h.length->¬W b->c'.h[b]? = c.h[b]?)
 (hle:∀B x,c.H[B]? = some x->c'.m B=c.m B/\∃y,c'.H[B]? = some y/\(y = .gone\/eD (c.m B) x y))
 (hH:Le c c'->∀B x,c'.H[B]? = some x->x = .gone\/(c.H[B]? = some x/\c'.m B=c.m B/\c'.f B=c.f B/\∀b,b∈c.ft B->¬W b)\/
   (x.wr=true/\BR c' x (c'.m B) (c'.f B)/\(c'.ft B).Nodup/\∀b,b∈c'.ft B->b<c'.h.length/\(W b\/c.h.length≤b)/\∀B' x',c'.H[B']? = some x'->x'.wr=true->b∈c'.ft B'->B'=B)):
 GH R c'/\Le c c':=
 g.gen' hp hZ (fun i b h=>by rw[hrt];exact h) (fun i b h=>by rw[hrt]at h;obtain⟨j,B,h⟩:=g.rtd i b h;exact⟨j,B,hrd j i B h⟩) hlen W hW hh hle (fun le B x hB=>by
  rcases hH le B x hB with h|h|⟨h1,h2⟩
  ·exact .inl h
  ·exact .inr (.inl h)
  ·exact .inr (.inr (.inl ⟨h1,h2⟩)))
def pA (m:Nat->Option Nat) (B:Nat) (v:Option Nat):Nat->Option Nat:=fun i=>if i=B then v else m i
theorem gN {α:Type} {l:List α} {a b:α} {i:Nat} (h:l[i]? = some a):(l++[b])[i]? = some a:=by
 obtain⟨h1,h2⟩:=aJ.1 h
 rw[bC h1];exact h
theorem nO {α:Type} {l:List α} {a b:α} {i:Nat} (h:(l++[b])[i]? = some a):l[i]? = some a\/(i=l.length/\a=b):=by
 rw[eR]at h
 split at h
 ·exact .inl h
 ·right
  have h1:i-l.length=0:=by
   by_cases hi:i-l.length=0
   ·exact hi
   ·obtain⟨n,hn⟩:=Nat.exists_eq_succ_of_ne_zero hi
    rw[hn]at h;simp at h
  rw[h1]at h;simp at h
  exact⟨by omega,h.symm⟩
theorem gA {α:Type} {l:List α} {a x:α} {i j:Nat} (h:(l.set i x)[j]? = some a):(j=i/\a=x)\/(j≠i/\l[j]? = some a):=by
 rw[eQ]at h
 split at h
 ·rename_i e;subst e
  split at h
  ·simp at h;exact .inl ⟨rfl,h.symm⟩
  ·cases h
 ·rename_i e;exact .inr ⟨fun e'=>e e'.symm,h⟩
theorem bX {α:Type} {l:List α} {x:α} {i j:Nat} (h:j≠i):(l.set i x)[j]? = l[j]?:=by
 rw[eQ,if_neg (fun e=>h e.symm)]
theorem eK {α:Type} {l:List α} {x a:α} {i:Nat} (h:l[i]? = some a):(l.set i x)[i]? = some x:=by
 rw[eQ,if_pos rfl,if_pos (aJ.1 h).1]
theorem cF {α:Type} {l:List α} {a:α} {i:Nat} (h:l[i]? = some a):i<l.length:=(aJ.1 h).1
def jH (m:Nat->List Nat) (B:Nat) (v:List Nat):Nat->List Nat:=fun i=>if i=B then v else m i
theorem pW {c c':Cf} {B:Nat} {x:jY} (h:c'.H[B]? = some x) (hm:c'.m B=c.m B):c'.m B=c.m B/\∃y,c'.H[B]? = some y/\(y = .gone\/eD (c.m B) x y):=
 ⟨hm,x,h,eD.rfl' _ x⟩
theorem GH.frz1 {R:lL} {c:Cf} (g:GH R c) {B:Nat} {x:jY} (hB:c.H[B]? = some x) (hx:x.wr=true):
 GH R { c with H:=c.H.set B .gone,Z:=fun b=>c.Z b\/b∈c.ft B }/\Le c { c with H:=c.H.set B .gone,Z:=fun b=>c.Z b\/b∈c.ft B }:=by
 have le:Le c { c with H:=c.H.set B .gone,Z:=fun b=>c.Z b\/b∈c.ft B }:=by
  refine⟨rfl,fun B' y hB'=>⟨rfl,?_⟩,⟨fun b h=>.inl h,fun b _=>rfl⟩,fun _ _ h=>h⟩
  by_cases e:B'=B
  ·subst e
   exact⟨.gone,eK hB,.inl rfl⟩
  ·exact⟨y,(bX e).trans hB',eD.rfl' _ y⟩
 refine⟨⟨g.p,?_,?_,?_,?_,?_,?_,g.base,?_,fun b h=>.inl (g.z0 b h),?_⟩,le⟩
 ·intro B' y hy
  rcases gA hy with ⟨_,rfl⟩|⟨_,h⟩
  ·trivial
  ·exact(g.blk B' y h).le le fun _ _=>rfl
 ·intro B1 B2 y y' b h1 h2 hw1 hw2 hb1 hb2
  rcases gA h1 with ⟨_,rfl⟩|⟨_,h1⟩
  ·cases hw1
  rcases gA h2 with ⟨_,rfl⟩|⟨_,h2⟩
  ·cases hw2
  exact g.inj B1 B2 y y' b h1 h2 hw1 hw2 hb1 hb2
 ·intro B1 y h1 hw
  rcases gA h1 with ⟨_,rfl⟩|⟨_,h1⟩
  ·cases hw
  exact g.nd B1 y h1 hw
 ·intro B1 y b h1 hw hb
  rcases gA h1 with ⟨_,rfl⟩|⟨hne,h1⟩
  ·cases hw
  refine⟨(g.wr B1 y b h1 hw hb).1,?_⟩
  rintro (h|h)
  ·exact(g.wr B1 y b h1 hw hb).2 h
  ·exact hne (g.inj B1 B y x b h1 hB hw hx hb h)
 ·intro B1 y b h1 hw hg hb
  rcases gA h1 with ⟨_,rfl⟩|⟨_,h1⟩
  ·exact(hg rfl).elim
  exact g.ro B1 y b h1 hw hg hb
 ·intro B1 y b h1 hg hb
  rcases gA h1 with ⟨_,rfl⟩|⟨_,h1⟩
  ·exact(hg rfl).elim
  exact g.lt B1 y b h1 hg hb
 ·rintro b (h|h)
  ·exact g.zb b h
  ·exact⟨g.lt B x b hB (by intro e;subst e;cases hx) h,.inr (g.wr B x b hB hx h).1⟩
 ·intro i b h
  obtain⟨j,B',hj⟩:=g.rtd i b h
  refine⟨j,B',?_⟩
  rw[bX (fun e=>by subst e;rw[hB]at hj;injection hj with hj;subst hj;cases hx)];exact hj
theorem GH.frzL {R:lL}:∀{bs:List Nat} {c:Cf} {H':eB},GH R c->Cs bs c.H=some H'->
 ∃Z',GH R { c with H:=H',Z:=Z' }/\Le c { c with H:=H',Z:=Z' }/\(∀b,c.Z b->Z' b)/\(∀B∈bs,∀b∈c.ft B,Z' b)/\(∀B,B∉bs->H'[B]? = c.H[B]?)/\H'.length=c.H.length
 |[],c,H',g,e=>by
  simp only[Cs,aD]at e;subst e
  exact⟨c.Z,g,Le.refl c,fun _ h=>h,by simp,fun _ _=>rfl,rfl⟩
 |B::bs,c,H',g,e=>by
  simp only[Cs]at e
  split at e
  ·rename_i hB
   obtain⟨g1,le1⟩:=g.frz1 hB rfl
   obtain⟨Z',g2,le2,h1,h2,h3,h4⟩:=GH.frzL (bs:=bs) (c:={ c with H:=c.H.set B .gone,Z:=fun b=>c.Z b\/b∈c.ft B }) g1 e
   refine⟨Z',g2,le1.trans le2,fun b h=>h1 b (.inl h),fun B' hB' b hb=>?_,fun B' hB'=>?_,by simpa using h4⟩
   ·rcases aQ.1 hB' with rfl|hB'
    ·exact h1 b (.inr hb)
    ·exact h2 B' hB' b hb
   ·simp only[aQ,not_or]at hB'
    rw[h3 B' hB'.2];exact bX hB'.1
  ·cases e
theorem Le.ofZ {c:Cf} {Z:Nat->Prop} (hZ:∀b,c.Z b->Z b) (hb:xB c):Le c { c with Z:=Z }/\xB { c with Z:=Z }:=by
 have le:Le c { c with Z:=Z }:=⟨rfl,fun B x h=>⟨rfl,x,h,eD.rfl' _ x⟩,⟨hZ,fun _ _=>rfl⟩,fun _ _ h=>h⟩
 exact⟨le,fun B x hx=>(hb B x hx).le le fun _ _=>rfl⟩
theorem GH.push {R:lL} {c:Cf} (g:GH R c) (x:jY) (k:mQ) (hx:x.wr=true)
 (hk:∀c':Cf,c' = { c with H:=c.H++[x],m:=pA c.m c.H.length (some c.h.length),h:=c.h++[some k],f:=jH c.f c.H.length [] }->Le c c'->BR c' x (some c.h.length) []):
 ∃c',c' = { c with H:=c.H++[x],m:=pA c.m c.H.length (some c.h.length),h:=c.h++[some k],f:=jH c.f c.H.length [] }/\GH R c'/\Le c c':=by
 refine⟨_,rfl,g.gen rfl rfl rfl (fun j i B h=>gN h) (by simp) (fun _=>False) (fun _ h=>h.elim) (fun b hb _=>bC hb) (fun B x hB=>?_) (fun le B y hB=>?_)⟩
 ·have:=cF hB
  exact pW (gN hB) (by simp[pA];omega)
 ·rcases nO hB with h|⟨rfl,rfl⟩
  ·have:=cF h
   exact .inr (.inl ⟨h,by simp[pA];omega,by simp[jH];omega,fun _ _ h=>h⟩)
  ·refine .inr (.inr ⟨hx,by simpa [pA,jH]using hk _ rfl le,by simp[Cf.ft,pA,jH],fun b hb=>?_⟩)
   simp only[Cf.ft,pA,jH,if_true,dX,bA,eI]at hb;subst hb
   refine⟨by simp,.inr (aK _),fun B' x' hB' hx' hm'=>?_⟩
   rcases nO hB' with h|⟨h,_⟩
   ·have hl:=cF h
    have:c.h.length∈c.ft B':=by
     simp only[Cf.ft,pA,jH]at hm' |-
     rw[if_neg (by omega),if_neg (by omega)]at hm';exact hm'
    have:=g.lt B' x' _ h (by intro e;subst e;cases hx') this
    omega
   ·exact h
theorem GH.pushNil {R:lL} {c:Cf} (g:GH R c) (hp ln:Bool) (t:Ty):
 ∃c',c' = { c with H:=c.H++[.arr true hp ln t []],m:=pA c.m c.H.length none,f:=jH c.f c.H.length [] }/\GH R c'/\Le c c':=by
 refine⟨_,rfl,g.gen rfl rfl rfl (fun j i B h=>gN h) (aK _) (fun _=>False) (fun _ h=>h.elim) (fun b hb _=>rfl) (fun B x hB=>?_) (fun le B y hB=>?_)⟩
 ·have:=cF hB
  exact pW (gN hB) (by simp[pA];omega)
 ·rcases nO hB with h|⟨rfl,rfl⟩
  ·have:=cF h
   exact .inr (.inl ⟨h,by simp[pA];omega,by simp[jH];omega,fun _ _ h=>h⟩)
  ·exact .inr (.inr ⟨rfl,by simp[pA,jH,BR],by simp[Cf.ft,pA,jH],fun b hb=>by simp[Cf.ft,pA,jH]at hb⟩)
theorem GH.set {R:lL} {c:Cf} (g:GH R c) {B b:Nat} {x x':jY} (hB:c.H[B]? = some x) (hx:x.wr=true) (hx':x'.wr=true) (hle:eD (c.m B) x x') (hm:c.m B=some b) (hf:c.f B=[]) (k:mQ)
 (hk:∀c':Cf,c' = { c with H:=c.H.set B x',h:=c.h.set b (some k) }->Le c c'->BR c' x' (some b) []):
 ∃c',c' = { c with H:=c.H.set B x',h:=c.h.set b (some k) }/\GH R c'/\Le c c':=by
 have hft:c.ft B=[b]:=by simp[Cf.ft,hm,hf]
 refine⟨_,rfl,g.gen rfl rfl rfl (fun j i B' h=>by simp only;rw[bX (fun e=>by rw[e,hB]at h;injection h with h;subst h;cases hx)];exact h) (by simp) (fun i=>i=b) (fun i hi=>⟨B,x,hB,hx,by rw[hi];exact Cf.ft_m hm⟩) (fun i hi hne=>bX hne) (fun B' y hB'=>?_) (fun le B' y hB'=>?_)⟩
 ·by_cases e:B'=B
  ·subst e
   rw[hB]at hB';injection hB' with hB';subst hB'
   exact⟨rfl,x',eK hB,.inr hle⟩
  ·exact pW (by simp only;rw[bX e];exact hB') rfl
 ·rcases gA hB' with ⟨rfl,rfl⟩|⟨e,h⟩
  ·refine .inr (.inr ⟨hx',by simp only[hm,hf];exact hk _ rfl le,by show (c.ft B').Nodup;simp[hft],fun b' hb'=>?_⟩)
   have hb':b'∈c.ft B':=hb'
   rw[hft]at hb'
   simp at hb';subst hb'
   refine⟨by simp only[eV];exact g.lt B' x _ hB (by intro e;subst e;cases hx) (Cf.ft_m hm),.inl rfl,fun B'' x'' hB'' hx'' hm''=>?_⟩
   rcases gA hB'' with ⟨e,_⟩|⟨e,h⟩
   ·exact e
   ·exact g.inj B'' B' x'' x _ h hB hx'' hx hm'' (Cf.ft_m hm)
  ·by_cases hg:y.wr=true
   ·refine .inr (.inl ⟨h,rfl,rfl,fun i hi hib=>?_⟩)
    subst hib
    exact e (g.inj B' B y x i h hB hg hx hi (Cf.ft_m hm))
   ·by_cases hgo:y = .gone
    ·exact .inl hgo
    ·refine .inr (.inl ⟨h,rfl,rfl,fun i hi hib=>?_⟩)
     subst hib
     have h1:=g.ro B' y i h (by simpa using hg) hgo hi
     have h2:=(g.wr B x i hB hx (Cf.ft_m hm)).1
     rcases h2 with h2|h2
     ·exact h1.2 h2
     ·omega
theorem nN {α:Type} {l:List α} {a:α}:(l++[a])[l.length]? = some a:=by simp
theorem GH.ren {R:lL} {c:Cf} (g:GH R c) {B:Nat} {x x':jY} (hB:c.H[B]? = some x) (hx:x.wr=true) (hx':x'.wr=true) (mb:Option Nat) (h':aN)
 (hlen:c.h.length≤h'.length) (hh:∀i,i<c.h.length->c.m B≠some i->h'[i]? = c.h[i]?) (hmb:∀b,mb=some b->c.m B=some b\/c.h.length≤b) (hml:∀b,mb=some b->b<h'.length)
 (hk:∀c':Cf,c' = { c with H:=c.H.set B .gone++[x'],m:=pA c.m c.H.length mb,h:=h',f:=jH c.f c.H.length [] }->Le c c'->BR c' x' mb []):
 ∃c',c' = { c with H:=c.H.set B .gone++[x'],m:=pA c.m c.H.length mb,h:=h',f:=jH c.f c.H.length [] }/\GH R c'/\Le c c':=by
 have hBl:=cF hB
 refine⟨_,rfl,g.gen rfl rfl rfl (fun j i B' h=>gN (by rw[bX (fun e=>by rw[e,hB]at h;injection h with h;subst h;cases hx)];exact h)) hlen (fun i=>c.m B=some i) (fun i hi=>⟨B,x,hB,hx,Cf.ft_m hi⟩) hh (fun B' y hB'=>?_) (fun le B' y hB'=>?_)⟩
 ·have hl:=cF hB'
  by_cases e:B'=B
  ·subst e
   exact⟨by simp[pA];omega,.gone,gN (eK hB),.inl rfl⟩
  ·exact pW (gN (by rw[bX e];exact hB')) (by simp[pA];omega)
 ·rcases nO hB' with h|⟨h,rfl⟩
  ·rcases gA h with ⟨rfl,rfl⟩|⟨e,h⟩
   ·exact .inl rfl
   ·have hl:=cF h
    by_cases hgo:y = .gone
    ·exact .inl hgo
    ·refine .inr (.inl ⟨h,by simp[pA];omega,by simp[jH];omega,fun i hi hib=>?_⟩)
     by_cases hg:y.wr=true
     ·exact e (g.inj B' B y x i h hB hg hx hi (Cf.ft_m hib))
     ·have h1:=g.ro B' y i h (by simpa using hg) hgo hi
      rcases (g.wr B x i hB hx (Cf.ft_m hib)).1 with h2|h2
      ·exact h1.2 h2
      ·omega
  ·rw[eV]at h
   subst h
   refine .inr (.inr ⟨hx',by simpa [pA,jH]using hk _ rfl le,by simp only[Cf.ft,pA,jH,if_true,bA];cases mb<;>simp,fun b hb=>?_⟩)
   have hb:mb=some b:=by
    simp only[Cf.ft,pA,jH,if_true,bA]at hb
    simpa [Option.mem_toList,Option.mem_def]using hb
   refine⟨hml b hb,hmb b hb,fun B'' x'' hB'' hx'' hm''=>?_⟩
   rcases nO hB'' with h|⟨h,_⟩
   ·rcases gA h with ⟨rfl,rfl⟩|⟨e,h⟩
    ·cases hx''
    ·have hl:=cF h
     have hm'':b∈c.ft B'':=by
      simp only[Cf.ft,pA,jH]at hm'' |-
      rw[if_neg (by omega),if_neg (by omega)]at hm'';exact hm''
     rcases hmb b hb with h1|h1
     ·exact(e (g.inj B'' B x'' x b h hB hx'' hx hm'' (Cf.ft_m h1))).elim
     ·have:=g.lt B'' x'' b h (by intro e;subst e;cases hx'') hm''
      omega
   ·rw[eV]at h;exact h
end Go.Ideal
namespace Go.Ideal
def cY (c:Cf):dP->SV->Prop
 |.val a,.val iv=>Va c a iv
 |.box cs,.box ivs=>dB c cs ivs
 |.lptr n o,.lptr n' o'=>n'=n/\o'=o.val
 |_,_=>False
def FR (TI:List SV) (c:Cf):Option dP->Option SV->Prop
 |none,v=>∀cs,v≠some (.box cs)
 |some (.cst i),v=>∃s,v=some s/\TI[i]? = some s
 |some a,v=>∃s,v=some s/\cY c a s
structure GF (T:List dP) (TI:List SV) (c:Cf) (fr:gZ) (σ:Fr):Prop where
 fr:∀t,FR TI c (fr.get t) (σ.get t)
 len:TI.length=T.length
 T:∀(i:Nat) (a:dP),T[i]? = some a->∃s,TI[i]? = some s/\cY c a s
 tl:∀s∈TI,∀n o,s≠SV.lptr n o
structure G (R:lL) (T:List dP) (TI:List SV) (c:Cf) (st:gJ) (s:St):Prop where
 gh:GH R c
 H:c.H=st.H
 h:c.h=s.2
 gf:GF T TI c st.fr s.1
theorem cY.le {c c':Cf} (hle:Le c c') {a:dP} {s:SV} (h:cY c a s):cY c' a s:=by
 cases a<;>cases s<;>simp only[cY]at h |-<;>try exact h
 ·exact Va.le hle h
 ·exact dB.le hle h
theorem GF.le {T TI} {c c':Cf} (hle:Le c c') {fr:gZ} {σ:Fr} (g:GF T TI c fr σ):GF T TI c' fr σ:=by
 refine⟨fun t=>?_,g.len,fun i a h=>?_,g.tl⟩
 ·have:=g.fr t
  cases h:fr.get t with
  |none=>rw[h]at this;exact this
  |some a=>
   rw[h]at this
   cases a<;>simp only[FR]at this |-<;>first|exact this|(obtain⟨s,h1,h2⟩:=this;exact⟨s,h1,h2.le hle⟩)
 ·obtain⟨s,h1,h2⟩:=g.T i a h
  exact⟨s,h1,h2.le hle⟩
theorem fS {T TI} {c:Cf} {fr:gZ} {σ:Fr} (g:GF T TI c fr σ) {n:Nat} {a:dP} (h:mF T fr n=some a):∃s,σ.get n=some s/\cY c a s:=by
 unfold mF at h
 have:=g.fr n
 split at h
 ·rename_i i hi
  rw[hi]at this
  obtain⟨s,h1,h2⟩:=this
  obtain⟨s',h3,h4⟩:=g.T i a h
  rw[h2]at h3;injection h3 with h3;subst h3
  exact⟨s,h1,h4⟩
 ·rename_i hno
  rw[h]at this
  cases a with
  |cst i=>exact(hno i h).elim
  |val _=>exact this
  |box _=>exact this
  |lptr _ _=>exact this
mutual
theorem Kc {c:Cf}:∀{v:IV} {a:AV},pU v=some a->Va c a v
 |.bool b,a,e=>by simp[pU]at e;subst e;simp[Va]
 |.int k n,a,e=>by simp[pU]at e;subst e;simp[Va]
 |.str s,a,e=>by simp[pU]at e;subst e;simp[Va]
 |.nils,a,e=>by simp[pU]at e;subst e;simp[Va]
 |.nilp,a,e=>by simp[pU]at e;subst e;simp[Va]
 |.nilf,a,e=>by simp[pU]at e;subst e;simp[Va]
 |.agg cs,a,e=>by
  simp only[pU]at e
  obtain⟨l,e1,e⟩:=aA.1 e
  split at e
  ·rename_i h1
   simp at e;subst e
   simp only[Va]
   exact⟨cs,rfl,(jS e1).1 h1⟩
  ·cases e
 |.tup cs,a,e=>by
  simp only[pU]at e
  obtain⟨l,e1,e⟩:=aA.1 e
  simp at e;subst e
  simp only[Va]
  exact⟨cs,rfl,(jS e1).2⟩
 |.ptr ..,a,e=>by simp[pU]at e
 |.rptr ..,a,e=>by simp[pU]at e
 |.sl ..,a,e=>by simp[pU]at e
 |.ro ..,a,e=>by simp[pU]at e
 |.lit ..,a,e=>by simp[pU]at e
 |.esl,a,e=>by simp[pU]at e
 |.iface ..,a,e=>by simp[pU]at e
 |.nili,a,e=>by simp[pU]at e;subst e;simp[Va,IV.onc,IV.one]
 |.fn ..,a,e=>by simp[pU]at e
theorem jS {c:Cf}:∀{v:List IV} {a:List AV},mN v=some a->(a.all AV.one=true->dB c a v)/\jP c a v
 |[],a,e=>by simp[mN]at e;subst e;simp[dB,jP]
 |x::xs,a,e=>by
  simp only[mN]at e
  obtain⟨y,e1,e⟩:=aA.1 e
  obtain⟨ys,e2,e⟩:=aA.1 e
  simp at e;subst e
  have h1:=Kc (c:=c) e1
  have h2:=jS (c:=c) e2
  refine⟨fun h=>?_,⟨x,xs,rfl,h1,h2.2⟩⟩
  simp only[gD,aF]at h
  exact⟨[x],xs,rfl,(eT h.1).2 ⟨x,rfl,yN h.1 h1,h1⟩,h2.1 h.2⟩
end
section
variable {T:List dP} {TI:List SV} {c:Cf} {fr:gZ} {σ:Fr} (g:GF T TI c fr σ)
include g
theorem kA {x:SX} {a:dP} (h:ax T fr x=some a):∃s,SX.ev σ x=some s/\cY c a s:=by
 cases x with
 |t n=>
  simp only[ax]at h
  split at h
  ·rename_i cs hc
   simp at h;subst h
   obtain⟨s,h1,h2⟩:=fS g hc
   cases s<;>simp only[cY]at h2
   exact⟨.lptr n 0,by simp only[SX.ev,h1],by simp[cY,kT.val]⟩
  ·rename_i hno
   obtain⟨s,h1,h2⟩:=fS g h
   refine⟨s,?_,h2⟩
   simp only[SX.ev,h1]
   cases s with
   |box ivs=>
    cases a<;>simp only[cY]at h2
    exact(hno _ h).elim
   |val _=>rfl
   |lptr _ _=>rfl
 |c v=>
  simp only[ax]at h
  obtain⟨a',e,h⟩:=aA.1 h
  simp at h;subst h
  exact⟨.val v,rfl,Kc e⟩
 |f id=>
  simp only[ax,aD]at h;subst h
  exact⟨_,rfl,by simp[cY,Va,jP]⟩
theorem dV {x:SX} {a:AV} (h:av T fr x=some a):∃iv,SX.val σ x=some iv/\Va c a iv:=by
 unfold av at h
 split at h
 ·rename_i v hv
  simp at h;subst h
  obtain⟨s,h1,h2⟩:=kA g hv
  cases s<;>simp only[cY]at h2
  exact⟨_,by simp only[SX.val,h1],h2⟩
 ·cases h
theorem vZ:∀{xs:List SX} {as:List AV},Vp T fr xs=some as->∃ivs,jK σ xs=some ivs/\jP c as ivs
 |[],as,h=>by simp[Vp,dM]at h;subst h;exact⟨[],rfl,rfl⟩
 |x::xs,as,h=>by
  simp only[Vp,dM]at h
  obtain⟨y,e1,h⟩:=aA.1 h
  obtain⟨ys,e2,h⟩:=aA.1 h
  simp at h;subst h
  obtain⟨iv,h1,h2⟩:=dV g e1
  obtain⟨ivs,h3,h4⟩:=vZ (xs:=xs) (as:=ys) e2
  refine⟨iv::ivs,?_,⟨iv,ivs,rfl,h2,h4⟩⟩
  simp only[jK]at h3 |-
  simp[dM,h1,h3]
theorem pL {t:Nat} (h:wV T fr t=true):bF σ t=true:=by
 unfold wV at h
 unfold bF
 have:=g.fr t
 cases hg:fr.get t with
 |none=>
  rw[hg]at this
  split
  ·rename_i ivs e;exact(this ivs e).elim
  ·rfl
 |some a=>
  rw[hg]at this
  split
  ·rename_i ivs e
   rw[e]at this
   cases a with
   |val a=>obtain⟨s,h1,h2⟩:=this;simp at h1;subst h1;simp[cY]at h2
   |box cs=>simp[hg]at h
   |lptr _ _=>obtain⟨s,h1,h2⟩:=this;simp at h1;subst h1;simp[cY]at h2
   |cst i=>
    obtain⟨s,h1,h2⟩:=this
    simp at h1;subst h1
    simp only[hg]at h
    split at h
    ·rename_i a hT
     obtain⟨s',h3,h4⟩:=g.T i _ hT
     rw[h2]at h3;injection h3 with h3;subst h3
     simp[cY]at h4
    ·cases h
  ·rfl
theorem Du {t:Nat} {a:dP} {s:SV} (h:cY c a s):GF T TI c (fr.put t a) (σ.put t s):=by
 refine⟨fun t'=>?_,g.len,g.T,g.tl⟩
 simp only[gZ.put,Fr.put,gZ.get,Fr.get]
 split
 ·cases a<;>cases s<;>simp only[cY]at h<;>exact⟨_,rfl,h⟩
 ·exact g.fr t'
end
end Go.Ideal
namespace Go.Ideal
theorem qA {α:Type} (l:List α) {M a n:Nat} (h:a+n≤M):((l.take M).drop a).take n=(l.drop a).take n:=by
 rw[List.drop_take,oX,iK (by omega)]
theorem Gi {α:Type} {sz:Nat}:∀{es:List (List α)},(∀e∈es,e.length=sz)->∀{i:Nat} {u:List α},es[i]? = some u->(es.flatten.drop (i*sz)).take sz=u
 |[],_,i,u,h=>by simp at h
 |e::es,hs,0,u,h=>by
  simp at h;subst h
  have:=hs e (by simp)
  subst this
  simp
 |e::es,hs,i+1,u,h=>by
  have h1:=hs e (by simp)
  have h2:=Gi (es:=es) (fun e he=>hs e (by simp[he])) (i:=i) (u:=u) (by simpa using h)
  simp only[cB]
  rw[show (i+1)*sz=e.length+i*sz by rw[h1,cJ,kM,Nat.add_comm],<-cM,List.drop_left]
  exact h2
theorem Gh {α:Type} {sz:Nat}:∀{es:List (List α)},(∀e∈es,e.length=sz)->es.flatten.length=es.length*sz
 |[],_=>by simp
 |e::es,hs=>by
  have h1:=hs e (by simp)
  have h2:=Gh (fun e he=>hs e (by simp[he])) (es:=es)
  simp only[cB,aV,eE,h1,h2,cJ,kM,Nat.add_comm]
theorem pO {α:Type} (a mid b vs:List α) (k:Nat) (h:k+vs.length≤mid.length):
 (a++mid++b).take (a.length+k)++vs++(a++mid++b).drop (a.length+k+vs.length)=a++(mid.take k++vs++mid.drop (k+vs.length))++b:=by
 have e1:(a++mid++b).take (a.length+k)=a++mid.take k:=by
  rw[bQ,List.take_append,bU (by omega),show a.length+k-a.length=k by omega,dG (by omega)]
 have e2:(a++mid++b).drop (a.length+k+vs.length)=mid.drop (k+vs.length)++b:=by
  rw[bQ,eW,<-cM,List.drop_left,hU (by omega)]
 rw[e1,e2];simp
theorem Gg {α:Type} {sz:Nat} {vs:List α} {o2:Nat}:∀{es:List (List α)},(∀e∈es,e.length=sz)->∀{i:Nat} {u:List α},es[i]? = some u->o2+vs.length≤sz->
 (es.set i (u.take o2++vs++u.drop (o2+vs.length))).flatten=es.flatten.take (i*sz+o2)++vs++es.flatten.drop (i*sz+o2+vs.length)
 |[],_,i,u,h,_=>by simp at h
 |e::es,hs,0,u,h,ho=>by
  simp at h;subst h
  have:=hs e (by simp)
  subst this
  have:=pO [] e es.flatten vs o2 ho
  simpa using this.symm
 |e::es,hs,i+1,u,h,ho=>by
  have h1:=hs e (by simp)
  have h2:=Gg (es:=es) (vs:=vs) (o2:=o2) (fun e he=>hs e (by simp[he])) (i:=i) (u:=u) (by simpa using h) ho
  have hb:i*sz+o2+vs.length≤es.flatten.length:=by
   have:=cF (show es[i]? = some u by simpa using h)
   rw[Gh (fun e he=>hs e (by simp[he])) (es:=es)]
   calc i*sz+o2+vs.length≤i*sz+sz:=by omega
    _=(i+1)*sz:=by rw[cJ,kM]
    _≤es.length*sz:=bB _ (by omega)
  have:=pO e es.flatten [] vs (i*sz+o2) hb
  simp only[bA]at this
  simp only[List.set_cons_succ,cB,h2]
  rw[show (i+1)*sz+o2=e.length+(i*sz+o2) by rw[h1,cJ,kM];omega,this]
theorem mT {hp ln:Bool}:∀{t:Ty} {x:t.den},AV.refsL (dF hp ln t x)=[]
 |.int k,x=>by simp[dF,AV.refsL,AV.refs]
 |.bool,x=>by simp[dF,AV.refsL,AV.refs]
 |.str,x=>by simp[dF,AV.refsL,AV.refs]
 |.unit,x=>by simp[dF,AV.refsL]
 |.lst t,x=>by simp[dF,AV.refsL,AV.refs]
 |.pair a b,x=>by simp only[dF,jG];rw[mT,mT];rfl
 |.arr n t,x=>by simp[dF,AV.refsL,AV.refs]
 |.ow _ t,x=>by simp[dF,AV.refsL,AV.refs]
theorem uF {H:eB} (a b:List AV):oG H (a++b)=(oG H a||oG H b):=by simp[oG]
theorem tY {H:eB} (a b:List AV):nB H (a++b)=(nB H a||nB H b):=by simp[nB]
theorem sZ {H:eB} {hp ln:Bool}:∀{t:Ty} {x:t.den},oG H (dF hp ln t x)=true->hp=true
 |.int k,x,h=>by simp[dF,oG,AV.hpF]at h
 |.bool,x,h=>by simp[dF,oG,AV.hpF]at h
 |.str,x,h=>by simp[dF,oG,AV.hpF]at h
 |.unit,x,h=>by simp[dF,oG]at h
 |.lst t,x,h=>by simpa [dF,oG,AV.hpF]using h
 |.pair a b,x,h=>by
  simp only[dF,uF,cV]at h
  rcases h with h|h<;>exact sZ h
 |.arr n t,x,h=>by simpa [dF,oG,AV.hpF]using h
 |.ow _ t,x,h=>by simp[dF,oG]at h
theorem sX {H:eB} {hp ln:Bool}:∀{t:Ty} {x:t.den},nB H (dF hp ln t x)=true->ln=true
 |.int k,x,h=>by simp[dF,nB,AV.lnF]at h
 |.bool,x,h=>by simp[dF,nB,AV.lnF]at h
 |.str,x,h=>by simp[dF,nB,AV.lnF]at h
 |.unit,x,h=>by simp[dF,nB]at h
 |.lst t,x,h=>by simpa [dF,nB,AV.lnF]using h
 |.pair a b,x,h=>by
  simp only[dF,tY,cV]at h
  rcases h with h|h<;>exact sX h
 |.arr n t,x,h=>by simpa [dF,nB,AV.lnF]using h
 |.ow _ t,x,h=>by simp[dF,nB]at h
section
variable {R:Type}
theorem dZ {b:Bool} {k:Option R} {r:R}:cut b k=some r↔b=true/\k=some r:=by
 unfold cut;cases b<;>simp
theorem Dv {c:Cf} {cs:List AV} {ivs:List IV} (h:dB c cs ivs) {o n:Nat} {k:List AV->Option R} {r:R} (e:Qi cs o n k=some r):
 ∃out,k out=some r/\dB c out ((ivs.drop o).take n)/\o+n≤ivs.length:=by
 unfold Qi at e
 obtain⟨x,e1,e⟩:=aA.1 e
 obtain⟨y,e2,e⟩:=aA.1 e
 obtain⟨h1,h2,h3⟩:=h.split e1
 obtain⟨h4,h5,h6⟩:=h2.split e2
 refine⟨y.1,e,h4,?_⟩
 simp only[bW]at h6
 omega
theorem Fm {new:List AV} (f:List AV->Bool) (hf:∀a b,f (a++b)=(f a||f b)) (a b c d:List AV) (hc:f c=true->f b=true\/f new=true) (h:f (a++c++d)=true):f (a++b++d)=true\/f new=true:=by
 simp only[hf,cV]at h |-
 rcases h with (h|h)|h
 ·exact .inl (.inl (.inl h))
 ·rcases hc h with h|h
  ·exact .inl (.inl (.inr h))
  ·exact .inr h
 ·exact .inl (.inr h)
theorem xE {c:Cf} {cs:List AV} {ivs:List IV} (h:dB c cs ivs) {new:List AV} {vs:List IV} (hv:dB c new vs) {o:Nat} {k:List AV->Option R} {r:R} (e:Li cs o new k=some r):
 ∃out,k out=some r/\dB c out (eH ivs o vs)/\o+vs.length≤ivs.length/\(oG c.H out=true->oG c.H cs=true\/oG c.H new=true)/\(nB c.H out=true->nB c.H cs=true\/nB c.H new=true)/\
  (AV.refsL cs=[]->AV.refsL new=[]->AV.refsL out=[]):=by
 have hw:=(dB.len hv).1
 unfold Li at e
 obtain⟨x,e1,e⟩:=aA.1 e
 obtain⟨y,e2,e⟩:=aA.1 e
 obtain⟨h1,h2,h3⟩:=h.split e1
 obtain⟨h4,h5,h6⟩:=h2.split e2
 simp only[bW]at h6
 have hcs:cs=x.1++y.1++y.2:=by rw[(jE e1).1,(jE e2).1,bQ]
 refine⟨_,e,?_,by omega,?_,?_,?_⟩
 ·simp only[eH]
  rw[cM]at h5
  rw[hw]
  exact(h1.app hv).app h5
 ·rw[hcs];exact Fm _ uF _ _ _ _ .inr
 ·rw[hcs];exact Fm _ tY _ _ _ _ .inr
 ·rw[hcs]
  simp only[jG,oZ]
  exact fun h h'=>⟨⟨h.1.1,h'⟩,h.2⟩
theorem mV {c:Cf} {cs:List AV} {ivs:List IV} (h:dB c cs ivs) {o:kT} {n:Nat} {k:List AV->Option R} {r:R} (e:Dw cs o n k=some r):
 ∃out,k out=some r/\dB c out ((ivs.drop o.val).take n)/\o.val+n≤ivs.length:=by
 cases o with
 |st o=>exact Dv h e
 |dyn o m sz i o2=>
  simp only[Dw]at e
  obtain⟨x,e1,e'⟩:=aA.1 e
  clear e;have e:=e';clear e'
  obtain⟨y,e2,e'⟩:=aA.1 e
  clear e;have e:=e';clear e'
  obtain⟨h1,h2,h3⟩:=h.split e1
  obtain⟨h4,h5,h6⟩:=h2.split e2
  simp only[bW]at h6
  split at e
  ·rename_i hp ln m' t l hy
   split at e
   ·rename_i hc
    obtain⟨rfl,rfl⟩:=hc
    obtain⟨el,e3,e'⟩:=aA.1 e
    clear e;have e:=e';clear e'
    obtain⟨u,e4,e'⟩:=aA.1 e
    clear e;have e:=e';clear e'
    obtain⟨v,e5,e'⟩:=aA.1 e
    clear e;have e:=e';clear e'
    rw[hy,dB.single]at h4
    simp only[Ca,TR]at h4
    obtain⟨es,g1,g2,g3⟩:=h4
    obtain⟨w,g4,g5⟩:=g3.get e3
    have hsz:∀e∈es,e.length=t.n:=fun e he=>by obtain⟨x,_,hx⟩:=g3.mem_r e he;exact(TR.one hx).1
    obtain⟨q1,q2,q3⟩:=(iD g5).split e4
    obtain⟨q4,q5,q6⟩:=q2.split e5
    have hw:=(TR.one g5).1
    simp only[bW,hw]at q6 q3
    have hi:=cF g4
    rw[g2]at hi
    have hmul:i*t.n+t.n≤m'*t.n:=by
     calc i*t.n+t.n=(i+1)*t.n:=by rw[cJ,kM]
      _≤m'*t.n:=bB _ hi
    have key:((ivs.drop (o+i*t.n+o2)).take n)=((w.drop o2).take n):=by
     rw[<-Gi hsz g4,<-g1,qA _ (by omega),cM,qA _ (by omega),cM]
     rw[eW]
    refine⟨v.1,e,by simp only[kT.val];rw[key];exact q4,by simp only[kT.val];omega⟩
   ·cases e
  ·rename_i kd a rr hy
   split at e
   ·rename_i hc
    obtain⟨rfl,rfl,rfl⟩:=hc
    obtain⟨l,e3,e'⟩:=aA.1 e
    clear e;have e:=e';clear e'
    split at e
    ·rename_i hl
     obtain⟨el,e4,e'⟩:=aA.1 e
     clear e;have e:=e';clear e'
     rw[hy]at h4
     obtain⟨g1,g2,g3⟩:=rQ e3 h4
     have hi:=cF e4
     refine⟨_,e,?_,by simp only[kT.val];omega⟩
     simp only[kT.val,iR,Nat.mul_one]at *
     have key:(ivs.drop (o+i)).take 1=[.int kd el]:=by
      have:(((ivs.drop o).take m).drop i).take 1=[.int kd el]:=by
       rw[g1,<-List.map_drop,<-List.map_take]
       obtain⟨q1,q2⟩:=aJ.1 e4
       rw[gO q1,q2];rfl
      rw[qA _ (by omega),cM]at this
      exact this
     rw[key,dB.single];simp[Ca]
    ·cases e
   ·exact Dv h e
  ·exact Dv h e
theorem xF {c:Cf} (hb:xB c) {cs:List AV} {ivs:List IV} (h:dB c cs ivs) {new:List AV} {vs:List IV} (hv:dB c new vs) {o:kT} {k:List AV->Option R} {r:R} (e:Lj c.H cs o new k=some r):
 ∃out,k out=some r/\dB c out (eH ivs o.val vs)/\o.val+vs.length≤ivs.length/\(oG c.H out=true->oG c.H cs=true\/oG c.H new=true)/\(nB c.H out=true->nB c.H cs=true\/nB c.H new=true)/\
  (AV.refsL cs=[]->AV.refsL new=[]->AV.refsL out=[]):=by
 have hw:=(dB.len hv).1
 have parts:∀(f:List AV->Bool),(∀a b,f (a++b)=(f a||f b))->∀a b c d:List AV,(f c=true->f b=true\/f new=true)->f (a++c++d)=true->f (a++b++d)=true\/f new=true:=by
  intro f hf a b c d hc h
  simp only[hf,cV]at h |-
  rcases h with (h|h)|h
  ·exact .inl (.inl (.inl h))
  ·rcases hc h with h|h
   ·exact .inl (.inl (.inr h))
   ·exact .inr h
  ·exact .inl (.inr h)
 cases o with
 |st o=>exact xE h hv e
 |dyn o m sz i o2=>
  simp only[Lj]at e
  obtain⟨x,e1,e'⟩:=aA.1 e
  clear e;have e:=e';clear e'
  obtain⟨y,e2,e'⟩:=aA.1 e
  clear e;have e:=e';clear e'
  obtain⟨h1,h2,h3⟩:=h.split e1
  obtain⟨h4,h5,h6⟩:=h2.split e2
  simp only[bW]at h6
  have hiv:ivs=ivs.take o++(ivs.drop o).take (m*sz)++ivs.drop (o+m*sz):=by
   rw[bQ,<-cM,gR,gR]
  have lenA:(ivs.take o).length=o:=by simp;omega
  have lenM:((ivs.drop o).take (m*sz)).length=m*sz:=by simp;omega
  rw[cM]at h5
  have hcs:cs=x.1++y.1++y.2:=by rw[(jE e1).1,(jE e2).1,bQ]
  split at e
  ·rename_i hp ln m' t l hy
   split at e
   ·rename_i hc
    obtain⟨rfl,rfl,hr⟩:=hc
    obtain⟨el,e3,e'⟩:=aA.1 e
    clear e;have e:=e';clear e'
    obtain⟨u,e4,e'⟩:=aA.1 e
    clear e;have e:=e';clear e'
    obtain⟨v,e5,e'⟩:=aA.1 e
    clear e;have e:=e';clear e'
    obtain⟨z,e6,e'⟩:=aA.1 e
    clear e;have e:=e';clear e'
    split at e
    ·rename_i hz
     rw[hy,dB.single]at h4
     simp only[Ca,TR]at h4
     obtain⟨es,g1,g2,g3⟩:=h4
     obtain⟨w,g4,g5⟩:=g3.get e3
     have hsz:∀e∈es,e.length=t.n:=fun e he=>by obtain⟨x,_,hx⟩:=g3.mem_r e he;exact(TR.one hx).1
     obtain⟨q1,q2,q3⟩:=(iD g5).split e4
     obtain⟨q4,q5,q6⟩:=q2.split e5
     have hwl:=(TR.one g5).1
     simp only[bW,hwl]at q6 q3
     have hi:=cF g4
     rw[g2]at hi
     have hmul:i*t.n+t.n≤m'*t.n:=by
      calc i*t.n+t.n=(i+1)*t.n:=by rw[cJ,kM]
       _≤m'*t.n:=bB _ hi
     rw[cM]at q5
     have hnew:dB c (u.1++new++v.2) (w.take o2++vs++w.drop (o2+vs.length)):=by
      rw[hw];exact(q1.app hv).app q5
     obtain⟨pre,p1,p2⟩:=jM hb e6 hnew
     rw[hz,bA]at p1;subst p1
     have sp:=jE e4
     have sp2:=jE e5
     have fl:∀f:List AV->Bool,(∀a b,f (a++b)=(f a||f b))->(f (u.1++new++v.2)=true->f (dF hp ln t el)=true\/f new=true):=by
      intro f hf hh
      rw[hf,hf]at hh
      rw[sp.1,hf,sp2.1,hf]
      simp only[cV]at hh |-
      rcases hh with (h|h)|h
      ·exact .inl (.inl h)
      ·exact .inr h
      ·exact .inl (.inr (.inr h))
     obtain⟨u1,u2,p3,p4,p5⟩:=p2 (hp||oG c.H new) (ln||nB c.H new)
      (fun hh=>by
        rcases fl (oG c.H) uF hh with h|h
        ·rw[sZ h];rfl
        ·rw[h,Np])
      (fun hh=>by
        rcases fl (nB c.H) tY hh with h|h
        ·rw[sX h];rfl
        ·rw[h,Np])
      (fun B hB=>by
        have:AV.refsL (u.1++new++v.2)=[]:=by
         have h0:=mT (hp:=hp) (ln:=ln) (t:=t) (x:=el)
         rw[sp.1,jG,sp2.1,jG]at h0
         simp only[jG,hr]
         simp only[oZ]at h0 |-
         exact⟨⟨h0.1,by trivial⟩,h0.2.2⟩
        rw[this]at hB;cases hB)
     rw[hz]at p5;simp only[dB]at p5;subst p5
     simp only[bA]at p3;subst p3
     refine⟨_,e,?_,by simp only[kT.val];omega,?_,?_,?_⟩
     rotate_left
     ·rw[hcs];exact parts _ uF _ _ _ _ (by rw[hy];simp[oG,AV.hpF])
     ·rw[hcs];exact parts _ tY _ _ _ _ (by rw[hy];simp[nB,AV.lnF])
     ·rw[hcs]
      simp only[jG,oZ]
      exact fun h h'=>⟨⟨h.1.1,by simp[AV.refsL,AV.refs]⟩,h.2⟩
     have mid:TR c.p c.Z c.h (ln||nB c.H new) (.arr m' t) (hp||oG c.H new) (l.set i z.1) (es.set i (w.take o2++vs++w.drop (o2+vs.length))).flatten:=by
      simp only[TR]
      refine⟨_,rfl,by simp[g2],dI.set p4 i (g3.imp fun a b h=>TR.flags (by simp;exact fun h=>.inl h) (by simp;exact fun h=>.inl h) h)⟩
     rw[Gg hsz g4 (by omega),<-g1]at mid
     have sm:=pO (ivs.take o) ((ivs.drop o).take (m'*t.n)) (ivs.drop (o+m'*t.n)) vs (i*t.n+o2) (by rw[lenM];omega)
     rw[<-hiv,lenA]at sm
     simp only[eH,kT.val]
     rw[show o+i*t.n+o2=o+(i*t.n+o2) by omega,sm]
     exact(h1.app (dB.single.2 (by simp only[Ca];exact mid))).app h5
    ·cases e
   ·cases e
  ·rename_i kd a rr hy
   split at e
   ·rename_i kd' v
    split at e
    ·rename_i hc
     obtain⟨rfl,rfl,rfl⟩:=hc
     obtain⟨l,e3,e'⟩:=aA.1 e
     clear e;have e:=e';clear e'
     split at e
     ·rename_i hl
      obtain⟨hi,e'⟩:=dZ.1 e
      clear e;have e:=e';clear e'
      rw[decide_eq_true_eq]at hi
      rw[hy]at h4
      obtain⟨g1,g2,g3⟩:=rQ e3 h4
      simp only[dB.single,Ca]at hv
      subst hv
      refine⟨_,e,?_,by simp only[kT.val,gS];omega,?_,?_,?_⟩
      rotate_left
      ·rw[hcs];exact parts _ uF _ _ _ _ (by simp[oG,AV.hpF])
      ·rw[hcs];exact parts _ tY _ _ _ _ (by simp[nB,AV.lnF])
      ·rw[hcs]
       simp only[jG,oZ]
       exact fun h h'=>⟨⟨h.1.1,by simp[AV.refsL,AV.refs]⟩,h.2⟩
      have mid:TR c.p c.Z c.h false (.arr m (.int kd')) false (l.set i v) ((l.set i v).map fun x=>IV.int kd' x):=by
       simp only[TR]
       exact⟨(l.set i v).map fun x=>[IV.int kd' x],vU _ _,by simp[hl],by simpa only[TR]using wB (p:=c.p) (Z:=c.Z) (h:=c.h) (ln:=false) (hp:=false) (k:=kd') (l.set i v)⟩
      have mm:(l.set i v).map (fun x=>IV.int kd' x)=(l.map fun x=>IV.int kd' x).take i++[IV.int kd' v]++(l.map fun x=>IV.int kd' x).drop (i+1):=by
       rw[List.map_set,oH,if_pos (by simp;omega)];simp
      rw[mm,<-g1]at mid
      have sm:=pO (ivs.take o) ((ivs.drop o).take (m*1)) (ivs.drop (o+m*1)) [IV.int kd' v] i (by rw[lenM];simp;omega)
      rw[<-hiv,lenA]at sm
      simp only[eH,kT.val,Nat.mul_one,iR]at *
      rw[sm]
      exact(h1.app (dB.single.2 (by simp only[Ca];exact mid))).app h5
     ·cases e
    ·exact xE h hv e
   ·exact xE h hv e
  ·exact xE h hv e
end
end Go.Ideal
namespace Go.Ideal
def mY (prog:Nat->Option mO) (opn:Nat->Bool) {Rr:Type} (icall:Nat->List AV->eB->(AV->eB->Option Rr)->Option Rr):Prop:=
 ∀f args H k r,icall f args H k=some r->∀R c ivs,GH R c->c.H=H->jP c args ivs->
  ∃iv h',eC prog opn f ivs c.h=some (iv,h')/\∃v c',GH R c'/\c'.h=h'/\Le c c'/\Va c' v iv/\k v c'.H=some r
section
variable {Rr:Type} {prog:Nat->Option mO} {opn:Nat->Bool} {cs:Nat->Option Ct} {ety:Nat->Option Ty} {icall:Nat->List AV->eB->(AV->eB->Option Rr)->Option Rr}
 {R:lL} {T:List dP} {TI:List SV} {c:Cf} {st:gJ} {s:St} {k:dP->gJ->Option Rr} {r:Rr} {dst:Option Nat}
def fG (prog:Nat->Option mO) (opn:Nat->Bool) (R:lL) (T:List dP) (TI:List SV) (c:Cf) (s:St) (k:dP->gJ->Option Rr) (r:Rr) (dst:Option Nat) (op:gQ):Prop:=
 ∃sv s',aT (eC prog opn) opn dst op s=some (sv,s')/\∃a st' c',G R T TI c' st' s'/\Le c c'/\cY c' a sv/\k a st'=some r
theorem fG.same {op:gQ} (g:G R T TI c st s) {sv:SV} {a:dP} (h:aT (eC prog opn) opn dst op s=some (sv,s)) (v:cY c a sv) (e:k a st=some r):fG prog opn R T TI c s k r dst op:=
 ⟨sv,s,h,a,st,c,g,Le.refl c,v,e⟩
variable (g:G R T TI c st s)
include g
theorem Xb {x:SX} (e:iI cs opn ety icall T st dst (.mov x) k=some r):fG prog opn R T TI c s k r dst (.mov x):=by
 simp only[iI]at e
 obtain⟨a,e1,e⟩:=aA.1 e
 obtain⟨sv,h1,h2⟩:=kA g.gf e1
 exact .same g (by simp[aT,h1]) h2 e
theorem Sv {cx a b:SX} (e:iI cs opn ety icall T st dst (.pick cx a b) k=some r):fG prog opn R T TI c s k r dst (.pick cx a b):=by
 simp only[iI]at e
 obtain⟨v,e1,e⟩:=aA.1 e
 obtain⟨iv,h1,h2⟩:=dV g.gf e1
 cases v<;>simp only at e<;>try (cases e;done)
 rename_i b0
 simp only[Va]at h2;subst h2
 split at e
 ·rename_i x y hx hy
  obtain⟨ix,h3,h4⟩:=dV g.gf hx
  obtain⟨iy,h5,h6⟩:=dV g.gf hy
  simp only[Va]at h4 h6;subst h4;subst h6
  refine .same g (sv:=.val (.bool (bif b0 then x else y))) ?_ (by simp[cY,Va]) e
  cases b0<;>simp[aT,h1,h3,h5]
 ·rename_i kx x ky y hx hy
  split at e
  ·rename_i hk;subst hk
   obtain⟨ix,h3,h4⟩:=dV g.gf hx
   obtain⟨iy,h5,h6⟩:=dV g.gf hy
   simp only[Va]at h4 h6;subst h4;subst h6
   refine .same g (sv:=.val (.int kx (bif b0 then x else y))) ?_ (by simp[cY,Va]) e
   cases b0<;>simp[aT,h1,h3,h5]
  ·cases e
 ·cases b0 with
  |true=>
   simp only[cond_true]at e
   obtain⟨w,e2,e⟩:=aA.1 e
   obtain⟨ix,h3,h4⟩:=dV g.gf e2
   exact .same g (sv:=.val ix) (by simp[aT,h1,h3]) (show cY c (.val _) (.val _) from h4) e
  |false=>
   simp only[cond_false]at e
   obtain⟨w,e2,e⟩:=aA.1 e
   obtain⟨ix,h3,h4⟩:=dV g.gf e2
   exact .same g (sv:=.val ix) (by simp[aT,h1,h3]) (show cY c (.val _) (.val _) from h4) e
omit g in
theorem Hg {op:BinOp} {kd:IntKind} {a b:Int} {K:AV->Option Rr} (e:Ky op kd a b K=some r):∃v av,mX op kd a b=some v/\K av=some r/\∀c,Va c av v:=by
 cases op<;>simp only[Ky]at e
 case quo=>
  by_cases hb:b=0
  ·simp[hb]at e
  ·simp only[hb,decide_false,cond_false]at e
   exact⟨_,_,if_neg hb,e,fun c=>by simp only[Va]⟩
 case rem=>
  by_cases hb:b=0
  ·simp[hb]at e
  ·simp only[hb,decide_false,cond_false]at e
   exact⟨_,_,if_neg hb,e,fun c=>by simp only[Va]⟩
 case shl=>
  by_cases hb:b<0
  ·simp[hb]at e
  ·simp only[hb,decide_false,cond_false]at e
   exact⟨_,_,if_neg hb,e,fun c=>by simp only[Va]⟩
 case shr=>
  by_cases hb:b<0
  ·simp[hb]at e
  ·simp only[hb,decide_false,cond_false]at e
   exact⟨_,_,if_neg hb,e,fun c=>by simp only[Va]⟩
 all_goals exact⟨_,_,rfl,e,fun c=>by simp only[Va]⟩
omit g in
theorem Rg {op:BinOp} {a b:List UInt8} {K:AV->Option Rr} (e:Rh op a b K=some r):∃v av,Ul op a b=some v/\K av=some r/\∀c,Va c av v:=by
 cases op<;>simp only[Rh]at e<;>try (cases e;done)
 case add=>
  by_cases hb:((a.length+b.length:Nat):Int)>IntKind.i64.max
  ·simp only[hb,decide_true,cond_true]at e;cases e
  ·simp only[hb,decide_false,cond_false]at e
   exact⟨_,_,if_neg hb,e,fun c=>by simp only[Va]⟩
 all_goals exact⟨_,_,rfl,e,fun c=>by simp only[Va]⟩
omit g in
theorem Uu {op:BinOp} {a b:AV} {x y:IV} (hx:Va c a x) (hy:Va c b y) {K:AV->Option Rr} (e:Ye op a b K=some r):∃v av,bin op x y=some v/\K av=some r/\∀c,Va c av v:=by
 unfold Ye at e
 split at e
 ·simp only[Va]at hx hy;subst hx;subst hy
  split at e
  ·rename_i h
   obtain⟨v,av,h1,h2,h3⟩:=Hg e
   exact⟨v,av,by simp only[bin];rw[if_pos h];exact h1,h2,h3⟩
  ·cases e
 ·simp only[Va]at hx hy;subst hx;subst hy
  exact Rg e
 ·cases e
theorem Xn {op:BinOp} {x y:SX} (e:iI cs opn ety icall T st dst (.bin op x y) k=some r):fG prog opn R T TI c s k r dst (.bin op x y):=by
 simp only[iI]at e
 obtain⟨a,e1,e⟩:=aA.1 e
 obtain⟨b,e2,e⟩:=aA.1 e
 obtain⟨ix,h1,h2⟩:=dV g.gf e1
 obtain⟨iy,h3,h4⟩:=dV g.gf e2
 obtain⟨v,w,h5,h6,h7⟩:=Uu h2 h4 e
 exact .same g (sv:=.val v) (by simp[aT,h1,h3,h5]) (show cY c (.val _) (.val _) from h7 c) h6
theorem op_un {op:UnOp} {x:SX} (e:iI cs opn ety icall T st dst (.un op x) k=some r):fG prog opn R T TI c s k r dst (.un op x):=by
 simp only[iI]at e
 obtain⟨a,e1,e⟩:=aA.1 e
 obtain⟨ix,h1,h2⟩:=dV g.gf e1
 unfold aUn at e
 split at e
 ·simp only[Va]at h2;subst h2
  exact .same g (sv:=.val _) (by simp only[aT,h1,aB,un,mX];rfl) (by simp[cY,Va]) e
 ·simp only[Va]at h2;subst h2
  obtain⟨v,w,h5,h6,h7⟩:=Hg e
  exact .same g (sv:=.val v) (by simp only[aT,h1,aB,un,h5]) (show cY c (.val _) (.val _) from h7 c) h6
 ·simp only[Va]at h2;subst h2
  exact .same g (sv:=.val _) (by simp only[aT,h1,aB,un];rfl) (by simp[cY,Va]) e
 ·cases e
omit g in
theorem Kw {kk:LK} {a b:AV} {x y:IV} (hx:Va c a x) (hy:Va c b y) {v:Bool} (e:Rc kk a b=some v):Xw kk x y=some v:=by
 unfold Rc at e
 split at e<;>try (cases e;done)
 all_goals (simp only[Va]at hx hy;subst hx;subst hy;exact e)
omit g in
theorem Gp {kk:IntKind}:∀{n:Nat} {ks ks':List LK} {l l':List Int} {xs ys:List IV},Nc kk ks n=some ks'->l.length=n->l'.length=n->
 eqC ks (l.map (fun x=>IV.int kk x)++xs) (l'.map (fun x=>IV.int kk x)++ys)=(eqC ks' xs ys).bind fun b=>some ((l==l')&&b)
 |0,ks,ks',l,l',xs,ys,e,h,h'=>by
  have:=bK.1 h;subst this
  have:=bK.1 h';subst this
  simp only[Nc,aD]at e;subst e
  simp only[Nl,bZ]
  cases eqC ks xs ys<;>simp
 |n+1,ks,ks',l,l',xs,ys,e,h,h'=>by
  cases l with
  |nil=>simp at h
  |cons a l=>
   cases l' with
   |nil=>simp at h'
   |cons a' l'=>
    cases ks with
    |nil=>simp[Nc]at e
    |cons k1 ks=>
     cases k1<;>simp only[Nc]at e<;>try (cases e;done)
     split at e
     ·rename_i hk;subst hk
      have ih:=Gp (xs:=xs) (ys:=ys) e (show l.length=n by simpa using h) (show l'.length=n by simpa using h')
      simp only[eZ,cG,eqC,Xw,and_self,if_true,aB,ih]
      cases eqC ks' xs ys with
      |none=>rfl
      |some b=>simp[Bool.and_assoc]
     ·cases e
omit g in
theorem wC {k:IntKind}:∀{l:List Int} {es:List (List IV)},dI (fun x u=>u=[IV.int k x]) l es->es.flatten=l.map fun x=>IV.int k x
 |[],[],_=>rfl
 |[],_::_,h=>h.elim
 |_::_,[],h=>h.elim
 |a::l,e::es,h=>by obtain⟨h1,h2⟩:=h;subst h1;simp[wC h2]
omit g in
theorem ints_cells {k:IntKind}:∀{cs:List AV} {l:List Int} {u:List IV},pY k cs=some l->dB c cs u->u=l.map fun x=>IV.int k x
 |[],l,u,e,h=>by simp only[pY,aD]at e;subst e;simp only[dB]at h;subst h;rfl
 |a::r,l,u,e,h=>by
  cases a<;>simp only[pY]at e<;>try (cases e;done)
  split at e
  ·rename_i hk
   obtain⟨m,e1,e2⟩:=aA.1 e
   injection e2 with e2;subst e2;subst hk
   simp only[dB,Ca]at h
   obtain⟨x,y,rfl,rfl,h2⟩:=h
   rw[ints_cells e1 h2];rfl
  ·cases e
omit g in
theorem Ek:∀{ks:List LK} {xs ys:List AV} {us vs:List IV},dB c xs us->dB c ys vs->∀{v:Bool},Rd ks xs ys=some v->eqC ks us vs=some v
 |ks,xs,ys,us,vs,hx,hy,v,e=>by
  unfold Rd at e
  split at e
  ·rename_i n k1 l xs' hp' ln' n' k' l' ys'
   split at e
   ·rename_i hc;obtain⟨rfl,rfl⟩:=hc
    obtain⟨ks',e1,e'⟩:=aA.1 e
    obtain⟨b,e2,e3⟩:=aA.1 e'
    simp at e3;subst e3
    simp only[dB,Ca,TR]at hx hy
    obtain⟨u1,u2,rfl,⟨es,rfl,hl1,h1⟩,h2⟩:=hx
    obtain⟨w1,w2,rfl,⟨fs,rfl,hl2,h3⟩,h4⟩:=hy
    rw[wC h1,wC h3,Gp e1 (by rw[<-h1.len,hl1]) (by rw[<-h3.len,hl2]),Ek h2 h4 e2];rfl
   ·cases e
  ·rename_i hp ln n k1 l xs' hno
   obtain⟨y,e0,e'⟩:=aA.1 e
   obtain⟨l',e1,e2⟩:=aA.1 e'
   split at e2
   ·rename_i hl
    obtain⟨ks',e3,e4⟩:=aA.1 e2
    obtain⟨b,e5,e6⟩:=aA.1 e4
    simp at e6;subst e6
    simp only[dB,Ca,TR]at hx
    obtain⟨u1,u2,rfl,⟨es,rfl,hl1,h1⟩,h2⟩:=hx
    obtain⟨q1,q2,q3⟩:=hy.split e0
    have hi:=ints_cells e1 q1
    have hv:vs=l'.map (fun x=>IV.int k1 x)++vs.drop n:=by rw[<-hi,gR]
    rw[hv,wC h1,Gp e3 (by rw[<-h1.len,hl1]) hl,Ek h2 q2 e5];rfl
   ·cases e2
  ·simp only[dB]at hx hy;subst hx;subst hy;exact e
  ·rename_i k1 ks x xs y ys hno hno2
   obtain⟨a,e1,e'⟩:=aA.1 e
   obtain⟨b,e2,e3⟩:=aA.1 e'
   simp only[dB]at hx hy
   obtain⟨u1,u2,rfl,h1,h2⟩:=hx
   obtain⟨w1,w2,rfl,h3,h4⟩:=hy
   have one:x.one=true/\y.one=true:=by
    unfold Rc at e1
    split at e1<;>first|(cases e1;done)|exact⟨rfl,rfl⟩
   obtain⟨i1,rfl,_,g1⟩:=(eT one.1).1 h1
   obtain⟨i2,rfl,_,g2⟩:=(eT one.2).1 h3
   simp only[cG,bZ,eqC,Kw g1 g2 e1,Ek h2 h4 e2,aB]
   exact e3
  ·cases e
omit g in
theorem Fv {a:dP} {sv:SV} (v:cY c a sv) (h:qY c.H a=true):
 (∃n o,sv = .lptr n o)\/(∃b t i o,sv = .val (.ptr b t i o))\/∃b e o,sv = .val (.rptr b e o):=by
 cases a with
 |lptr n o=>cases sv<;>simp only[cY]at v;exact .inl ⟨_,_,rfl⟩
 |box _=>simp[qY]at h
 |cst _=>simp[qY]at h
 |val a=>
  cases sv<;>simp only[cY]at v
  cases a
  case ptr B o=>
   simp only[Va]at v
   simp only[qY]at h
   split at h
   ·rename_i wr cs hB
    obtain⟨b,_,rfl⟩:=v.2.obj hB
    exact .inr (.inl ⟨_,_,_,_,rfl⟩)
   ·cases h
  case eptr B i o=>
   simp only[Va]at v
   rcases v.2 with v|⟨_,_,_,_,_,b,_,_,rfl,_⟩
   ·simp[qY,v]at h
   ·exact .inr (.inl ⟨_,_,_,_,rfl⟩)
  case rptr hp ln cs o=>
   simp only[Va]at v
   obtain⟨e,_,⟨bo,rfl⟩|⟨_,b,tot,i,k,rfl,_⟩⟩:=v
   ·exact .inr (.inr ⟨_,_,_,rfl⟩)
   ·exact .inr (.inl ⟨_,_,_,_,rfl⟩)
  all_goals simp[qY]at h
theorem Xi {kd:IntKind} {x:SX} (e:iI cs opn ety icall T st dst (.cvI kd x) k=some r):fG prog opn R T TI c s k r dst (.cvI kd x):=by
 simp only[iI]at e
 obtain⟨a,e1,e⟩:=aA.1 e
 obtain⟨ix,h1,h2⟩:=dV g.gf e1
 cases a<;>simp only at e<;>try (cases e;done)
 simp only[Va]at h2;subst h2
 exact .same g (sv:=.val _) (by simp only[aT,h1,aB];rfl) (by simp[cY,Va]) e
theorem Ti {x:SX} (e:iI cs opn ety icall T st dst (.cvIS x) k=some r):fG prog opn R T TI c s k r dst (.cvIS x):=by
 simp only[iI]at e
 obtain⟨a,e1,e⟩:=aA.1 e
 obtain⟨ix,h1,h2⟩:=dV g.gf e1
 cases a<;>simp only at e<;>try (cases e;done)
 simp only[Va]at h2;subst h2
 exact .same g (sv:=.val _) (by simp only[aT,h1,aB];rfl) (by simp[cY,Va]) e
theorem Tf {x:SX} (e:iI cs opn ety icall T st dst (.cvSS x) k=some r):fG prog opn R T TI c s k r dst (.cvSS x):=by
 simp only[iI]at e
 obtain⟨a,e1,e⟩:=aA.1 e
 obtain⟨ix,h1,h2⟩:=dV g.gf e1
 cases a<;>simp only at e<;>try (cases e;done)
 simp only[Va]at h2;subst h2
 exact .same g (sv:=.val _) (by simp only[aT,h1,aB];rfl) (by simp[cY,Va]) e
theorem Th {x:SX} (e:iI cs opn ety icall T st dst (.cvLL x) k=some r):fG prog opn R T TI c s k r dst (.cvLL x):=by
 simp only[iI]at e
 obtain⟨a,e1,e⟩:=aA.1 e
 obtain⟨ix,h1,h2⟩:=dV g.gf e1
 cases a<;>simp only at e<;>try (cases e;done)
 rename_i B
 have h2':=h2
 simp only[Va]at h2
 rcases h2.2 with h|⟨wr,hp,ln,t,l,hB,h2⟩
 ·rw[g.H]at h;rw[h]at e;cases e
 ·have hB':=hB
  rw[g.H]at hB;rw[hB]at e;simp only at e
  split at e
  case isFalse=>cases e
  rename_i hn1
  obtain⟨hc,e⟩:=dZ.1 e
  rw[decide_eq_true_eq]at hc
  have br:=g.gh.blk B _ hB'
  simp only[BR]at br
  replace br:=br.2
  cases hm:c.m B with
  |none=>rw[hm]at br;simp only at br;subst br;simp at hc
  |some b=>
   rw[hm]at br h2;simp only[fC]at br h2
   obtain⟨es,h3,h4⟩:=br
   subst h2
   have hg:hget s.2 b l.length=some ⟨t.n,es⟩:=by rw[<-g.h];exact cZ.2 ⟨h3,h4.len⟩
   refine .same g (sv:=.val (.sl b l.length 0 l.length l.length)) ?_ (show cY c (.val (.own B)) (.val _) from h2') e
   simp only[aT,h1,aB,hg]
   rw[if_pos ⟨hc,hn1⟩]
theorem Tj {x:SX} (e:iI cs opn ety icall T st dst (.cvBS x) k=some r):fG prog opn R T TI c s k r dst (.cvBS x):=by
 simp only[iI]at e
 obtain⟨a,e1,e⟩:=aA.1 e
 obtain⟨ix,h1,h2⟩:=dV g.gf e1
 have ns:∀b,a≠.str b:=by rintro b rfl;simp at e
 have e:(Jn st.H (.int .u8) a).bind (fun l=>k (.val (.str (l.map fun n=>UInt8.ofNat n.toNat))) st)=some r:=by
  cases a<;>simp only at e<;>first|exact e|exact(ns _ rfl).elim
 obtain⟨l,e2,e⟩:=aA.1 e
 rw[<-g.H]at e2
 obtain⟨es,h3,h4⟩:=vN g.gh.blk e2 h2
 have nv:∀b,ix≠.str b:=by
  rintro b rfl
  cases a
  case nils=>simp only[Va]at h2;rcases h2 with h|h<;>cases h
  case lst hp ln t l0=>
   simp only[Va,TR]at h2
   obtain⟨iv,h,h2⟩:=h2
   simp at h;subst h
   rcases h2 with ⟨_,h|h⟩|⟨_,_,h,_⟩|⟨_,_,_,_,_,_,_,h,_⟩<;>cases h
  case own B=>
   simp only[Va]at h2
   rcases h2.2 with h|⟨_,_,_,_,_,hB,h⟩
   ·simp only[Jn,h]at e2;cases e2
   ·unfold fC at h;split at h
    ·rcases h with h|h<;>cases h
    ·cases h
  case sub B _ _ _=>
   simp only[Va]at h2
   rcases h2.2 with h|⟨_,_,_,_,_,hB,h⟩
   ·simp only[Jn,h]at e2;cases e2
   ·unfold tJ at h;obtain⟨_,_,h⟩:=h;split at h
    ·rcases h.1 with h|h<;>cases h
    ·cases h
  case str b'=>exact ns _ rfl
  all_goals (simp only[Jn]at e2;cases e2)
 have key:∀{l:List Int} {es:List (List IV)},dI (fun x u=>u=[IV.int IntKind.u8 x]) l es->dM (fun e=>match e with
  |[.int .u8 n]=>some (UInt8.ofNat n.toNat)
  |_=>none) es=some (l.map fun n=>UInt8.ofNat n.toNat):=by
  intro l
  induction l with
  |nil=>intro es h;cases es with
   |nil=>rfl
   |cons _ _=>exact h.elim
  |cons a l ih=>intro es h;cases es with
   |nil=>exact h.elim
   |cons e es=>obtain⟨h1,h2⟩:=h;subst h1;simp[dM,ih h2]
 have h4':=key (show dI (fun x u=>u=[IV.int IntKind.u8 x]) l es from by simpa only[TR]using h4)
 refine .same g (sv:=.val (.str (l.map fun n=>UInt8.ofNat n.toNat))) ?_ (by simp[cY,Va]) e
 have h3':fF s.2 1 ix=some es:=by rw[<-g.h];exact h3
 simp only[aT,h1,aB]
 cases ix<;>first|exact(nv _ rfl).elim|(simp only[h3',aB];exact(congrArg (fun z=>Option.bind z _) h4').trans rfl)
theorem Xd {f:Fn} {a b:List SX} (e:iI cs opn ety icall T st dst (.mkF f a b) k=some r):fG prog opn R T TI c s k r dst (.mkF f a b):=by
 simp only[iI]at e
 cases f<;>simp only at e<;>try (cases e;done)
 obtain⟨x,e1,e⟩:=aA.1 e
 obtain⟨y,e2,e⟩:=aA.1 e
 obtain⟨ix,h1,h2⟩:=vZ g.gf e1
 obtain⟨iy,h3,h4⟩:=vZ g.gf e2
 exact .same g (sv:=.val _) (by simp only[aT,h1,h3,aB];rfl) (by simp only[cY,Va];exact⟨_,_,rfl,h2,h4⟩) e
omit g in
theorem qE {a:AV} {iv:IV} (v:Va c a iv) {K:Nat->Option Rr} (e:Ej a K=some r):∃n,kB iv=some n/\K n=some r:=by
 unfold Ej at e
 split at e
 ·simp only[Va]at v;subst v
  rename_i kd n
  by_cases h:0≤n
  ·simp only[h,decide_true,cond_true]at e
   exact⟨n.toNat,by simp[kB,h],e⟩
  ·simp[h]at e
 ·cases e
theorem qD {x:Option SX} {d:Nat} {K:Nat->Option Rr} (e:sC T st.fr d K x=some r):∃n,fQ s.1 x d=some n/\K n=some r:=by
 cases x with
 |none=>exact⟨d,rfl,e⟩
 |some x=>
  simp only[sC]at e
  obtain⟨a,e1,e⟩:=aA.1 e
  obtain⟨iv,h1,h2⟩:=dV g.gf e1
  obtain⟨n,h3,h4⟩:=qE h2 e
  exact⟨n,by simp[fQ,h1,h3],h4⟩
theorem Wz {x:SX} {lo hi:Option SX} (e:iI cs opn ety icall T st dst (.slS x lo hi) k=some r):fG prog opn R T TI c s k r dst (.slS x lo hi):=by
 simp only[iI]at e
 obtain⟨a,e1,e⟩:=aA.1 e
 obtain⟨ix,h1,h2⟩:=dV g.gf e1
 cases a<;>simp only at e<;>try (cases e;done)
 simp only[Va]at h2;subst h2
 obtain⟨l,h3,e⟩:=qD g e
 obtain⟨rr,h4,e⟩:=qD g e
 obtain⟨h5,e⟩:=dZ.1 e
 rw[decide_eq_true_eq]at h5
 exact .same g (sv:=.val _) (by simp only[aT,h1,aB,h3,h4,if_pos h5];rfl) (by simp[cY,Va]) e
theorem Xh {x:SX} {i:Nat} (e:iI cs opn ety icall T st dst (.ext x i) k=some r):fG prog opn R T TI c s k r dst (.ext x i):=by
 simp only[iI]at e
 obtain⟨a,e1,e⟩:=aA.1 e
 obtain⟨ix,h1,h2⟩:=dV g.gf e1
 cases a<;>simp only at e<;>try (cases e;done)
 simp only[Va]at h2
 obtain⟨ivs,rfl,h2⟩:=h2
 obtain⟨v,e2,e⟩:=aA.1 e
 obtain⟨w,h3,h4⟩:=h2.get e2
 exact .same g (sv:=.val w) (by simp only[aT,h1,aB,h3]) (show cY c (.val _) (.val _) from h4) e
theorem Tb {x i:SX} (e:iI cs opn ety icall T st dst (.idxS x i) k=some r):fG prog opn R T TI c s k r dst (.idxS x i):=by
 simp only[iI]at e
 obtain⟨a,e1,e⟩:=aA.1 e
 obtain⟨b,e2,e⟩:=aA.1 e
 obtain⟨ix,h1,h2⟩:=dV g.gf e1
 obtain⟨iy,h3,h4⟩:=dV g.gf e2
 obtain⟨n,h5,e⟩:=qE h4 e
 cases a<;>simp only at e<;>try (cases e;done)
 simp only[Va]at h2;subst h2
 obtain⟨ch,e3,e⟩:=aA.1 e
 exact .same g (sv:=.val _) (by simp only[aT,h1,h3,aB,h5,e3];rfl) (by simp[cY,Va]) e
omit g in
theorem Eg {H:eB} (hH:c.H=H) (hb:xB c) {a:AV} {iv:IV} (v:Va c a iv) {n:Nat} (e:uV H a=some n):lenOf iv=some n:=by
 subst hH
 cases a<;>simp only[uV]at e<;>try (cases e;done)
 case str=>simp at e;subst e;simp only[Va]at v;subst v;rfl
 case nils=>simp at e;subst e;simp only[Va]at v;rcases v with rfl|rfl<;>rfl
 case lst hp ln t l=>
  simp at e;subst e
  simp only[Va,TR]at v
  obtain⟨iv',h,v⟩:=v
  simp at h;subst h
  rcases v with ⟨rfl,rfl|rfl⟩|⟨_,es,rfl,_,h⟩|⟨_,b,tot,off,len,cap,k,rfl,_,hk,_,ht,h⟩
  ·rfl
  ·rfl
  ·simp[lenOf,h.len]
  ·have:=h.len
   have h2:=(cZ.1 hk).2
   simp only[bP,bW]at this
   simp only[lenOf,aD];omega
 case own B=>
  simp only[Va]at v
  rcases v.2 with v|⟨_,hp,ln,t,l,hB,v⟩
  ·rw[v]at e;simp at e
  ·rw[hB]at e;simp at e;subst e
   have:=hb _ _ hB
   simp only[BR]at this
   replace this:=this.2
   cases hm:c.m B with
   |none=>
    rw[hm]at this v;simp only[fC]at this v;subst this
    rcases v with rfl|rfl<;>rfl
   |some b=>
    rw[hm]at v;simp only[fC]at v
    subst v;rfl
 case own2 B=>
  simp only[Va,mP]at v
  split at e
  ·rename_i w t l op hB
   injection e with e;subst e
   have:=hb _ _ hB
   rw[hB]at v
   cases hm:c.m B with
   |none=>
    rw[hm]at this v;simp only[fC]at v
    rw[(BR.arr2_none this).2.1]
    rcases v.2 with rfl|rfl<;>rfl
   |some b=>
    rw[hm]at v;simp only[fC]at v
    rw[v.2];rfl
  ·cases e
 case kown B=>
  simp only[Va,KownR]at v
  split at e
  ·rename_i w sz es hB
   injection e with e;subst e
   rw[hB]at v
   obtain⟨_,b,_,rfl⟩:=v
   rfl
  ·cases e
 case sub B off len cap=>
  simp only[Va]at v
  rcases v.2 with v|⟨_,hp,ln,t,l,hB,v⟩
  ·rw[v]at e;simp at e
  ·rw[hB]at e;simp at e;subst e
   obtain⟨_,_,v⟩:=v
   cases hm:c.m B with
   |none=>
    rw[hm]at v;simp only at v
    obtain⟨v1,v2,_⟩:=v
    subst v2
    rcases v1 with rfl|rfl<;>rfl
   |some b=>
    rw[hm]at v;simp only at v
    subst v;rfl
theorem Ra {H:eB} (hH:c.H=H) (hb:xB c) {a:AV} {iv:IV} (v:Va c a iv) {n:Nat} (e:uV H a=some n) (hs:∀b,a≠.str b):∃w,Qm .sl (.val iv) (.val .nils)=some w/\(w=true->n=0):=by
 have hl:=Eg hH hb v e
 have key:(iv = .nils\/iv = .esl\/(∃b es,iv = .ro b es)\/∃a b c d e,iv = .sl a b c d e)->∃w,Qm .sl (.val iv) (.val .nils)=some w/\(w=true->n=0):=by
  rintro (rfl|rfl|⟨_,_,rfl⟩|⟨_,_,_,_,_,rfl⟩)
  ·simp only[lenOf,aD]at hl;exact⟨true,rfl,fun _=>hl.symm⟩
  ·exact⟨false,rfl,fun h=>by cases h⟩
  ·exact⟨false,rfl,fun h=>by cases h⟩
  ·exact⟨false,rfl,fun h=>by cases h⟩
 refine key ?_
 subst hH
 cases a<;>simp only[uV]at e<;>try (cases e;done)
 case str b=>exact(hs b rfl).elim
 case nils=>simp only[Va]at v;rcases v with rfl|rfl<;>simp
 case lst hp ln t l=>
  simp only[Va,TR]at v
  obtain⟨iv',h,v⟩:=v
  simp at h;subst h
  rcases v with ⟨_,rfl|rfl⟩|⟨_,es,rfl,_,h⟩|⟨_,b,tot,off,len,cap,k,rfl,_⟩<;>simp
 case own B=>
  simp only[Va]at v
  rcases v.2 with v|⟨_,hp,ln,t,l,hB,v⟩
  ·rw[v]at e;simp at e
  ·unfold fC at v
   split at v
   ·rcases v with rfl|rfl<;>simp
   ·subst v;simp
 case own2 B=>
  simp only[Va,mP]at v
  split at e
  ·rename_i w t l op hB
   rw[hB]at v
   replace v:fC (c.m B) l.length iv:=v.2
   unfold fC at v
   split at v
   ·rcases v with rfl|rfl<;>simp
   ·subst v;simp
  ·cases e
 case kown B=>
  simp only[Va,KownR]at v
  split at e
  ·rename_i w sz es hB
   rw[hB]at v
   obtain⟨_,b,_,rfl⟩:=v
   simp
  ·cases e
 case sub B off len cap=>
  simp only[Va]at v
  rcases v.2 with v|⟨_,hp,ln,t,l,hB,v⟩
  ·rw[v]at e;simp at e
  ·unfold tJ at v
   obtain⟨_,_,v⟩:=v
   split at v
   ·rcases v.1 with rfl|rfl<;>simp
   ·subst v;simp
end
end Go.Ideal
namespace Go.Ideal
theorem kT.add_val (o:kT) (d:Nat):(o.add d).val=o.val+d:=by
 cases o<;>simp[kT.add,kT.val];omega
theorem Fc {α:Type} {l:List α} {i:Nat} {x:α} (h:(l.drop i).take 1=[x]):l[i]? = some x:=by
 have h1:(l.drop i)[0]? = some x:=by
  cases hd:l.drop i with
  |nil=>rw[hd]at h;simp at h
  |cons a r=>rw[hd]at h;simp at h;simp[h]
 rw[gX]at h1
 simpa using h1
theorem uL {c:Cf} {a:AV} {iv:IV} (v:Va c a iv) {vs:List AV} (e:a.flat=some vs):∃ivs,iv.flat=some ivs/\dB c vs ivs:=by
 cases ho:a.one with
 |true=>
  have h1:=yN ho v
  have:vs=[a]:=by cases a<;>simp_all [AV.flat,AV.one]
  subst this
  refine⟨[iv],?_,dB.single.2 ((eT ho).2 ⟨iv,rfl,h1,v⟩)⟩
  cases iv<;>simp_all [IV.flat,IV.one]
 |false=>
  cases a<;>simp only[AV.one,Bool.true_eq_false]at ho
  ·simp only[AV.flat]at e;cases e
  ·simp only[AV.flat,aD]at e;subst e
   simp only[Va]at v
   obtain⟨ivs,rfl,h⟩:=v
   exact⟨ivs,rfl,h⟩
  ·simp only[AV.flat]at e;cases e
section
variable {Rr:Type} {prog:Nat->Option mO} {opn:Nat->Bool} {cs:Nat->Option Ct} {ety:Nat->Option Ty} {icall:Nat->List AV->eB->(AV->eB->Option Rr)->Option Rr}
 {R:lL} {T:List dP} {TI:List SV} {c:Cf} {st:gJ} {s:St} {k:dP->gJ->Option Rr} {r:Rr} {dst:Option Nat}
variable (g:G R T TI c st s)
include g
theorem Sx {x:SX} (e:iI cs opn ety icall T st dst (.nilc x) k=some r):fG prog opn R T TI c s k r dst (.nilc x):=by
 simp only[iI]at e
 obtain⟨a,e1,e'⟩:=aA.1 e
 clear e;have e:=e';clear e'
 obtain⟨sv,h1,h2⟩:=kA g.gf e1
 split at e
 ·rename_i hp
  rw[<-g.H]at hp
  refine .same g (sv:=sv) ?_ h2 e
  rcases Fv h2 hp with ⟨_,_,rfl⟩|⟨_,_,_,_,rfl⟩|⟨_,_,_,rfl⟩<;>simp[aT,h1]
 ·cases e
omit g in
theorem Ku {a:dP} {sv:SV} (v:cY c a sv) (hb:xB c) {K:Bool->Option Rr} {r:Rr} (e:Us c.H a K=some r):∃w,(Qm .ptr (.val .nilp) sv=some w/\Qm .ptr sv (.val .nilp)=some w)/\K w=some r:=by
 unfold Us at e
 split at e
 ·rename_i B o
  cases sv<;>simp only[cY,Va]at v
  split at e
  ·rename_i hB
   obtain⟨b,_,rfl⟩:=v.2.obj hB
   exact⟨false,⟨rfl,rfl⟩,e⟩
  ·rename_i w t x hB
   split at e
   ·have br:=hb _ _ hB
    simp only[BR]at br
    have v:=v.2
    unfold lV at v
    rw[hB]at v
    rcases br with ⟨rfl,hm,_⟩|⟨v',b,_,_,rfl,hm,_⟩
    ·rw[hm]at v;rw[v.2];exact⟨true,⟨rfl,rfl⟩,e⟩
    ·rw[hm]at v;rw[v.2];exact⟨false,⟨rfl,rfl⟩,e⟩
   ·cases e
  ·cases e
 ·split at e
  ·rename_i hp
   refine⟨false,?_,e⟩
   rcases Fv v hp with ⟨_,_,rfl⟩|⟨_,_,_,_,rfl⟩|⟨_,_,_,rfl⟩<;>exact⟨rfl,rfl⟩
  ·cases e
theorem op_eq {neg:Bool} {t:ET} {x y:SX} (e:iI cs opn ety icall T st dst (.eq neg t x y) k=some r):fG prog opn R T TI c s k r dst (.eq neg t x y):=by
 by_cases hsl:t = .sl/\y = .c .nils
 ·obtain⟨rfl,rfl⟩:=hsl
  simp only[iI]at e
  obtain⟨a,e1,e'⟩:=aA.1 e
  clear e;have e:=e';clear e'
  obtain⟨iv,h1,h2⟩:=dV g.gf e1
  obtain⟨n,e2,hstr,e⟩:∃n,uV st.H a=some n/\(∀b,a≠.str b)/\As (n==0) (k (.val (.bool (if neg then !true else true))) st) (k (.val (.bool (if neg then !false else false))) st)=some r:=by
   unfold Vq at e
   split at e
   ·cases e
   ·rename_i hn
    obtain⟨n,e2,e⟩:=aA.1 e
    exact⟨n,e2,fun b hb=>hn b hb,e⟩
  obtain⟨q1,q2⟩:=My e
  obtain⟨v,hv,hn⟩:=Ra g g.H g.gh.blk h2 e2 hstr
  have h1':SX.ev s.1 x=some (.val iv):=by
   unfold SX.val at h1
   split at h1
   ·injection h1 with h1;subst h1;assumption
   ·cases h1
  have h3:SX.ev s.1 (.c .nils)=some (.val .nils):=rfl
  have e':k (.val (.bool (if neg then !v else v))) st=some r:=by
   cases v with
   |false=>exact q1
   |true=>exact q2 (by rw[hn rfl];rfl)
  exact .same g (sv:=.val (.bool (if neg then !v else v))) (by simp only[aT,h1',h3,aB,hv]) (by simp[cY,Va]) e'
 have e:((ax T st.fr x).bind fun a=>(ax T st.fr y).bind fun b=>aEq st.H t a b fun r=>k (.val (.bool (if neg then !r else r))) st)=some r:=by
  simp only[iI]at e
  split at e
  ·rename_i hy;exact(hsl ⟨rfl,rfl⟩).elim
  ·exact e
 obtain⟨a,e1,e'⟩:=aA.1 e
 clear e;have e:=e';clear e'
 obtain⟨b,e2,e'⟩:=aA.1 e
 clear e;have e:=e';clear e'
 obtain⟨sv,h1,h2⟩:=kA g.gf e1
 obtain⟨sw,h3,h4⟩:=kA g.gf e2
 have fin:∀{v:Bool} {kk:Option Rr},Qm t sv sw=some v->k (.val (.bool (if neg then !v else v))) st=some r->fG prog opn R T TI c s k r dst (.eq neg t x y):=by
  intro v kk hv e
  exact .same g (sv:=.val (.bool (if neg then !v else v))) (by simp only[aT,h1,h3,aB,hv]) (by simp[cY,Va]) e
 have np:∀{a:AV} {iv:IV},Va c a iv->a = .nilp->iv = .nilp:=by rintro a iv v rfl;simpa only[Va]using v
 unfold aEq at e
 split at e
 ·split at e
  ·rename_i k0 x' y'
   obtain⟨v,e3,e'⟩:=aA.1 e
   clear e;have e:=e';clear e'
   cases sv<;>simp only[cY]at h2
   cases sw<;>simp only[cY]at h4
   exact fin (kk:=none) (v:=v) (by simp only[Qm];exact Kw h2 h4 e3) e
  ·cases e
 ·split at e
  ·rename_i ks xs ys
   obtain⟨v,e3,e'⟩:=aA.1 e
   clear e;have e:=e';clear e'
   cases sv<;>simp only[cY,Va]at h2
   cases sw<;>simp only[cY,Va]at h4
   obtain⟨us,rfl,h2⟩:=h2
   obtain⟨vs,rfl,h4⟩:=h4
   exact fin (kk:=none) (v:=v) (by simp only[Qm];exact Ek h2 h4 e3) e
  ·cases e
 ·split at e
  ·cases sv<;>simp only[cY,Va]at h2
   cases sw<;>simp only[cY,Va]at h4
   subst h2;subst h4
   exact fin (kk:=none) (v:=true) rfl e
  ·rw[<-g.H]at e
   obtain⟨w,q1,q2⟩:=Ku h4 g.gh.blk e
   cases sv<;>simp only[cY,Va]at h2
   subst h2
   exact fin (kk:=none) (v:=w) q1.1 q2
  ·rw[<-g.H]at e
   obtain⟨w,q1,q2⟩:=Ku h2 g.gh.blk e
   cases sw<;>simp only[cY,Va]at h4
   subst h4
   exact fin (kk:=none) (v:=w) q1.2 q2
  ·cases e
 ·cases e
 ·split at e
  ·cases sv<;>simp only[cY,Va]at h2
   cases sw<;>simp only[cY,Va]at h4
   subst h2;subst h4
   exact fin (kk:=none) (v:=true) rfl e
  ·cases sv<;>simp only[cY,Va]at h2
   cases sw<;>simp only[cY,Va]at h4
   obtain⟨_,_,rfl,_⟩:=h4
   subst h2
   exact fin (kk:=none) (v:=false) rfl e
  ·cases sv<;>simp only[cY,Va]at h2
   cases sw<;>simp only[cY,Va]at h4
   obtain⟨_,_,rfl,_⟩:=h2
   subst h4
   exact fin (kk:=none) (v:=false) rfl e
  ·cases e
theorem Te {off:Nat} {x:SX} (e:iI cs opn ety icall T st dst (.fadr off x) k=some r):fG prog opn R T TI c s k r dst (.fadr off x):=by
 simp only[iI]at e
 obtain⟨a,e1,e'⟩:=aA.1 e
 clear e;have e:=e';clear e'
 obtain⟨sv,h1,h2⟩:=kA g.gf e1
 split at e
 ·rename_i hp
  rw[<-g.H]at hp
  split at e
  ·rename_i t o
   cases sv<;>simp only[cY]at h2
   obtain⟨rfl,rfl⟩:=h2
   exact .same g (sv:=.lptr _ _) (by simp only[aT,h1,aB];rfl) (by simp[cY,kT.add_val]) e
  ·rename_i B o
   cases sv<;>simp only[cY,Va]at h2
   simp only[qY]at hp
   split at hp
   ·rename_i wr cs' hB
    obtain⟨b,hm,rfl⟩:=h2.2.obj hB
    exact .same g (sv:=.val _) (by simp only[aT,h1,aB];rfl) (by simp only[cY,Va];rw[<-kT.add_val];exact⟨rfl,.mk hB hm⟩) e
   ·cases hp
  ·rename_i B i o
   cases sv<;>simp only[cY,Va]at h2
   rcases h2.2 with h|⟨wr,hp',ln',t',l',b,hB,hm,rfl,hi⟩
   ·simp[qY,h]at hp
   ·exact .same g (sv:=.val _) (by simp only[aT,h1,aB];rfl) (by simp only[cY,Va];exact⟨rfl,.inr ⟨wr,hp',ln',t',l',b,hB,hm,by rw[kT.add_val],hi⟩⟩) e
  ·rename_i hp' ln' cs' o
   cases sv<;>simp only[cY,Va]at h2
   obtain⟨ee,hc,⟨bo,rfl⟩|⟨hh,b,tot,i,kk,rfl,h3,h4,h5⟩⟩:=h2
   ·exact .same g (sv:=.val _) (by simp only[aT,h1,aB];rfl) (by simp only[cY,Va];exact⟨ee,hc,.inl ⟨bo,by rw[kT.add_val]⟩⟩) e
   ·exact .same g (sv:=.val _) (by simp only[aT,h1,aB];rfl) (by simp only[cY,Va];exact⟨ee,hc,.inr ⟨hh,b,tot,i,kk,by rw[kT.add_val],h3,h4,h5⟩⟩) e
  ·cases e
 ·cases e
theorem rY {p:dP} {sv:SV} (v:cY c p sv) {n:Nat} {K:List AV->Option Rr} (e:wE T st p n K=some r):∃out ivs,K out=some r/\eS s sv n=some ivs/\dB c out ivs:=by
 unfold wE at e
 split at e
 ·rename_i slot o
  cases sv<;>simp only[cY]at v
  obtain⟨rfl,rfl⟩:=v
  split at e
  ·rename_i l hl
   obtain⟨s',h1,h2⟩:=fS g.gf hl
   cases s'<;>simp only[cY]at h2
   split at e
   ·cases e
   ·rename_i hni
    obtain⟨out,h3,h4,h5⟩:=mV h2 e
    exact⟨out,_,h3,by simp only[eS,h1];rw[if_pos ⟨h5,noIt h2 (by simpa using hni)⟩],h4⟩
  ·cases e
 ·rename_i hp ln l o
  cases sv<;>simp only[cY,Va]at v
  obtain⟨ee,hc,⟨bo,rfl⟩|⟨hh,b,tot,i,kk,rfl,h3,h4,h5⟩⟩:=v
  ·obtain⟨out,q1,q2,q3⟩:=mV hc e
   exact⟨out,_,q1,by simp only[eS];rw[if_pos q3],q2⟩
  ·obtain⟨out,q1,q2,q3⟩:=mV hc e
   exact⟨out,_,q1,by simp only[eS,<-g.h,h4,h5,aB];rw[if_pos q3],q2⟩
 ·rename_i B o
  cases sv<;>simp only[cY,Va]at v
  rw[<-g.H]at e
  split at e
  next wr cs' hB=>
   obtain⟨b,hm,rfl⟩:=v.2.obj hB
   have br:=g.gh.blk B _ hB
   simp only[BR]at br
   replace br:=br.2
   obtain⟨b',hm',ee,h1,hc⟩:=br
   rw[hm]at hm';injection hm' with hm';subst hm'
   obtain⟨out,q1,q2,q3⟩:=mV hc e
   refine⟨out,_,q1,?_,q2⟩
   have:hget c.h b 1=some ⟨ee.length,[ee]⟩:=cZ.2 ⟨h1,rfl⟩
   simp only[eS,<-g.h,this,aB,oE]
   rw[if_pos q3]
  next=>cases e
 ·rename_i B i o
  cases sv<;>simp only[cY,Va]at v
  rcases v.2 with h|⟨wr,hp',ln',t',l',b,hB,hm,rfl,hi⟩
  ·rw[g.H]at h;rw[h]at e;cases e
  ·rw[g.H]at hB;rw[hB]at e;simp only at e
   have br:=g.gh.blk B _ (by rw[g.H];exact hB)
   simp only[BR,hm]at br
   replace br:=br.2
   obtain⟨es,h1,h2⟩:=br
   obtain⟨x,e2,e'⟩:=aA.1 e
   clear e;have e:=e';clear e'
   obtain⟨u,h3,h4⟩:=h2.get e2
   obtain⟨out,q1,q2,q3⟩:=mV (iD h4) e
   refine⟨out,_,q1,?_,q2⟩
   have:hget c.h b l'.length=some ⟨t'.n,es⟩:=cZ.2 ⟨h1,h2.len⟩
   simp only[eS,<-g.h,this,aB,h3]
   rw[if_pos q3]
 ·cases e
theorem Sz {n:Option Nat} {x:SX} (e:iI cs opn ety icall T st dst (.load n x) k=some r):fG prog opn R T TI c s k r dst (.load n x):=by
 simp only[iI]at e
 obtain⟨a,e1,e'⟩:=aA.1 e
 clear e;have e:=e';clear e'
 obtain⟨sv,h1,h2⟩:=kA g.gf e1
 cases n with
 |none=>
  simp only at e
  obtain⟨out,ivs,h3,h4,h5⟩:=rY g h2 e
  split at h3
  ·rename_i v
   split at h3
   ·rename_i hv
    rw[dB.single]at h5
    obtain⟨iv,rfl,_,h6⟩:=(eT hv).1 h5
    exact .same g (sv:=.val iv) (by simp only[aT,h1,aB,h4]) (show cY c (.val _) (.val _) from h6) h3
   ·cases h3
  ·cases h3
 |some n=>
  simp only at e
  obtain⟨out,ivs,h3,h4,h5⟩:=rY g h2 e
  exact .same g (sv:=.val (.agg ivs)) (by simp only[aT,h1,aB,h4]) (by simp only[cY,Va];exact⟨_,rfl,h5⟩) h3
theorem Xg {off:Nat} {n:Option Nat} {x:SX} (e:iI cs opn ety icall T st dst (.fld off n x) k=some r):fG prog opn R T TI c s k r dst (.fld off n x):=by
 simp only[iI]at e
 obtain⟨a,e1,e'⟩:=aA.1 e
 clear e;have e:=e';clear e'
 obtain⟨ix,h1,h2⟩:=dV g.gf e1
 cases a<;>simp only at e<;>try (cases e;done)
 simp only[Va]at h2
 obtain⟨ivs,rfl,h2⟩:=h2
 cases n with
 |none=>
  simp only at e
  obtain⟨out,h3,h4,h5⟩:=mV h2 e
  split at h3
  ·split at h3
   ·rename_i v hv
    rw[dB.single]at h4
    obtain⟨iv,h6,_,h7⟩:=(eT hv).1 h4
    have:=Fc h6
    simp only[kT.val]at this
    exact .same g (sv:=.val iv) (by simp only[aT,h1,aB,part,this]) (show cY c (.val _) (.val _) from h7) h3
   ·cases h3
  ·cases h3
 |some n=>
  simp only at e
  obtain⟨out,h3,h4,h5⟩:=mV h2 e
  simp only[kT.val]at h4 h5
  exact .same g (sv:=.val (.agg _)) (by simp only[aT,h1,aB,part,if_pos h5];rfl) (by simp only[cY,Va];exact⟨_,rfl,h4⟩) h3
theorem uU {i:SX} {n sz j:Nat} {o o':kT} (e:Uo i n sz j o=some o'):o'.val=o.val+j*sz:=by
 unfold Uo at e
 split at e
 ·simp at e;subst e;simp[kT.val]
 ·split at e
  ·simp at e;subst e;rw[kT.add_val]
  ·cases e
theorem Tc {n sz:Nat} {isAgg:Bool} {x i:SX} (e:iI cs opn ety icall T st dst (.idxA n sz isAgg x i) k=some r):fG prog opn R T TI c s k r dst (.idxA n sz isAgg x i):=by
 simp only[iI]at e
 obtain⟨a,e1,e'⟩:=aA.1 e
 clear e;have e:=e';clear e'
 obtain⟨b,e2,e'⟩:=aA.1 e
 clear e;have e:=e';clear e'
 obtain⟨ix,h1,h2⟩:=dV g.gf e1
 obtain⟨iy,h3,h4⟩:=dV g.gf e2
 obtain⟨j,h5,e'⟩:=qE h4 e
 clear e;have e:=e';clear e'
 cases a<;>simp only at e<;>try (cases e;done)
 simp only[Va]at h2
 obtain⟨ivs,rfl,h2⟩:=h2
 obtain⟨hj,e'⟩:=dZ.1 e
 clear e;have e:=e';clear e'
 rw[decide_eq_true_eq]at hj
 obtain⟨o,e3,e'⟩:=aA.1 e
 clear e;have e:=e';clear e'
 have ho:=uU g e3
 rw[show (kT.st 0).val=0 from rfl,bV]at ho
 cases isAgg with
 |true=>
  simp only[if_true]at e
  obtain⟨out,h6,h7,h8⟩:=mV h2 e
  rw[ho]at h7 h8
  exact .same g (sv:=.val (.agg _)) (by simp only[aT,h1,h3,h5,aB,if_pos hj,part,if_true,if_pos h8];rfl) (by simp only[cY,Va];exact⟨_,rfl,h7⟩) h6
 |false=>
  simp only[aR,if_false]at e
  obtain⟨out,h6,h7,h8⟩:=mV h2 e
  rw[ho]at h7 h8
  split at h6
  ·split at h6
   ·rename_i v hv
    rw[dB.single]at h7
    obtain⟨iv,h9,_,h10⟩:=(eT hv).1 h7
    have:=Fc h9
    exact .same g (sv:=.val iv) (by simp only[aT,h1,h3,h5,aB,if_pos hj,part,aR,if_false,this]) (show cY c (.val _) (.val _) from h10) h6
   ·cases h6
  ·cases h6
theorem Td {sz:Nat} {x i:SX} (e:iI cs opn ety icall T st dst (.iadr sz x i) k=some r):fG prog opn R T TI c s k r dst (.iadr sz x i):=by
 simp only[iI]at e
 obtain⟨a,e1,e'⟩:=aA.1 e
 clear e;have e:=e';clear e'
 obtain⟨b,e2,e'⟩:=aA.1 e
 clear e;have e:=e';clear e'
 obtain⟨ix,h1,h2⟩:=dV g.gf e1
 obtain⟨iy,h3,h4⟩:=dV g.gf e2
 obtain⟨j,h5,e'⟩:=qE h4 e
 clear e;have e:=e';clear e'
 cases a
 case lst hp ln t l=>
  simp only at e
  split at e
  ·rename_i hsz;subst hsz
   obtain⟨x',e3,e'⟩:=aA.1 e
   clear e;have e:=e';clear e'
   simp only[Va,TR]at h2
   obtain⟨iv,hh,h2⟩:=h2
   simp at hh;subst hh
   rcases h2 with ⟨rfl,_⟩|⟨bo,es,rfl,_,h2⟩|⟨hp',b',tot,off,len,cap,kk,rfl,h6,h7,h8,h9,h2⟩
   ·simp at e3
   ·obtain⟨u,h6,h7⟩:=h2.get e3
    refine .same g (sv:=.val (.rptr bo u 0)) ?_ (by simp only[cY,Va];exact⟨u,iD (h7.flags id (by simp)),.inl ⟨bo,rfl⟩⟩) e
    simp only[aT,h1,h3,h5,aB,h6,(TR.one h7).1,if_true]
   ·obtain⟨u,h10,h11⟩:=h2.get e3
    rw[gW]at h10
    split at h10
    ·rename_i hlt
     rw[gX]at h10
     refine .same g (sv:=.val (.ptr b' tot (off+j) 0)) ?_ (by simp only[cY,Va];exact⟨u,iD (h11.flags id (fun _=>hp')),.inr ⟨hp',b',tot,off+j,kk,rfl,h6,h7,h10⟩⟩) e
     simp only[aT,h1,h3,h5,aB,<-g.h,h7]
     rw[if_pos ⟨h8,hlt,h9.1⟩]
    ·cases h10
  ·cases e
 case own B=>
  simp only at e
  simp only[Va]at h2
  rcases h2.2 with h|⟨wr,hp',ln',t',l',hB,h2⟩
  ·rw[g.H]at h;rw[h]at e;cases e
  ·have hB':=hB
   rw[g.H]at hB;rw[hB]at e;simp only at e
   split at e
   ·rename_i hsz;subst hsz
    obtain⟨hj,e'⟩:=dZ.1 e
    clear e;have e:=e';clear e'
    rw[decide_eq_true_eq]at hj
    have br:=g.gh.blk B _ hB'
    simp only[BR]at br
    replace br:=br.2
    cases hm:c.m B with
    |none=>rw[hm]at br;simp only at br;subst br;simp at hj
    |some b'=>
     rw[hm]at br h2;simp only[fC]at br h2;subst h2
     obtain⟨es,h6,h7⟩:=br
     have hl:=h7.len
     refine .same g (sv:=.val (.ptr b' l'.length (0+j) 0)) ?_ (by simp only[cY,Va];exact⟨rfl,.inr ⟨wr,hp',ln',t',l',b',hB',hm,by simp[kT.val],hj⟩⟩) e
     have:hget c.h b' l'.length=some ⟨t'.n,es⟩:=cZ.2 ⟨h6,hl⟩
     simp only[aT,h1,h3,h5,aB,<-g.h,this]
     rw[if_pos ⟨trivial,hj,by omega⟩]
   ·cases e
 case sub B off len cap=>
  simp only at e
  simp only[Va]at h2
  rcases h2.2 with h|⟨wr,hp',ln',t',l',hB,h2⟩
  ·rw[g.H]at h;rw[h]at e;cases e
  ·have hB':=hB
   rw[g.H]at hB;rw[hB]at e;simp only at e
   split at e
   ·rename_i hsz;subst hsz
    obtain⟨hj,e'⟩:=dZ.1 e
    clear e;have e:=e';clear e'
    rw[decide_eq_true_eq]at hj
    have br:=g.gh.blk B _ hB'
    simp only[BR]at br
    replace br:=br.2
    obtain⟨h2a,h2b,h2⟩:=h2
    cases hm:c.m B with
    |none=>rw[hm]at h2;simp only at h2;omega
    |some b'=>
     rw[hm]at br h2;simp only at br h2;subst h2
     obtain⟨es,h6,h7⟩:=br
     have hl:=h7.len
     refine .same g (sv:=.val (.ptr b' l'.length (off+j) 0)) ?_ (by simp only[cY,Va];exact⟨rfl,.inr ⟨wr,hp',ln',t',l',b',hB',hm,rfl,by omega⟩⟩) e
     have:hget c.h b' l'.length=some ⟨t'.n,es⟩:=cZ.2 ⟨h6,hl⟩
     simp only[aT,h1,h3,h5,aB,<-g.h,this]
     rw[if_pos ⟨trivial,hj⟩]
   ·cases e
 all_goals (simp only at e;cases e)
theorem Pf {n sz:Nat} {x i:SX} (e:iI cs opn ety icall T st dst (.iadrA n sz x i) k=some r):fG prog opn R T TI c s k r dst (.iadrA n sz x i):=by
 simp only[iI]at e
 obtain⟨a,e1,e'⟩:=aA.1 e
 clear e;have e:=e';clear e'
 obtain⟨b,e2,e'⟩:=aA.1 e
 clear e;have e:=e';clear e'
 obtain⟨sv,h1,h2⟩:=kA g.gf e1
 obtain⟨iy,h3,h4⟩:=dV g.gf e2
 obtain⟨j,h5,e'⟩:=qE h4 e
 clear e;have e:=e';clear e'
 obtain⟨hj,e'⟩:=dZ.1 e
 clear e;have e:=e';clear e'
 rw[decide_eq_true_eq]at hj
 split at e
 ·obtain⟨o,e3,e'⟩:=aA.1 e
  clear e;have e:=e';clear e'
  have ho:=uU g e3
  cases sv<;>simp only[cY]at h2
  obtain⟨rfl,rfl⟩:=h2
  exact .same g (sv:=.lptr _ _) (by simp only[aT,h1,h3,h5,aB,if_pos hj];rfl) (by simp[cY,ho]) e
 ·split at e
  ·cases e
  ·rename_i hp
   obtain⟨o,e3,e'⟩:=aA.1 e
   clear e;have e:=e';clear e'
   have ho:=uU g e3
   cases sv<;>simp only[cY,Va]at h2
   obtain⟨ee,hc,⟨bo,rfl⟩|⟨hh,_⟩⟩:=h2
   ·exact .same g (sv:=.val _) (by simp only[aT,h1,h3,h5,aB,if_pos hj];rfl) (by simp only[cY,Va];exact⟨ee,hc,.inl ⟨bo,by rw[ho]⟩⟩) e
   ·exact(hp hh).elim
 ·rename_i B o0
  cases sv<;>simp only[cY,Va]at h2
  rw[<-g.H]at e
  split at e
  next wr cs' hB'=>
   obtain⟨b',hm,rfl⟩:=h2.2.obj hB'
   obtain⟨hw,e'⟩:=dZ.1 e
   clear e;have e:=e';clear e'
   rw[decide_eq_true_eq]at hw
   obtain⟨o,e3,e'⟩:=aA.1 e
   clear e;have e:=e';clear e'
   have ho:=uU g e3
   have br:=g.gh.blk B _ hB'
   simp only[BR]at br
   replace br:=br.2
   obtain⟨b'',hm',ee,h6,hc⟩:=br
   rw[hm]at hm';injection hm' with hm';subst hm'
   have hl:=(dB.len hc).1
   have hg:hget c.h b' 1=some ⟨ee.length,[ee]⟩:=cZ.2 ⟨h6,rfl⟩
   refine .same g (sv:=.val (.ptr b' 1 0 o.val)) ?_ (by simp only[cY,Va];exact⟨rfl,.mk hB' hm⟩) e
   simp only[aT,h1,h3,h5,aB,if_pos hj,<-g.h,hg]
   split
   ·rename_i hc2
    obtain⟨q1,q2,q3,q4⟩:=hc2
    have:j=0:=by omega
    subst this
    rw[ho,q3];simp
   ·rw[if_pos (by rw[hl];exact hw),ho]
  next=>cases e
 ·cases e
theorem Xe {lJ:Bool} {x:SX} (e:iI cs opn ety icall T st dst (.len lJ x) k=some r):fG prog opn R T TI c s k r dst (.len lJ x):=by
 simp only[iI]at e
 obtain⟨a,e1,e'⟩:=aA.1 e
 clear e;have e:=e';clear e'
 obtain⟨ix,h1,h2⟩:=dV g.gf e1
 split at e
 ·simp only[Va]at h2;subst h2
  exact .same g (sv:=.val _) (by simp only[aT,h1,aB];rfl) (by simp[cY,Va]) e
 ·cases e
 ·rename_i a' hns
  obtain⟨n,e2,e'⟩:=aA.1 e
  clear e;have e:=e';clear e'
  have hl:=Eg g.H g.gh.blk h2 e2
  refine .same g (sv:=.val (.int .i64 n)) ?_ (by simp[cY,Va]) e
  simp only[aT,h1,aB]
  cases ix<;>first|(simp only[hl,aB];done)|skip
  exfalso
  cases a
  case str b0=>exact hns b0 rfl
  case nils=>simp only[Va]at h2;rcases h2 with h|h<;>cases h
  case lst hp ln t l0=>
   simp only[Va,TR]at h2
   obtain⟨iv,h,h2⟩:=h2
   simp at h;subst h
   rcases h2 with ⟨_,h|h⟩|⟨_,_,h,_⟩|⟨_,_,_,_,_,_,_,h,_⟩<;>cases h
  case own B=>
   simp only[Va]at h2
   rcases h2.2 with h|⟨_,_,_,_,_,hB,h⟩
   ·rw[g.H]at h;simp only[uV,h]at e2;cases e2
   ·unfold fC at h;split at h
    ·rcases h with h|h<;>cases h
    ·cases h
  case own2 B=>
   simp only[Va,mP]at h2
   simp only[uV]at e2
   rw[<-g.H]at e2
   split at e2
   ·rename_i hB
    rw[hB]at h2
    have h:=h2.2
    simp only at h
    unfold fC at h;split at h
    ·rcases h with h|h<;>cases h
    ·cases h
   ·cases e2
  case kown B=>
   simp only[Va,KownR]at h2
   simp only[uV]at e2
   rw[<-g.H]at e2
   split at e2
   ·rename_i hB
    rw[hB]at h2
    obtain⟨_,_,_,h⟩:=h2
    cases h
   ·cases e2
  case sub B _ _ _=>
   simp only[Va]at h2
   rcases h2.2 with h|⟨_,_,_,_,_,hB,h⟩
   ·rw[g.H]at h;simp only[uV,h]at e2;cases e2
   ·unfold tJ at h;obtain⟨_,_,h⟩:=h;split at h
    ·rcases h.1 with h|h<;>cases h
    ·cases h
  all_goals (simp only[uV]at e2;cases e2)
 ·cases e
theorem Ta {n:Nat} (e:iI cs opn ety icall T st dst (.lenA n) k=some r):fG prog opn R T TI c s k r dst (.lenA n):=by
 simp only[iI]at e
 exact .same g (sv:=.val _) (by simp only[aT];rfl) (by simp[cY,Va]) e
theorem op_mn {x y:SX} (e:iI cs opn ety icall T st dst (.mn x y) k=some r):fG prog opn R T TI c s k r dst (.mn x y):=by
 simp only[iI]at e
 obtain⟨a,e1,e'⟩:=aA.1 e
 clear e;have e:=e';clear e'
 obtain⟨b,e2,e'⟩:=aA.1 e
 clear e;have e:=e';clear e'
 obtain⟨ix,h1,h2⟩:=dV g.gf e1
 obtain⟨iy,h3,h4⟩:=dV g.gf e2
 split at e
 ·simp only[Va]at h2 h4;subst h2;subst h4
  exact .same g (sv:=.val _) (by simp only[aT,h1,h3,aB];rfl) (by simp[cY,Va]) e
 ·cases e
theorem op_mx {x y:SX} (e:iI cs opn ety icall T st dst (.mx x y) k=some r):fG prog opn R T TI c s k r dst (.mx x y):=by
 simp only[iI]at e
 obtain⟨a,e1,e'⟩:=aA.1 e
 clear e;have e:=e';clear e'
 obtain⟨b,e2,e'⟩:=aA.1 e
 clear e;have e:=e';clear e'
 obtain⟨ix,h1,h2⟩:=dV g.gf e1
 obtain⟨iy,h3,h4⟩:=dV g.gf e2
 split at e
 ·simp only[Va]at h2 h4;subst h2;subst h4
  exact .same g (sv:=.val _) (by simp only[aT,h1,h3,aB];rfl) (by simp[cY,Va]) e
 ·cases e
end
end Go.Ideal
