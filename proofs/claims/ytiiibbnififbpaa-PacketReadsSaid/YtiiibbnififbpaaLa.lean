/- A small language of resolved operations over values without addresses, and what it gives (an evaluator). -/
import GoSem.Step
import Derived.Laws.Sem
import Derived.Laws.Cells
import Derived.Laws.Entries
import Derived.Laws.World
import Derived.Laws.RangeString
import Derived.Laws.Tables
import Derived.Laws.StructEq
import Derived.Laws.Slices
import Derived.Laws.Build
import Derived.Laws.BytesString
import Derived.Laws.Append
import Derived.Laws.Strings
set_option linter.unusedVariables false
set_option linter.unusedSimpArgs false
namespace Go.Ideal
abbrev aB:=@Option.bind_some
abbrev aD:=@Option.some.injEq
abbrev aE:=@List.mem_append
abbrev aF:=@Bool.and_eq_true
abbrev aG:=@List.getElem?_eq_getElem
abbrev aH:=@Result.andThen_ok
abbrev aJ:=@List.getElem?_eq_some_iff
abbrev aK:=@Nat.le_refl
abbrev aL:=@List.mem_of_getElem?
abbrev aM:=@Prod.mk.injEq
abbrev aO:=@Sem.run_bind
abbrev aP:=@Int.toNat_natCast
abbrev aQ:=@List.mem_cons
abbrev aR:=@Bool.false_eq_true
abbrev aU:=@Sem.run_pure
abbrev aV:=@List.length_append
abbrev aX:=@List.getD_eq_getElem?_getD
abbrev aY:=@Int.natCast_nonneg
abbrev aZ:=@Option.map_eq_some_iff
abbrev bA:=@List.append_nil
abbrev bB:=@Nat.mul_le_mul_right
abbrev bC:=@List.getElem?_append_left
abbrev bE:=@List.all_eq_true
abbrev bH:=@List.getElem_mem
abbrev bI:=@List.mem_map
abbrev bK:=@List.length_eq_zero_iff
abbrev bM:=@Nat.lt_of_lt_of_le
abbrev bN:=@List.mem_of_mem_take
abbrev bO:=@Array.getElem?_setIfInBounds
abbrev bP:=@List.length_take
abbrev bQ:=@List.append_assoc
abbrev bT:=@List.mem_cons_of_mem
abbrev bU:=@List.take_of_length_le
abbrev bV:=@Nat.zero_add
abbrev bW:=@List.length_drop
abbrev bZ:=@List.nil_append
abbrev cA:=@List.eq_of_mem_replicate
abbrev cB:=@List.flatten_cons
abbrev cC:=@List.any_eq_false
abbrev cE:=@List.mem_cons_self
abbrev cG:=@List.cons_append
abbrev cJ:=@Nat.add_mul
abbrev cK:=@Option.map_some
abbrev cM:=@List.drop_drop
abbrev cN:=@List.singleton_append
abbrev cP:=@Bool.not_true
abbrev cQ:=@Nat.le_trans
abbrev cR:=@Array.toList_inj
abbrev cT:=@List.nodup_cons
abbrev cU:=@List.mem_of_mem_drop
abbrev cV:=@Bool.or_eq_true
abbrev dA:=@Array.getD_eq_getD_getElem?
abbrev dD:=@Option.isSome_iff_exists
abbrev dG:=@List.take_append_of_le_length
abbrev dH:=@List.eq_nil_of_length_eq_zero
abbrev dN:=@List.drop_of_length_le
abbrev dQ:=@List.mem_iff_getElem
abbrev dS:=@List.mem_flatMap
abbrev dT:=@Bool.not_eq_true
abbrev dU:=@Bool.not_eq_true'
abbrev dX:=@Option.toList_some
abbrev dY:=@Array.getElem?_eq_some_iff
abbrev eA:=@List.length_replicate
abbrev eE:=@List.length_cons
abbrev eF:=@Nat.succ_mul
abbrev eG:=@List.flatMap_cons
abbrev eI:=@List.mem_singleton
abbrev eM:=@Option.bind_eq_some_iff
abbrev eN:=@Nat.mod_two_eq_zero_or_one
abbrev eO:=@List.drop_zero
abbrev eP:=@Bool.not_false
abbrev eQ:=@List.getElem?_set
abbrev eR:=@List.getElem?_append
abbrev eV:=@List.length_set
abbrev eW:=@Nat.add_assoc
abbrev eX:=@List.take_length
abbrev eY:=@List.mem_flatten
abbrev eZ:=@List.map_cons
abbrev fD:=@List.nodup_append
abbrev fH:=@List.getElem?_append_right
abbrev fN:=@List.length_pos_iff
abbrev fO:=@Nat.zero_le
abbrev fX:=@Int.eq_ofNat_of_zero_le
abbrev gD:=@List.all_cons
abbrev gG:=@Int.tmod_eq_emod_of_nonneg
abbrev gH:=@Int.tdiv_eq_ediv_of_nonneg
abbrev gO:=@List.drop_eq_getElem_cons
abbrev gR:=@List.take_append_drop
abbrev gS:=@List.length_singleton
abbrev gT:=@List.getElem?_eq_none
abbrev gW:=@List.getElem?_take
abbrev gX:=@List.getElem?_drop
abbrev gY:=@BitVec.toNat_ofNat
abbrev hJ:=@Nat.sub_zero
abbrev hU:=@List.drop_append_of_le_length
abbrev iA:=@List.contains_eq_mem
abbrev iB:=@Bool.or_eq_false_iff
abbrev iK:=@Nat.min_eq_left
abbrev iL:=@List.length_nil
abbrev iQ:=@Nat.lt_or_ge
abbrev iR:=@Nat.add_zero
abbrev iS:=@List.length_eq_one_iff
abbrev iU:=@Nat.mod_eq_of_lt
abbrev iZ:=@List.mem_filterMap
abbrev jA:=@Array.getElem?_append_left
abbrev jB:=@List.Perm.append_left
abbrev jL:=@List.mem_or_eq_of_mem_set
abbrev jX:=@Array.size_setIfInBounds
abbrev kC:=@Option.getD_some
abbrev kD:=@List.getElem?_replicate
abbrev kE:=@List.getElem?_cons_succ
abbrev kF:=@List.any_eq_true
abbrev kM:=@Nat.one_mul
abbrev kZ:=@List.foldl_cons
abbrev lA:=@Bool.false_or
abbrev lF:=@Nat.eq_of_beq_eq_true
abbrev lG:=@List.set_getElem_self
abbrev lH:=@List.set_append_right
abbrev mG:=@Option.isNone_iff_eq_none
abbrev mH:=@Array.getElem?_eq_getElem
abbrev mM:=@List.flatten_append
abbrev nE:=@List.mem_filter
abbrev nZ:=@Option.orElse_none
abbrev oA:=@Nat.xor_lt_two_pow
abbrev oB:=@Array.ext_getElem?
abbrev oD:=@Nat.le_mul_of_pos_right
abbrev oE:=@List.getElem?_cons_zero
abbrev oH:=@List.set_eq_take_append_cons_drop
abbrev oW:=@Nat.succ_le_of_lt
abbrev oX:=@List.take_take
abbrev oY:=@List.getElem?_set_self
abbrev oZ:=@List.append_eq_nil_iff
abbrev pM:=@List.mem_append_right
abbrev pN:=@List.contains_iff_mem
abbrev qI:=@Bool.cond_eq_ite
abbrev sH:=@Nat.mul_le_mul_left
abbrev sI:=@List.replicate_succ
abbrev sJ:=@Array.length_toList
abbrev tK:=@Option.ne_none_iff_exists'
abbrev tL:=@List.mapM_cons
abbrev vE:=@List.extract_eq_take_drop
abbrev vF:=@List.exists_mem_of_ne_nil
abbrev vH:=@Int.emod_eq_of_lt
abbrev wI:=@Nat.xor_assoc
abbrev wJ:=@List.take_add
abbrev wZ:=@Nat.le_max_right
abbrev Af:=@Nat.mul_comm
abbrev Ag:=@Int.pow_succ
abbrev Aj:=@Array.getElem?_eq_none
abbrev Ak:=@Nat.le_max_left
abbrev Al:=@Nat.div_add_mod
abbrev Am:=@List.map_append
abbrev An:=@List.length_map
abbrev Ao:=@Int.natCast_mul
abbrev Ax:=@Nat.div_lt_iff_lt_mul
abbrev Ay:=@Array.getElem?_modify
abbrev Ep:=@List.range_eq_range'
abbrev Eq:=@List.pairwise_append
abbrev Er:=@List.mem_append_left
abbrev Hi:=@List.replicate_zero
abbrev Hl:=@Array.getElem?_push
abbrev Hm:=@Bool.and_true
abbrev Jg:=@Option.isNone_some
abbrev Jh:=@Int.lt_of_le_of_lt
abbrev Ji:=@Array.ext'
abbrev Nj:=@Nat.zero_mul
abbrev Nk:=@List.size_toArray
abbrev Nl:=@List.map_nil
abbrev Nm:=@List.getElem?_map
abbrev Nn:=@List.foldl_append
abbrev Np:=@Bool.or_true
abbrev Ro:=@Nat.min_eq_right
abbrev Rp:=@List.not_mem_nil
abbrev Rq:=@List.isEmpty_iff
abbrev Rs:=@List.filter_cons
abbrev Ru:=@List.eq_nil_iff_forall_not_mem
abbrev Yi:=@Nat.shiftRight_xor_distrib
abbrev Yj:=@List.take_zero
abbrev Yt:=@Nat.shiftRight_eq_div_pow
abbrev Yu:=@List.getElem?_zip_eq_some
inductive IV where
 |bool (b:Bool)
 |int (k:IntKind) (n:Int)
 |str (s:List UInt8)
 |nilp
 |ptr (b tot i off:Nat)
 |rptr (bor:Bool) (e:List IV) (off:Nat)
 |nils
 |sl (b tot off len cap:Nat)
 |ro (bor:Bool) (es:List (List IV))
  |lit (es:List (List IV))
 |esl
 |agg (cs:List IV)
 |tup (vs:List IV)
 |iface (t:Nat) (v:IV)
 |nili
 |fn (f:Fn) (first captured:List IV)
 |nilf
  |mark
 deriving Inhabited
mutual
def IV.beq:IV->IV->Bool
 |.bool a,.bool b=>a==b
 |.int k a,.int l b=>decide (k=l)&&a==b
 |.str a,.str b=>a==b
 |.nilp,.nilp=>true
 |.ptr a b c d,.ptr a' b' c' d'=>a==a'&&b==b'&&c==c'&&d==d'
 |.rptr a e o,.rptr a' e' o'=>a==a'&&IV.beqL e e'&&o==o'
 |.nils,.nils=>true
 |.sl a b c d e,.sl a' b' c' d' e'=>a==a'&&b==b'&&c==c'&&d==d'&&e==e'
 |.ro a e,.ro a' e'=>a==a'&&IV.beqLL e e'
 |.lit e,.lit e'=>IV.beqLL e e'
 |.esl,.esl=>true
 |.agg a,.agg b=>IV.beqL a b
 |.tup a,.tup b=>IV.beqL a b
 |.iface t v,.iface t' v'=>t==t'&&IV.beq v v'
 |.nili,.nili=>true
 |.fn f a b,.fn f' a' b'=>decide (f=f')&&IV.beqL a a'&&IV.beqL b b'
 |.nilf,.nilf=>true
 |.mark,.mark=>true
 |_,_=>false
def IV.beqL:List IV->List IV->Bool
 |[],[]=>true
 |x::xs,y::ys=>IV.beq x y&&IV.beqL xs ys
 |_,_=>false
def IV.beqLL:List (List IV)->List (List IV)->Bool
 |[],[]=>true
 |x::xs,y::ys=>IV.beqL x y&&IV.beqLL xs ys
 |_,_=>false
end
mutual
theorem IV.beq_eq:∀x y:IV,IV.beq x y=true↔x=y:=by
 intro x y
 cases x<;>cases y<;>simp[IV.beq,IV.beqL_eq,IV.beqLL_eq,IV.beq_eq,and_assoc]
theorem IV.beqL_eq:∀x y:List IV,IV.beqL x y=true↔x=y
 |[],[]=>by simp[IV.beqL]
 |[],_::_=>by simp[IV.beqL]
 |_::_,[]=>by simp[IV.beqL]
 |x::xs,y::ys=>by simp[IV.beqL,IV.beq_eq x y,IV.beqL_eq xs ys]
theorem IV.beqLL_eq:∀x y:List (List IV),IV.beqLL x y=true↔x=y
 |[],[]=>by simp[IV.beqLL]
 |[],_::_=>by simp[IV.beqLL]
 |_::_,[]=>by simp[IV.beqLL]
 |x::xs,y::ys=>by simp[IV.beqLL,IV.beqL_eq x y,IV.beqLL_eq xs ys]
end
instance:DecidableEq IV:=fun x y=>if h:IV.beq x y=true then .isTrue ((IV.beq_eq x y).1 h) else .isFalse (fun e=>h ((IV.beq_eq x y).2 e))
mutual
def IV.own:IV->Bool
 |.ptr ..=>true
 |.sl ..=>true
 |.lit _=>true
 |.agg cs=>IV.ownL cs
 |.tup cs=>IV.ownL cs
 |.iface _ v=>v.own
 |.fn _ a b=>IV.ownL a||IV.ownL b
 |_=>false
def IV.ownL:List IV->Bool
 |[]=>false
 |x::xs=>x.own||IV.ownL xs
end
mutual
def IV.lent:IV->Bool
 |.rptr b e _=>b||IV.lentL e
 |.ro b es=>b||IV.lentLL es
 |.agg cs=>IV.lentL cs
 |.tup cs=>IV.lentL cs
 |.iface _ v=>v.lent
 |.fn _ a b=>IV.lentL a||IV.lentL b
 |_=>false
def IV.lentL:List IV->Bool
 |[]=>false
 |x::xs=>x.lent||IV.lentL xs
def IV.lentLL:List (List IV)->Bool
 |[]=>false
 |x::xs=>IV.lentL x||IV.lentLL xs
end
mutual
def IV.lend:IV->IV
 |.rptr _ e o=>.rptr true (IV.lendL e) o
 |.ro _ es=>.ro true (IV.lendLL es)
 |.agg cs=>.agg (IV.lendL cs)
 |.tup cs=>.tup (IV.lendL cs)
 |.iface t v=>.iface t v.lend
 |.fn f a b=>.fn f (IV.lendL a) (IV.lendL b)
 |v=>v
def IV.lendL:List IV->List IV
 |[]=>[]
 |x::xs=>x.lend::IV.lendL xs
def IV.lendLL:List (List IV)->List (List IV)
 |[]=>[]
 |x::xs=>IV.lendL x::IV.lendLL xs
end
theorem IV.ownL_eq (l:List IV):IV.ownL l=l.any IV.own:=by induction l<;>simp[IV.ownL, *]
theorem IV.lentL_eq (l:List IV):IV.lentL l=l.any IV.lent:=by induction l<;>simp[IV.lentL, *]
theorem IV.lentLL_eq (l:List (List IV)):IV.lentLL l=l.any (·.any IV.lent):=by induction l<;>simp[IV.lentLL,IV.lentL_eq, *]
theorem IV.lendL_eq (l:List IV):IV.lendL l=l.map IV.lend:=by induction l<;>simp[IV.lendL, *]
theorem IV.lendLL_eq (l:List (List IV)):IV.lendLL l=l.map (·.map IV.lend):=by induction l<;>simp[IV.lendLL,IV.lendL_eq, *]
def dM {α β:Type} (f:α->Option β):List α->Option (List β)
 |[]=>some []
 |x::xs=>(f x).bind fun y=>(dM f xs).bind fun ys=>some (y::ys)
structure mQ where
 sz:Nat
 es:List (List IV)
abbrev aN:=List (Option mQ)
def hget (h:aN) (b tot:Nat):Option mQ:=
 match h[b]? with
 |some (some k)=>if k.es.length=tot then some k else none
 |_=>none
def fz (h:aN):Nat->IV->Option IV
 |0,v=>if v.own then none else some v
 |d+1,v=>if v.own then
   match v with
   |.ptr b tot i off=>(hget h b tot).bind fun k=>(k.es[i]?).bind fun e=>(dM (fz h d) e).bind fun e'=>some (.rptr false e' off)
   |.sl b tot off len _=>(hget h b tot).bind fun k=>if off+len≤tot then (dM (dM (fz h d)) ((k.es.drop off).take len)).bind fun es=>some (.ro false es) else none
   |.agg cs=>(dM (fz h d) cs).bind fun cs=>some (.agg cs)
   |.tup cs=>(dM (fz h d) cs).bind fun cs=>some (.tup cs)
   |.iface t v=>(fz h d v).bind fun v=>some (.iface t v)
   |.fn f a b=>(dM (fz h d) a).bind fun a=>(dM (fz h d) b).bind fun b=>some (.fn f a b)
   |_=>none
  else some v
def depth:Nat:=20
inductive SV where
 |val (v:IV)
 |box (cs:List IV)
 |lptr (slot off:Nat)
 deriving Inhabited
abbrev Fr:=List (Nat×SV)
def Fr.get:Fr->Nat->Option SV
 |[],_=>none
 |(k,v)::r,t=>if k=t then some v else Fr.get r t
def Fr.put (σ:Fr) (t:Nat) (v:SV):Fr:=(t,v)::σ
def Fr.keep (σ:Fr):List Nat->Fr
 |[]=>[]
 |t::ts=>match σ.get t with
  |some (.val v)=>(t,.val v)::σ.keep ts
  |some (.box cs)=>(t,.box cs)::σ.keep ts
  |_=>σ.keep ts
abbrev St:=Fr×aN
inductive SX where
 |t (n:Nat)
 |c (v:IV)
 |f (id:Nat)
 deriving Inhabited
def SX.ev (σ:Fr):SX->Option SV
 |.t n=>match σ.get n with
  |some (.box _)=>some (.lptr n 0)
  |r=>r
 |.c v=>some (.val v)
 |.f id=>some (.val (.fn (.func id) [] []))
def SX.val (σ:Fr) (x:SX):Option IV:=
 match x.ev σ with
 |some (.val v)=>some v
 |_=>none
inductive LK where
 |i (k:IntKind)
 |b
 |s
inductive ET where
 |leaf (k:LK)
 |cells (ks:List LK)
 |ptr
 |sl
 |fnc
inductive gQ where
 |mov (x:SX)
 |pick (c a b:SX)
 |alloc (loc:Bool) (sz:Nat) (z:List (List IV))
 |box (loc:Bool) (x:SX)
 |boxA (x:SX)
 |build (z:List IV) (ps:List (Nat×Nat×SX))
 |bsl (own:Bool) (sz:Nat) (z:List IV) (len:Nat) (ps:List (Nat×SX))
 |load (n:Option Nat) (x:SX)
 |store (n:Nat) (a x:SX)
 |nilc (x:SX)
 |bin (op:BinOp) (x y:SX)
 |eq (neg:Bool) (t:ET) (x y:SX)
 |un (op:UnOp) (x:SX)
 |cvI (k:IntKind) (x:SX)
 |cvSB (own:Bool) (x:SX)
 |cvBS (x:SX)
 |cvLL (x:SX)
 |cvIS (x:SX)
 |cvSS (x:SX)
 |mkI (t:Nat) (x:SX)
 |mkF (f:Fn) (a b:List SX)
 |mks (sz:Nat) (z:List IV) (bytes:Nat) (len cap:SX)
 |slS (x:SX) (lo hi:Option SX)
 |slL (sz:Nat) (x:SX) (lo hi mx:Option SX)
 |slA (n sz:Nat) (x:SX) (lo hi:Option SX)
 |fadr (off:Nat) (x:SX)
 |fld (off:Nat) (n:Option Nat) (x:SX)
 |iadr (sz:Nat) (x i:SX)
 |iadrA (n sz:Nat) (x i:SX)
 |idxS (x i:SX)
 |idxA (n sz:Nat) (isAgg:Bool) (x i:SX)
 |ext (x:SX) (i:Nat)
 |call (f:Nat) (args:List SX)
  |callc (f:Nat) (args:List SX)
 |callv (f:SX) (args:List SX)
  |callm (tab:List (Nat×Nat×Option (Nat×Nat))) (x:SX) (args:List SX)
  |asrt (ok:Bool) (t:Nat) (ag:Bool) (z:List IV) (x:SX)
 |app (sz bytes:Nat) (x y:SX)
  |appz (sz bytes:Nat) (z:List IV) (x n:SX)
 |cpy (sz:Nat) (x y:SX)
 |clr (sz:Nat) (z:List IV) (x:SX)
 |len (lJ:Bool) (x:SX)
 |lenA (n:Nat)
 |cap (x:SX)
 |mn (x y:SX)
 |mx (x y:SX)
  |range (x:SX)
 |next (x:SX)
  |bad
 deriving Inhabited
structure cH where
 ix:Nat
 g:Option (Nat×Bool)
 dst:Option Nat
 op:gQ
 deriving Inhabited
structure DB where
 w:cH
 cs:List cH
 qs:List cH
 deriving Inhabited
inductive Rm where
 |ins (sz bytes:Nat)
 deriving DecidableEq,Inhabited
inductive dJ where
 |prim (p:Rm)
 |skip
 |reg (its:List cH) (live:List Nat)
 |drw (q0:List cH) (bs:List DB) (live:List Nat)
 |seq (a b:dJ)
 |cond (c:SX) (a b:dJ)
 |block (id:Nat) (c:dJ)
 |loop (c:dJ)
 |exit (id:Nat)
 |ret
 |bad
 deriving Inhabited
inductive RV where
 |tmp (t:Nat)
 |cell (t:Nat) (n:Option Nat)
structure mO where
 np:Nat
 res:List RV
 body:dJ
inductive Ex where
 |normal
 |exit (id:Nat)
 |ret
 deriving DecidableEq
def kInt (k:IntKind) (n:Int):Option SV:=some (.val (.int k n))
def mX (op:BinOp) (k:IntKind) (a b:Int):Option IV:=
 match op with
 |.add=>some (.int k (k.wrap (a+b)))
 |.sub=>some (.int k (k.wrap (a-b)))
 |.mul=>some (.int k (k.wrap (a*b)))
 |.quo=>if b=0 then none else some (.int k (k.wrap (a.tdiv b)))
 |.rem=>if b=0 then none else some (.int k (a.tmod b))
 |.and=>some (.int k (k.wrap (BitVec.ofInt k.bits a&&&BitVec.ofInt k.bits b).toNat))
 |.or=>some (.int k (k.wrap (BitVec.ofInt k.bits a|||BitVec.ofInt k.bits b).toNat))
 |.xor=>some (.int k (k.wrap (BitVec.ofInt k.bits a ^^^ BitVec.ofInt k.bits b).toNat))
 |.andNot=>some (.int k (k.wrap (BitVec.ofInt k.bits a&&&~~~ BitVec.ofInt k.bits b).toNat))
 |.shl=>if b<0 then none else some (.int k (k.wrap (a*2^min b.toNat k.bits)))
 |.shr=>if b<0 then none else some (.int k (a.fdiv (2^min b.toNat k.bits)))
 |.eql=>some (.bool (a==b))
 |.neq=>some (.bool (a != b))
 |.lss=>some (.bool (a<b))
 |.leq=>some (.bool (a≤b))
 |.gtr=>some (.bool (a>b))
 |.geq=>some (.bool (a≥b))
def fW:BinOp->Bool
 |.shl=>true
 |.shr=>true
 |_=>false
def Ul (op:BinOp) (a b:List UInt8):Option IV:=
 match op with
 |.add=>if ((a.length+b.length:Nat):Int)>IntKind.i64.max then none else some (.str (a++b))
 |.eql=>some (.bool (a==b))
 |.neq=>some (.bool (!(a==b)))
 |.lss=>some (.bool (Op.bytesLess a b))
 |.leq=>some (.bool (Op.bytesLess a b||a==b))
 |.gtr=>some (.bool (!(Op.bytesLess a b||a==b)))
 |.geq=>some (.bool (!Op.bytesLess a b))
 |_=>none
def bin (op:BinOp) (x y:IV):Option IV:=
 match x,y with
 |.int k a,.int l b=>if fW op||decide (k=l) then mX op k a b else none
 |.str a,.str b=>Ul op a b
 |_,_=>none
def un (op:UnOp) (x:IV):Option IV:=
 match op,x with
 |.neg,.int k n=>mX .sub k 0 n
 |.xor,.int k n=>mX .xor k (if k.signed then -1 else k.max) n
 |.not,.bool b=>some (.bool (!b))
 |_,_=>none
def Xw:LK->IV->IV->Option Bool
 |.i k,.int l a,.int m b=>if k=l/\k=m then some (a==b) else none
 |.b,.bool a,.bool b=>some (a==b)
 |.s,.str a,.str b=>some (a==b)
 |_,_,_=>none
def eqC:List LK->List IV->List IV->Option Bool
 |[],[],[]=>some true
 |k::ks,x::xs,y::ys=>(Xw k x y).bind fun a=>(eqC ks xs ys).bind fun b=>some (a&&b)
 |_,_,_=>none
def Qm (t:ET) (x y:SV):Option Bool:=
 match t,x,y with
 |.leaf k,.val x,.val y=>Xw k x y
 |.cells ks,.val (.agg xs),.val (.agg ys)=>eqC ks xs ys
 |.ptr,.val .nilp,.val .nilp=>some true
 |.ptr,.val .nilp,.val (.ptr ..)=>some false
 |.ptr,.val .nilp,.val (.rptr ..)=>some false
 |.ptr,.val .nilp,.lptr ..=>some false
 |.ptr,.val (.ptr ..),.val .nilp=>some false
 |.ptr,.val (.rptr ..),.val .nilp=>some false
 |.ptr,.lptr ..,.val .nilp=>some false
 |.sl,.val .nils,.val .nils=>some true
 |.sl,.val .nils,.val (.sl ..)=>some false
 |.sl,.val .nils,.val (.ro ..)=>some false
 |.sl,.val .nils,.val .esl=>some false
 |.sl,.val (.sl ..),.val .nils=>some false
 |.sl,.val (.ro ..),.val .nils=>some false
 |.sl,.val .esl,.val .nils=>some false
 |.fnc,.val .nilf,.val .nilf=>some true
 |.fnc,.val .nilf,.val (.fn ..)=>some false
 |.fnc,.val (.fn ..),.val .nilf=>some false
 |_,_,_=>none
def IV.one:IV->Bool
 |.agg _=>false
 |.tup _=>false
 |_=>true
def IV.flat:IV->Option (List IV)
 |.agg cs=>some cs
 |.tup _=>none
 |v=>some [v]
def eH (cs:List IV) (off:Nat) (ps:List IV):List IV:=cs.take off++ps++cs.drop (off+ps.length)
def qJ (σ:Fr) (cs:List IV):List (Nat×Nat×SX)->Option (List IV)
 |[]=>some cs
 |(off,n,x)::r=>(x.val σ).bind fun v=>v.flat.bind fun vs=>if vs.length=n/\off+n≤cs.length then qJ σ (eH cs off vs) r else none
def lD (σ:Fr) (sz:Nat) (es:List (List IV)):List (Nat×SX)->Option (List (List IV))
 |[]=>some es
 |(i,x)::r=>(x.val σ).bind fun v=>v.flat.bind fun vs=>if vs.length=sz/\i<es.length then lD σ sz (es.set i vs) r else none
def part (cs:List IV) (off:Nat):Option Nat->Option IV
 |none=>cs[off]?
 |some n=>if off+n≤cs.length then some (.agg ((cs.drop off).take n)) else none
def selOf:Option (Nat×Nat)->IV->Option IV
 |none,v=>some v
 |some (off,n),.agg cs=>part cs off (some n)
 |_,_=>none
def zVal (ag:Bool) (z:List IV):Option IV:=if ag then some (.agg z) else match z with
 |[c]=>some c
 |_=>none
def Ts:List IV->Bool
 |.mark::_=>true
 |_=>false
def eS (s:St) (x:SV) (n:Nat):Option (List IV):=
 match x with
 |.val (.rptr _ e off)=>if off+n≤e.length then some ((e.drop off).take n) else none
 |.val (.ptr b tot i off)=>(hget s.2 b tot).bind fun k=>(k.es[i]?).bind fun e=>
   if off+n≤e.length then some ((e.drop off).take n)
   else if off=0/\k.sz=1/\i+n≤tot then some ((k.es.drop i).take n).flatten else none
 |.lptr t off=>match s.1.get t with
  |some (.box cs)=>if off+n≤cs.length/\Ts cs=false then some ((cs.drop off).take n) else none
  |_=>none
 |_=>none
def xD (es:List (List IV)) (i:Nat) (vs:List IV):List (List IV):=es.take i++vs.map (fun v=>[v])++es.drop (i+vs.length)
def storeAt (s:St) (x:SV) (vs:List IV):Option St:=
 match x with
 |.val (.ptr b tot i off)=>(hget s.2 b tot).bind fun k=>(k.es[i]?).bind fun e=>
   if off+vs.length≤e.length then some (s.1,s.2.set b (some ⟨k.sz,k.es.set i (eH e off vs)⟩))
   else if off=0/\k.sz=1/\i+vs.length≤tot then some (s.1,s.2.set b (some ⟨k.sz,xD k.es i vs⟩)) else none
 |.lptr t off=>match s.1.get t with
  |some (.box cs)=>if off+vs.length≤cs.length/\Ts cs=false then some (s.1.put t (.box (eH cs off vs)),s.2) else none
  |_=>none
 |_=>none
def lenOf:IV->Option Nat
 |.nils=>some 0
 |.esl=>some 0
 |.ro _ es=>some es.length
 |.lit es=>some es.length
 |.sl _ _ _ len _=>some len
 |.str s=>some s.length
 |_=>none
def fF (h:aN) (sz:Nat):IV->Option (List (List IV))
 |.nils=>some []
 |.esl=>some []
 |.ro _ es=>if es.all (·.length=sz) then some es else none
 |.lit es=>if es.all (·.length=sz) then some es else none
 |.sl b tot off len _=>(hget h b tot).bind fun k=>if k.sz=sz/\off+len≤tot then some ((k.es.drop off).take len) else none
 |.str s=>if sz=1 then some (s.map fun b=>[.int .u8 b.toNat]) else none
 |_=>none
def bY:Nat:=2^44
def nF (b:List UInt8) (i:Nat):Nat×Nat:=Utf8.decode ⟨b.toArray⟩ i
def Ig:Option SV->Option (List UInt8×Nat)
 |some (.box [.mark,.str b,.int .i64 n])=>if 0≤n then some (b,n.toNat) else none
 |_=>none
def append (h:aN) (sz bytes:Nat) (x y:IV):Option (IV×aN):=
 (fF h sz y).bind fun new=>
   if sz=0 then none else
   match x with
   |.nils=>if new=[] then some (x,h) else if new.length*(bytes+1)≤bY then some (.sl h.length new.length 0 new.length new.length,h++[some ⟨sz,new⟩]) else none
   |.esl=>if new=[] then some (x,h) else if new.length*(bytes+1)≤bY then some (.sl h.length new.length 0 new.length new.length,h++[some ⟨sz,new⟩]) else none
   |.sl b tot off len cap=>(hget h b tot).bind fun k=>
    if k.sz=sz/\len≤cap/\off+cap≤tot then
     if new=[] then some (x,h)
     else if len+new.length≤cap then some (.sl b tot off (len+new.length) cap,h.set b (some ⟨sz,k.es.take (off+len)++new++k.es.drop (off+len+new.length)⟩))
     else if (len+new.length)*(bytes+1)≤bY then
      if off+cap=tot/\off=0 then some (.sl b (len+new.length) 0 (len+new.length) (len+new.length),h.set b (some ⟨sz,k.es.take len++new⟩))
      else none
     else none
    else none
   |.ro _ es=>if new=[]/\es.all (·.length=sz) then some (x,h) else none
   |.lit es=>if new=[] then some (x,h) else if es.all (·.length=sz)=true/\(es.length+new.length)*(bytes+1)≤bY then some (.sl h.length (es.length+new.length) 0 (es.length+new.length) (es.length+new.length),h++[some ⟨sz,es++new⟩]) else none
   |_=>none
def copy (h:aN) (sz:Nat) (x y:IV):Option (Nat×aN):=
 (fF h sz y).bind fun src=>
   match x with
   |.nils=>some (0,h)
   |.esl=>some (0,h)
   |.sl b tot off len _=>(hget h b tot).bind fun k=>
    if k.sz=sz/\off+len≤tot/\0<sz then
     some (min src.length len,h.set b (some ⟨sz,k.es.take off++src.take (min src.length len)++k.es.drop (off+min src.length len)⟩))
    else none
   |_=>none
def kB:IV->Option Nat
 |.int _ n=>if 0≤n then some n.toNat else none
 |_=>none
def fQ (σ:Fr):Option SX->Nat->Option Nat
 |none,d=>some d
 |some x,_=>(x.val σ).bind kB
def bF (σ:Fr) (t:Nat):Bool:=match σ.get t with
 |some (.box _)=>false
 |_=>true
section
variable (call:Nat->List IV->aN->Option (IV×aN)) (opn:Nat->Bool)
def Jk (h:aN) (args:List IV):Option (List IV):=(dM (fz h depth) args).bind fun l=>some (l.map IV.lend)
def iX (f:Nat) (args:List IV) (h:aN):Option (IV×aN):=
 if opn f then call f args h
 else if args.any IV.own then
  (Jk h args).bind fun args'=>(call f args' []).bind fun r=>(fz r.2 depth r.1).bind fun v=>if v.lent then none else some (v,h)
 else (call f args []).bind fun r=>(fz r.2 depth r.1).bind fun v=>some (v,h)
def jK (σ:Fr) (xs:List SX):Option (List IV):=dM (fun x=>SX.val σ x) xs
def aT (dst:Option Nat) (o:gQ) (s:St):Option (SV×St):=
 match o with
 |.mov x=>(x.ev s.1).bind fun v=>some (v,s)
 |.pick c a b=>(c.val s.1).bind fun c=>match c with
  |.bool true=>(a.val s.1).bind fun v=>some (.val v,s)
  |.bool false=>(b.val s.1).bind fun v=>some (.val v,s)
  |_=>none
 |.alloc loc sz z=>if loc then (match dst,z with
   |some t,[e]=>if bF s.1 t then some (.box e,s) else none
   |_,_=>none)
  else if z.all (·.length=sz)/\0<sz then some (.val (.ptr s.2.length z.length 0 0),(s.1,s.2++[some ⟨sz,z⟩])) else none
 |.box loc x=>(x.val s.1).bind fun v=>v.flat.bind fun vs=>if loc then (match dst with
   |some t=>if bF s.1 t then some (.box vs,s) else none
   |none=>none)
  else if 0<vs.length then some (.val (.ptr s.2.length 1 0 0),(s.1,s.2++[some ⟨vs.length,[vs]⟩])) else none
 |.boxA x=>(x.val s.1).bind fun v=>v.flat.bind fun vs=>
   some (.val (.ptr s.2.length vs.length 0 0),(s.1,s.2++[some ⟨1,vs.map (fun c=>[c])⟩]))
 |.build z ps=>(qJ s.1 z ps).bind fun cs=>some (.val (.agg cs),s)
 |.bsl own sz z len ps=>if z.length=sz/\0<sz/\len*sz≤16777216 then (lD s.1 sz (List.replicate len z) ps).bind fun es=>
   if own then some (.val (.sl s.2.length len 0 len len),(s.1,s.2++[some ⟨sz,es⟩]))
   else if IV.ownL es.flatten then some (.val (.lit es),s) else some (.val (.ro false es),s)
  else none
 |.load n x=>(x.ev s.1).bind fun a=>match n with
  |none=>(eS s a 1).bind fun cs=>match cs with
   |[v]=>some (.val v,s)
   |_=>none
  |some n=>(eS s a n).bind fun cs=>some (.val (.agg cs),s)
 |.store n a x=>(a.ev s.1).bind fun a=>(x.val s.1).bind fun v=>v.flat.bind fun vs=>if vs.length=n then (storeAt s a vs).bind fun s=>some (.val (.tup []),s) else none
 |.nilc x=>(x.ev s.1).bind fun v=>match v with
  |.lptr ..=>some (v,s)
  |.val (.ptr ..)=>some (v,s)
  |.val (.rptr ..)=>some (v,s)
  |_=>none
 |.bin op x y=>(x.val s.1).bind fun a=>(y.val s.1).bind fun b=>(bin op a b).bind fun v=>some (.val v,s)
 |.eq neg t x y=>(x.ev s.1).bind fun a=>(y.ev s.1).bind fun b=>(Qm t a b).bind fun r=>some (.val (.bool (if neg then !r else r)),s)
 |.un op x=>(x.val s.1).bind fun a=>(un op a).bind fun v=>some (.val v,s)
 |.cvI k x=>(x.val s.1).bind fun a=>match a with
  |.int _ n=>some (.val (.int k (k.wrap n)),s)
  |_=>none
 |.cvSB own x=>(x.val s.1).bind fun a=>match a with
  |.str b=>if bY<b.length then none else if own then some (.val (.sl s.2.length b.length 0 b.length b.length),(s.1,s.2++[some ⟨1,b.map fun b=>[.int .u8 b.toNat]⟩]))
   else some (.val (.ro false (b.map fun b=>[.int .u8 b.toNat])),s)
  |_=>none
 |.cvBS x=>(x.val s.1).bind fun a=>match a with
  |.str _=>none
  |_=>(fF s.2 1 a).bind fun es=>(dM (fun e=>match e with
   |[.int .u8 n]=>some (UInt8.ofNat n.toNat)
   |_=>none) es).bind fun b=>some (.val (.str b),s)
 |.cvLL x=>(x.val s.1).bind fun a=>match a with
  |.sl b tot off len cap=>(hget s.2 b tot).bind fun k=>if 0<cap/\k.sz=1 then some (.val (.sl b tot off len cap),s) else none
  |_=>none
 |.cvIS x=>(x.val s.1).bind fun a=>match a with
  |.int _ n=>some (.val (.str (Utf8.encode n).data.toList),s)
  |_=>none
 |.cvSS x=>(x.val s.1).bind fun a=>match a with
  |.str b=>some (.val (.str b),s)
  |_=>none
 |.mkI t x=>(x.val s.1).bind fun a=>some (.val (.iface t a),s)
 |.mkF f a b=>(jK s.1 a).bind fun a=>(jK s.1 b).bind fun b=>some (.val (.fn f a b),s)
 |.mks sz z bytes l c=>(l.val s.1).bind fun l=>(c.val s.1).bind fun c=>match l,c with
  |.int .i64 l,.int .i64 c=>if 0≤l/\l≤c/\c*(bytes+1:Nat)≤bY/\0<sz/\z.length=sz then
    some (.val (.sl s.2.length c.toNat 0 l.toNat c.toNat),(s.1,s.2++[some ⟨sz,List.replicate c.toNat z⟩])) else none
  |_,_=>none
 |.slS x lo hi=>(x.val s.1).bind fun a=>match a with
  |.str b=>(fQ s.1 lo 0).bind fun l=>(fQ s.1 hi b.length).bind fun r=>if l≤r/\r≤b.length then some (.val (.str ((b.drop l).take (r-l))),s) else none
  |_=>none
 |.slL sz x lo hi mx=>(x.val s.1).bind fun a=>(fQ s.1 lo 0).bind fun l=>
  (lenOf a).bind fun n=>(fQ s.1 hi n).bind fun r=>
  match a,mx with
  |.nils,none=>if l=0/\r=0 then some (.val .nils,s) else none
  |.esl,none=>if l=0/\r=0 then some (.val .esl,s) else none
  |.ro b es,none=>if l≤r/\r≤es.length/\es.all (·.length=sz) then some (.val (.ro b ((es.drop l).take (r-l))),s) else none
  |.sl b tot off _ cap,none=>(hget s.2 b tot).bind fun k=>if l≤r/\r≤cap/\k.sz=sz then some (.val (.sl b tot (off+l) (r-l) (cap-l)),s) else none
  |.nils,some m=>(m.val s.1).bind fun m=>(kB m).bind fun m=>if l=0/\r=0/\m=0 then some (.val .nils,s) else none
  |.esl,some m=>(m.val s.1).bind fun m=>(kB m).bind fun m=>if l=0/\r=0/\m=0 then some (.val .esl,s) else none
  |.ro b es,some m=>(m.val s.1).bind fun m=>(kB m).bind fun m=>if l=0/\r=0/\m=0 then some (.val .esl,s)
    else if l≤r/\r≤m/\m≤es.length/\es.all (·.length=sz) then some (.val (.ro b ((es.drop l).take (r-l))),s) else none
  |.sl b tot off _ cap,some m=>(m.val s.1).bind fun m=>(kB m).bind fun m=>if l=0/\r=0/\m=0 then some (.val .esl,s)
    else (hget s.2 b tot).bind fun k=>if l≤r/\r≤m/\m≤cap/\k.sz=sz then some (.val (.sl b tot (off+l) (r-l) (m-l)),s) else none
  |_,_=>none
 |.slA n sz x lo hi=>(x.ev s.1).bind fun a=>(fQ s.1 lo 0).bind fun l=>(fQ s.1 hi n).bind fun r=>
  if l≤r/\r≤n/\sz=1 then
   match a with
   |.val (.rptr b e off)=>if off+n≤e.length then some (.val (.ro b ((((e.drop off).take n).drop l).take (r-l) |>.map fun c=>[c])),s) else none
   |.val (.ptr b tot i off)=>(hget s.2 b tot).bind fun k=>if k.sz=1/\off=0/\i+n=tot then some (.val (.sl b tot (i+l) (r-l) (n-l)),s) else none
   |_=>none
  else none
 |.fadr off x=>(x.ev s.1).bind fun a=>match a with
  |.val (.ptr b tot i o)=>some (.val (.ptr b tot i (o+off)),s)
  |.val (.rptr b e o)=>some (.val (.rptr b e (o+off)),s)
  |.lptr t o=>some (.lptr t (o+off),s)
  |_=>none
 |.fld off n x=>(x.val s.1).bind fun a=>match a with
  |.agg cs=>(part cs off n).bind fun v=>some (.val v,s)
  |_=>none
 |.iadr sz x i=>(x.val s.1).bind fun a=>(i.val s.1).bind fun i=>(kB i).bind fun i=>match a with
  |.ro b es=>(es[i]?).bind fun e=>if e.length=sz then some (.val (.rptr b e 0),s) else none
  |.sl b tot off len _=>(hget s.2 b tot).bind fun k=>if k.sz=sz/\i<len/\off+len≤tot then some (.val (.ptr b tot (off+i) 0),s) else none
  |_=>none
 |.iadrA n sz x i=>(x.ev s.1).bind fun a=>(i.val s.1).bind fun i=>(kB i).bind fun i=>if i<n then
   match a with
   |.val (.rptr b e o)=>some (.val (.rptr b e (o+i*sz)),s)
   |.lptr t o=>some (.lptr t (o+i*sz),s)
   |.val (.ptr b tot j o)=>(hget s.2 b tot).bind fun k=>if k.sz=sz/\sz=1/\o=0/\j+n≤tot then some (.val (.ptr b tot (j+i) 0),s)
     else if o+n*sz≤k.sz then some (.val (.ptr b tot j (o+i*sz)),s) else none
   |_=>none
  else none
 |.idxS x i=>(x.val s.1).bind fun a=>(i.val s.1).bind fun i=>(kB i).bind fun i=>match a with
  |.str b=>(b[i]?).bind fun c=>some (.val (.int .u8 c.toNat),s)
  |_=>none
 |.idxA n sz isAgg x i=>(x.val s.1).bind fun a=>(i.val s.1).bind fun i=>(kB i).bind fun i=>match a with
  |.agg cs=>if i<n then (part cs (i*sz) (if isAgg then some sz else none)).bind fun v=>some (.val v,s) else none
  |_=>none
 |.ext x i=>(x.val s.1).bind fun a=>match a with
  |.tup vs=>(vs[i]?).bind fun v=>some (.val v,s)
  |_=>none
 |.call f args=>(jK s.1 args).bind fun l=>(iX call opn f l s.2).bind fun r=>some (.val r.1,(s.1,r.2))
 |.callc f args=>(jK s.1 args).bind fun l=>(iX call (fun _=>false) f l s.2).bind fun r=>some (.val r.1,(s.1,r.2))
 |.callv f args=>(f.val s.1).bind fun f=>(jK s.1 args).bind fun l=>match f with
  |.fn (.func f) a b=>(iX call opn f (a++l++b) s.2).bind fun r=>some (.val r.1,(s.1,r.2))
  |_=>none
 |.callm tab x args=>(x.val s.1).bind fun a=>(jK s.1 args).bind fun l=>match a with
  |.iface t v=>(tab.lookup t).bind fun r=>(selOf r.2 v).bind fun v'=>(iX call opn r.1 (v'::l) s.2).bind fun r=>some (.val r.1,(s.1,r.2))
  |_=>none
 |.asrt ok t ag z x=>(x.val s.1).bind fun a=>match a with
  |.iface u v=>if u=t then some (.val (if ok then .tup [v,.bool true] else v),s) else if ok then (zVal ag z).bind fun z=>some (.val (.tup [z,.bool false]),s) else none
  |.nili=>if ok then (zVal ag z).bind fun z=>some (.val (.tup [z,.bool false]),s) else none
  |_=>none
 |.app sz bytes x y=>(x.val s.1).bind fun a=>(y.val s.1).bind fun b=>(append s.2 sz bytes a b).bind fun r=>some (.val r.1,(s.1,r.2))
 |.appz sz bytes z x n=>(x.val s.1).bind fun a=>(n.val s.1).bind fun n=>match n with
  |.int .i64 n=>if 0≤n/\n*(bytes+1:Nat)≤bY/\z.length=sz then (append s.2 sz bytes a (.ro false (List.replicate n.toNat z))).bind fun r=>some (.val r.1,(s.1,r.2)) else none
  |_=>none
 |.cpy sz x y=>(x.val s.1).bind fun a=>(y.val s.1).bind fun b=>(copy s.2 sz a b).bind fun r=>some (.val (.int .i64 (r.1:Nat)),(s.1,r.2))
 |.clr sz z x=>(x.val s.1).bind fun a=>(lenOf a).bind fun n=>if z.length=sz then (copy s.2 sz a (.ro false (List.replicate n z))).bind fun r=>some (.val (.tup []),(s.1,r.2)) else none
 |.len lJ x=>(x.val s.1).bind fun a=>match lJ,a with
  |true,.str b=>some (.val (.int .i64 b.length),s)
  |false,.str _=>none
  |false,a=>(lenOf a).bind fun n=>some (.val (.int .i64 n),s)
  |_,_=>none
 |.lenA n=>some (.val (.int .i64 n),s)
 |.cap x=>(x.val s.1).bind fun a=>match a with
  |.nils=>some (.val (.int .i64 0),s)
  |.esl=>some (.val (.int .i64 0),s)
  |_=>none
 |.mn x y=>(x.val s.1).bind fun a=>(y.val s.1).bind fun b=>match a,b with
  |.int k a,.int _ b=>some (.val (.int k (if b<a then b else a)),s)
  |_,_=>none
 |.mx x y=>(x.val s.1).bind fun a=>(y.val s.1).bind fun b=>match a,b with
  |.int k a,.int _ b=>some (.val (.int k (if b>a then b else a)),s)
  |_,_=>none
 |.range x=>(x.val s.1).bind fun a=>match a,dst with
  |.str b,some t=>if bF s.1 t then some (.box [.mark,.str b,.int .i64 0],s) else none
  |_,_=>none
 |.next x=>match x with
  |.t t=>(Ig (s.1.get t)).bind fun r=>if r.2<r.1.length then
    some (.val (.tup [.bool true,.int .i64 r.2,.int .i32 (nF r.1 r.2).1]),(s.1.put t (.box [.mark,.str r.1,.int .i64 (r.2+(nF r.1 r.2).2:Nat)]),s.2))
    else some (.val (.tup [.bool false]),s)
  |_=>none
 |.bad=>none
def gL (s:St):Option Nat->SV->Option St
 |none,_=>some s
 |some t,v=>if bF s.1 t then some (s.1.put t v,s.2) else none
def wanted (σ:Fr):Option (Nat×Bool)->Option Bool
 |none=>some true
 |some (t,w)=>match σ.get t with
  |some (.val (.bool b))=>some (b==w)
  |some (.val (.tup []))=>some false
  |_=>none
def fL (it:cH) (s:St):Option St:=
 (wanted s.1 it.g).bind fun w=>if w then (aT call opn it.dst it.op s).bind fun r=>gL r.2 it.dst r.1
   else gL s it.dst (.val (.tup []))
def dL:List cH->St->Option St
 |[],s=>some s
 |it::r,s=>(fL call opn it s).bind fun s=>dL r s
def Jt:Option SV->SV->Bool
 |some (.val u),.val v=>decide (u=v)
 |some (.lptr a o),.lptr b p=>decide (a=b/\o=p)
 |_,_=>false
theorem rN {g:Option SV} {v:SV}:Jt g v=true↔g=some v/\∀cs,v≠.box cs:=by
 cases g with
 |none=>simp[Jt]
 |some u=>cases u<;>cases v<;>simp[Jt]
def same (it:cH) (s:St):Bool:=
 match wanted s.1 it.g with
 |some true=>match aT call opn it.dst it.op s,it.dst with
  |some (v,_),some t=>Jt (s.1.get t) v
  |_,_=>false
 |some false=>match it.dst with
  |some t=>(match s.1.get t with
   |some (.val (.tup []))=>true
   |_=>false)
  |none=>false
 |none=>false
def pC (its:List cH) (s:St):Bool:=its.all fun it=>same call opn it s
def pI:List DB->St->Option St
 |[],s=>some s
 |b::r,s=>(fL call opn b.w s).bind fun s=>if pC call opn b.cs s then (dL call opn b.qs s).bind fun s=>pI r s else none
def mW (σ:Fr) (its:List cH):Bool:=its.all fun it=>match it.dst with
 |some t=>bF σ t
 |none=>true
def zI (q0:List cH) (bs:List DB) (s:St):Option St:=
 if mW s.1 q0&&bs.all (fun b=>mW s.1 (b.w::b.qs)) then (dL call opn q0 s).bind fun s=>pI call opn bs s else none
def Oz (p:Rm) (args:List IV) (h:aN):Option (IV×aN):=
 match p,args with
 |.ins sz bytes,[s,.int .i64 i',v]=>(kB (.int .i64 i')).bind fun i=>(fF h sz v).bind fun vs=>
  if 1<sz/\0<vs.length then
   match s,v with
   |.sl b tot off n _,.sl b2 _ _ _ _=>(hget h b tot).bind fun k=>
    if k.sz=sz/\off=0/\n=tot/\i≤n/\b≠b2/\(n+vs.length)*(bytes+1)≤bY then
     some (.sl b (n+vs.length) 0 (n+vs.length) (n+vs.length),h.set b (some ⟨sz,k.es.take i++vs++k.es.drop i⟩))
    else none
   |.nils,.sl ..=>if i=0/\vs.length*(bytes+1)≤bY then some (.sl h.length vs.length 0 vs.length vs.length,h++[some ⟨sz,vs⟩]) else none
   |.esl,.sl ..=>if i=0/\vs.length*(bytes+1)≤bY then some (.sl h.length vs.length 0 vs.length vs.length,h++[some ⟨sz,vs⟩]) else none
   |_,_=>none
  else none
 |_,_=>none
def qU:Nat:=1000000
variable (lp:(St->Option (Ex×St))->St->Option (Ex×St))
def fB:dJ->St->Option (Ex×St)
 |.prim p,s=>(jK s.1 [.t 0,.t 1,.t 2]).bind fun as=>(Oz p as s.2).bind fun r=>some (.ret,(s.1.put qU (.val r.1),r.2))
 |.skip,s=>some (.normal,s)
 |.reg its live,s=>(dL call opn its s).bind fun s=>some (.normal,(s.1.keep live,s.2))
 |.drw q0 bs live,s=>(zI call opn q0 bs s).bind fun s=>some (.normal,(s.1.keep live,s.2))
 |.seq a b,s=>(fB a s).bind fun r=>match r.1 with
  |.normal=>fB b r.2
  |_=>some r
 |.cond c a b,s=>(c.val s.1).bind fun v=>match v with
  |.bool true=>fB a s
  |.bool false=>fB b s
  |_=>none
 |.block id c,s=>(fB c s).bind fun r=>if r.1 = .exit id then some (.normal,r.2) else some r
 |.loop c,s=>lp (fB c) s
 |.exit id,s=>some (.exit id,s)
 |.ret,s=>some (.ret,s)
 |.bad,_=>none
end
def dO (f:St->Option (Ex×St)):Nat->St->Option (Ex×St)
 |0,_=>none
 |n+1,s=>(f s).bind fun r=>match r.1 with
  |.normal=>dO f n r.2
  |_=>some r
def iM (s:St):RV->Option IV
 |.tmp t=>(SX.t t).val s.1
 |.cell t n=>(SX.ev s.1 (.t t)).bind fun a=>match n with
  |none=>(eS s a 1).bind fun cs=>match cs with
   |[v]=>some v
   |_=>none
  |some n=>(eS s a n).bind fun cs=>some (.agg cs)
def gK:List IV->IV
 |[v]=>v
 |vs=>.tup vs
def fA (i:Nat):List IV->Fr
 |[]=>[]
 |v::vs=>(i,.val v)::fA (i+1) vs
def start (fn:mO) (args:List IV):Option Fr:=if args.length≤fn.np then some (fA 0 args) else none
def jU (fn:mO) (r:Ex×St):Option (IV×aN):=
 match r.1 with
 |.exit _=>none
 |_=>(dM (iM r.2) fn.res).bind fun vs=>some (gK vs,r.2.2)
def fK (prog:Nat->Option mO) (opn:Nat->Bool):Nat->Nat->List IV->aN->Option (IV×aN)
 |0,_,_,_=>none
 |n+1,f,args,h=>(prog f).bind fun fn=>(start fn args).bind fun σ=>
   (fB (fK prog opn n) opn (fun g s=>dO g n s) fn.body (σ,h)).bind fun r=>jU fn r
end Go.Ideal
namespace Go.Ideal
def wX (c c':Nat->List IV->aN->Option (IV×aN)):Prop:=∀f a h r,c f a h=some r->c' f a h=some r
abbrev Rn:=St->Option (Ex×St)
def Yf (g g':Rn):Prop:=∀s r,g s=some r->g' s=some r
def LLe (l l':Rn->Rn):Prop:=∀g g',Yf g g'->Yf (l g) (l' g')
theorem aA {α β:Type} {x:Option α} {f:α->Option β} {r:β}:x.bind f=some r↔∃a,x=some a/\f a=some r:=by
 cases x<;>simp
section
variable {c c':Nat->List IV->aN->Option (IV×aN)} {opn:Nat->Bool} {l l':Rn->Rn}
theorem rE (h:wX c c') {f:Nat} {args:List IV} {hp:aN} {r:IV×aN} (e:iX c opn f args hp=some r):iX c' opn f args hp=some r:=by
 unfold iX at *
 split
 ·rename_i ho;rw[if_pos ho]at e;exact h _ _ _ _ e
 ·rename_i ho;rw[if_neg ho]at e
  split
  ·rename_i hw;rw[if_pos hw]at e
   simp only[aA]at e |-
   obtain⟨a,ha,b,hb,v,hv,e⟩:=e
   exact⟨a,ha,b,h _ _ _ _ hb,v,hv,e⟩
  ·rename_i hw;rw[if_neg hw]at e
   simp only[aA]at e |-
   obtain⟨b,hb,v,hv,e⟩:=e
   exact⟨b,h _ _ _ _ hb,v,hv,e⟩
theorem Ce (h:wX c c') {d:Option Nat} {o:gQ} {s:St} {r:SV×St} (e:aT c opn d o s=some r):aT c' opn d o s=some r:=by
 cases o with
 |call f args=>
  simp only[aT,aA]at e |-
  obtain⟨a,ha,b,hb,e⟩:=e
  exact⟨a,ha,b,rE h hb,e⟩
 |callc f args=>
  simp only[aT,aA]at e |-
  obtain⟨a,ha,b,hb,e⟩:=e
  exact⟨a,ha,b,rE h hb,e⟩
 |callv f args=>
  simp only[aT,aA]at e |-
  obtain⟨a,ha,b,hb,e⟩:=e
  refine⟨a,ha,b,hb,?_⟩
  split at e
  ·simp only[aA]at e |-
   obtain⟨x,hx,e⟩:=e
   exact⟨x,rE h hx,e⟩
  ·cases e
 |callm tab x args=>
  simp only[aT,aA]at e |-
  obtain⟨a,ha,b,hb,e⟩:=e
  refine⟨a,ha,b,hb,?_⟩
  split at e
  ·simp only[aA]at e |-
   obtain⟨r,hr,v,hv,x,hx,e⟩:=e
   exact⟨r,hr,v,hv,x,rE h hx,e⟩
  ·cases e
 |_=>exact e
theorem rS (h:wX c c') {it:cH} {s:St} {r:St} (e:fL c opn it s=some r):fL c' opn it s=some r:=by
 simp only[fL,aA]at e |-
 obtain⟨w,hw,e⟩:=e
 refine⟨w,hw,?_⟩
 cases w
 ·simpa using e
 ·simp only[if_true,aA]at e |-
  obtain⟨a,ha,e⟩:=e
  exact⟨a,Ce h ha,e⟩
theorem lS (h:wX c c') {its:List cH}:∀{s r:St},dL c opn its s=some r->dL c' opn its s=some r:=by
 induction its with
 |nil=>intro s r e;exact e
 |cons it its ih=>
  intro s r e
  simp only[dL,aA]at e |-
  obtain⟨a,ha,e⟩:=e
  exact⟨a,rS h ha,ih e⟩
theorem Bd (h:wX c c') {it:cH} {s:St} (e:same c opn it s=true):same c' opn it s=true:=by
 unfold same at *
 split at e
 ·rename_i hw
  split at e
  ·rename_i v s' t he hd
   rw[Ce h he,hd]
   exact e
  ·cases e
 ·exact e
 ·cases e
theorem sR (h:wX c c') {its:List cH} {s:St} (e:pC c opn its s=true):pC c' opn its s=true:=by
 simp only[pC,bE]at *
 exact fun it hi=>Bd h (e it hi)
theorem vX (h:wX c c') {bs:List DB}:∀{s r:St},pI c opn bs s=some r->pI c' opn bs s=some r:=by
 induction bs with
 |nil=>intro s r e;exact e
 |cons b bs ih=>
  intro s r e
  simp only[pI,aA]at e |-
  obtain⟨a,ha,e⟩:=e
  refine⟨a,rS h ha,?_⟩
  split at e
  ·rename_i hs
   rw[if_pos (sR h hs)]
   simp only[aA]at e |-
   obtain⟨x,hx,e⟩:=e
   exact⟨x,lS h hx,ih e⟩
  ·cases e
theorem Md (h:wX c c') {q0:List cH} {bs:List DB} {s r:St} (e:zI c opn q0 bs s=some r):zI c' opn q0 bs s=some r:=by
 simp only[zI]at e |-
 split at e
 ·rename_i hh
  rw[if_pos hh]
  simp only[aA]at e |-
  obtain⟨x,hx,e⟩:=e
  exact⟨x,lS h hx,vX h e⟩
 ·cases e
theorem lE (h:wX c c') (hl:LLe l l'):∀(code:dJ),Yf (fB c opn l code) (fB c' opn l' code)
 |.skip,s,r,e=>e
 |.reg its live,s,r,e=>by
  simp only[fB,aA]at e |-
  obtain⟨a,ha,e⟩:=e
  exact⟨a,lS h ha,e⟩
 |.drw q0 bs live,s,r,e=>by
  simp only[fB,aA]at e |-
  obtain⟨a,ha,e⟩:=e
  exact⟨a,Md h ha,e⟩
 |.seq a b,s,r,e=>by
  simp only[fB,aA]at e |-
  obtain⟨x,hx,e⟩:=e
  refine⟨x,lE h hl a s x hx,?_⟩
  revert e
  cases x.1<;>simp only[imp_self]
  exact lE h hl b _ _
 |.cond x a b,s,r,e=>by
  simp only[fB,aA]at e |-
  obtain⟨v,hv,e⟩:=e
  refine⟨v,hv,?_⟩
  split at e
  ·exact lE h hl a _ _ e
  ·exact lE h hl b _ _ e
  ·cases e
 |.block id a,s,r,e=>by
  simp only[fB,aA]at e |-
  obtain⟨x,hx,e⟩:=e
  exact⟨x,lE h hl a s x hx,e⟩
 |.loop a,s,r,e=>by
  simp only[fB]at e |-
  exact hl _ _ (lE h hl a) _ _ e
 |.exit id,s,r,e=>e
 |.ret,s,r,e=>e
 |.bad,s,r,e=>e
 |.prim _,s,r,e=>e
end
theorem nK {g g':Rn} (h:Yf g g'):∀{n m:Nat},n≤m->Yf (dO g n) (dO g' m):=by
 intro n
 induction n with
 |zero=>intro m _ s r e;simp[dO]at e
 |succ n ih=>
  intro m hm s r e
  obtain⟨m,rfl⟩:∃k,m=k+1:=⟨m-1,by omega⟩
  simp only[dO,aA]at e |-
  obtain⟨a,ha,e⟩:=e
  refine⟨a,h _ _ ha,?_⟩
  revert e
  cases a.1<;>simp only[imp_self]
  exact ih (by omega) _ _
section
variable (prog:Nat->Option mO) (opn:Nat->Bool)
theorem Ea:∀n,wX (fK prog opn n) (fK prog opn (n+1)):=by
 intro n
 induction n with
 |zero=>intro f a h r e;simp[fK]at e
 |succ n ih=>
  intro f a h r e
  rw[fK]at e |-
  simp only[aA]at e |-
  obtain⟨fn,hf,σ,hσ,x,hx,e⟩:=e
  exact⟨fn,hf,σ,hσ,x,lE ih (fun g g' hg=>nK hg (Nat.le_succ n)) _ _ _ hx,e⟩
theorem iG {n m:Nat} (h:n≤m):wX (fK prog opn n) (fK prog opn m):=by
 induction h with
 |refl=>intro f a h r e;exact e
 |step _ ih=>intro f a h r e;exact Ea prog opn _ _ _ _ _ (ih _ _ _ _ e)
open Classical in
noncomputable def lim {α:Type} (F:Nat->Option α):Option α:=if h:∃n r,F n=some r then some h.choose_spec.choose else none
theorem yS {α:Type} {F:Nat->Option α} (hm:∀n m r,n≤m->F n=some r->F m=some r) {r:α}:lim F=some r↔∃n,F n=some r:=by
 unfold lim
 constructor
 ·intro h
  split at h
  ·rename_i hh
   have:=hh.choose_spec.choose_spec
   injection h with h
   rw[h]at this
   exact⟨_,this⟩
  ·cases h
 ·rintro⟨n,hn⟩
  have hh:∃n r,F n=some r:=⟨n,r,hn⟩
  rw[dif_pos hh]
  have h2:=hh.choose_spec.choose_spec
  rcases Nat.le_total n hh.choose with hle|hle
  ·have:=hm _ _ _ hle hn
   rw[h2]at this
   exact this
  ·have:=hm _ _ _ hle h2
   rw[hn]at this
   injection this with this
   rw[this]
noncomputable def eC (f:Nat) (a:List IV) (h:aN):Option (IV×aN):=lim fun n=>fK prog opn n f a h
noncomputable def lI (g:Rn) (s:St):Option (Ex×St):=lim fun n=>dO g n s
noncomputable abbrev Dz:dJ->St->Option (Ex×St):=fB (eC prog opn) opn lI
theorem jV {f:Nat} {a:List IV} {h:aN} {r:IV×aN}:eC prog opn f a h=some r↔∃n,fK prog opn n f a h=some r:=
 yS fun n m r hle e=>iG prog opn hle _ _ _ _ e
theorem jT {g:Rn} {s:St} {r:Ex×St}:lI g s=some r↔∃n,dO g n s=some r:=
 yS fun n m r hle e=>nK (fun _ _ e=>e) hle _ _ e
abbrev Yr (n:Nat):dJ->St->Option (Ex×St):=fB (fK prog opn n) opn (fun g s=>dO g n s)
theorem pH {n m:Nat} (h:n≤m) (c:dJ):Yf (Yr prog opn n c) (Yr prog opn m c):=
 lE (iG prog opn h) (fun _ _ hg=>nK hg h) c
theorem Uj (n:Nat):wX (fK prog opn n) (eC prog opn):=fun _ _ _ _ e=>(jV prog opn).2 ⟨n,e⟩
theorem Xu (n:Nat) (c:dJ):Yf (Yr prog opn n c) (Dz prog opn c):=
 fun s r e=>lE (l':=lI) (Uj prog opn n) (fun g g' hg s r e=>jT.2 ⟨n,nK hg (aK n) _ _ e⟩) c s r e
theorem rF (opn':Nat->Bool) {f:Nat} {args:List IV} {hp:aN} {r:IV×aN} (e:iX (eC prog opn) opn' f args hp=some r):∃n,iX (fK prog opn n) opn' f args hp=some r:=by
 unfold iX at *
 split
 ·rename_i ho;rw[if_pos ho]at e;exact(jV prog opn).1 e
 ·rename_i ho;rw[if_neg ho]at e
  split
  ·rename_i hw;rw[if_pos hw]at e
   simp only[aA]at e |-
   obtain⟨a,ha,b,hb,v,hv,e⟩:=e
   obtain⟨n,hn⟩:=(jV prog opn).1 hb
   exact⟨n,a,ha,b,hn,v,hv,e⟩
  ·rename_i hw;rw[if_neg hw]at e
   simp only[aA]at e |-
   obtain⟨b,hb,v,hv,e⟩:=e
   obtain⟨n,hn⟩:=(jV prog opn).1 hb
   exact⟨n,b,hn,v,hv,e⟩
theorem Cg {d:Option Nat} {o:gQ} {s:St} {r:SV×St} (e:aT (eC prog opn) opn d o s=some r):∃n,aT (fK prog opn n) opn d o s=some r:=by
 cases o with
 |call f args=>
  simp only[aT,aA]at e |-
  obtain⟨a,ha,b,hb,e⟩:=e
  obtain⟨n,hn⟩:=rF prog opn opn hb
  exact⟨n,a,ha,b,hn,e⟩
 |callc f args=>
  simp only[aT,aA]at e |-
  obtain⟨a,ha,b,hb,e⟩:=e
  obtain⟨n,hn⟩:=rF prog opn (fun _=>false) hb
  exact⟨n,a,ha,b,hn,e⟩
 |callv f args=>
  simp only[aT,aA]at e |-
  obtain⟨a,ha,b,hb,e⟩:=e
  split at e
  ·simp only[aA]at e
   obtain⟨x,hx,e⟩:=e
   obtain⟨n,hn⟩:=rF prog opn opn hx
   exact⟨n,_,ha,_,hb,by simp only[aA];exact⟨x,hn,e⟩⟩
  ·cases e
 |callm tab x args=>
  simp only[aT,aA]at e |-
  obtain⟨a,ha,b,hb,e⟩:=e
  split at e
  ·simp only[aA]at e
   obtain⟨r,hr,v,hv,x,hx,e⟩:=e
   obtain⟨n,hn⟩:=rF prog opn opn hx
   exact⟨n,_,ha,_,hb,by simp only[aA];exact⟨r,hr,v,hv,x,hn,e⟩⟩
  ·cases e
 |_=>exact⟨0,e⟩
theorem Ci {it:cH} {s:St} {r:St} (e:fL (eC prog opn) opn it s=some r):∃n,fL (fK prog opn n) opn it s=some r:=by
 simp only[fL,aA]at e |-
 obtain⟨w,hw,e⟩:=e
 cases w
 ·exact⟨0,_,hw,by simpa using e⟩
 ·simp only[if_true,aA]at e
  obtain⟨a,ha,e⟩:=e
  obtain⟨n,hn⟩:=Cg prog opn ha
  exact⟨n,_,hw,by simp only[if_true,aA];exact⟨a,hn,e⟩⟩
theorem tB {its:List cH}:∀{s r:St},dL (eC prog opn) opn its s=some r->∃n,dL (fK prog opn n) opn its s=some r:=by
 induction its with
 |nil=>intro s r e;exact⟨0,e⟩
 |cons it its ih=>
  intro s r e
  simp only[dL,aA]at e |-
  obtain⟨a,ha,e⟩:=e
  obtain⟨n,hn⟩:=Ci prog opn ha
  obtain⟨m,hm⟩:=ih e
  exact⟨max n m,a,rS (iG prog opn (Ak n m)) hn,lS (iG prog opn (wZ n m)) hm⟩
theorem Ll {it:cH} {s:St} (e:same (eC prog opn) opn it s=true):∃n,same (fK prog opn n) opn it s=true:=by
 unfold same at *
 split at e
 ·rename_i hw
  split at e
  ·rename_i v s' t he hd
   obtain⟨n,hn⟩:=Cg prog opn he
   refine⟨n,?_⟩
   rw[hn,hd]
   exact e
  ·cases e
 ·exact⟨0,e⟩
 ·cases e
theorem Hv {its:List cH} {s:St} (e:pC (eC prog opn) opn its s=true):∃n,pC (fK prog opn n) opn its s=true:=by
 induction its with
 |nil=>exact⟨0,rfl⟩
 |cons it its ih=>
  simp only[pC,gD,aF]at e ih |-
  obtain⟨n,hn⟩:=Ll prog opn e.1
  obtain⟨m,hm⟩:=ih e.2
  exact⟨max n m,Bd (iG prog opn (Ak n m)) hn,sR (iG prog opn (wZ n m)) hm⟩
theorem Mg {bs:List DB}:∀{s r:St},pI (eC prog opn) opn bs s=some r->∃n,pI (fK prog opn n) opn bs s=some r:=by
 induction bs with
 |nil=>intro s r e;exact⟨0,e⟩
 |cons b bs ih=>
  intro s r e
  simp only[pI,aA]at e |-
  obtain⟨a,ha,e⟩:=e
  split at e
  ·rename_i hs
   simp only[aA]at e
   obtain⟨x,hx,e⟩:=e
   obtain⟨n,hn⟩:=Ci prog opn ha
   obtain⟨m,hm⟩:=Hv prog opn hs
   obtain⟨k,hk⟩:=tB prog opn hx
   obtain⟨l,hl⟩:=ih e
   have q:∀{i:Nat},i≤max (max n m) (max k l)->wX (fK prog opn i) (fK prog opn (max (max n m) (max k l))):=fun h=>iG prog opn h
   refine⟨max (max n m) (max k l),a,rS (q (by omega)) hn,?_⟩
   rw[if_pos (sR (q (by omega)) hm)]
   simp only[aA]
   exact⟨x,lS (q (by omega)) hk,vX (q (by omega)) hl⟩
  ·cases e
theorem Me {q0:List cH} {bs:List DB} {s r:St} (e:zI (eC prog opn) opn q0 bs s=some r):∃n,zI (fK prog opn n) opn q0 bs s=some r:=by
 simp only[zI]at e |-
 split at e
 ·rename_i hh
  simp only[aA]at e
  obtain⟨x,hx,e⟩:=e
  obtain⟨n,hn⟩:=tB prog opn hx
  obtain⟨m,hm⟩:=Mg prog opn e
  refine⟨max n m,?_⟩
  rw[if_pos hh]
  simp only[aA]
  exact⟨x,lS (iG prog opn (Ak n m)) hn,vX (iG prog opn (wZ n m)) hm⟩
 ·cases e
theorem Id {c:dJ} (h:∀s r,Dz prog opn c s=some r->∃n,Yr prog opn n c s=some r):
 ∀(k:Nat) (s:St) (r:Ex×St),dO (Dz prog opn c) k s=some r->∃n,dO (Yr prog opn n c) n s=some r:=by
 intro k
 induction k with
 |zero=>intro s r e;simp[dO]at e
 |succ k ih=>
  intro s r e
  simp only[dO,aA]at e
  obtain⟨a,ha,e⟩:=e
  obtain⟨n,hn⟩:=h _ _ ha
  cases ha1:a.1 with
  |normal=>
   rw[ha1]at e
   obtain⟨m,hm⟩:=ih _ _ e
   refine⟨max n m+1,?_⟩
   simp only[dO,aA]
   refine⟨a,pH prog opn (by omega) c _ _ hn,?_⟩
   rw[ha1]
   exact nK (pH prog opn (by omega) c) (by omega) _ _ hm
  |exit i=>
   rw[ha1]at e
   refine⟨n+1,?_⟩
   simp only[dO,aA]
   refine⟨a,pH prog opn (by omega) c _ _ hn,?_⟩
   rw[ha1];exact e
  |ret=>
   rw[ha1]at e
   refine⟨n+1,?_⟩
   simp only[dO,aA]
   refine⟨a,pH prog opn (by omega) c _ _ hn,?_⟩
   rw[ha1];exact e
theorem nQ:∀(c:dJ) (s:St) (r:Ex×St),Dz prog opn c s=some r->∃n,Yr prog opn n c s=some r
 |.skip,s,r,e=>⟨0,e⟩
 |.reg its live,s,r,e=>by
  simp only[fB,aA]at e |-
  obtain⟨a,ha,e⟩:=e
  obtain⟨n,hn⟩:=tB prog opn ha
  exact⟨n,a,hn,e⟩
 |.drw q0 bs live,s,r,e=>by
  simp only[fB,aA]at e |-
  obtain⟨a,ha,e⟩:=e
  obtain⟨n,hn⟩:=Me prog opn ha
  exact⟨n,a,hn,e⟩
 |.seq a b,s,r,e=>by
  simp only[fB,aA]at e |-
  obtain⟨x,hx,e⟩:=e
  obtain⟨n,hn⟩:=nQ a s x hx
  cases h1:x.1 with
  |normal=>
   rw[h1]at e
   obtain⟨m,hm⟩:=nQ b _ _ e
   exact⟨max n m,x,pH prog opn (Ak n m) a _ _ hn,by rw[h1];exact pH prog opn (wZ n m) b _ _ hm⟩
  |exit i=>rw[h1]at e;exact⟨n,x,hn,by rw[h1];exact e⟩
  |ret=>rw[h1]at e;exact⟨n,x,hn,by rw[h1];exact e⟩
 |.cond x a b,s,r,e=>by
  simp only[fB,aA]at e |-
  obtain⟨v,hv,e⟩:=e
  split at e
  ·obtain⟨n,hn⟩:=nQ a _ _ e
   exact⟨n,_,hv,hn⟩
  ·obtain⟨n,hn⟩:=nQ b _ _ e
   exact⟨n,_,hv,hn⟩
  ·cases e
 |.block id a,s,r,e=>by
  simp only[fB,aA]at e |-
  obtain⟨x,hx,e⟩:=e
  obtain⟨n,hn⟩:=nQ a s x hx
  exact⟨n,x,hn,e⟩
 |.loop a,s,r,e=>by
  simp only[fB]at e |-
  obtain⟨k,hk⟩:=jT.1 e
  exact Id prog opn (fun s r e=>nQ a s r e) k s r hk
 |.exit id,s,r,e=>⟨0,e⟩
 |.ret,s,r,e=>⟨0,e⟩
 |.bad,s,r,e=>⟨0,e⟩
 |.prim _,s,r,e=>⟨0,e⟩
theorem rI (f:Nat) (args:List IV) (h:aN):eC prog opn f args h=(prog f).bind fun fn=>(start fn args).bind fun σ=>(Dz prog opn fn.body (σ,h)).bind fun r=>jU fn r:=by
 have key:∀r,eC prog opn f args h=some r↔((prog f).bind fun fn=>(start fn args).bind fun σ=>(Dz prog opn fn.body (σ,h)).bind fun r=>jU fn r)=some r:=by
  intro r
  constructor
  ·intro e
   obtain⟨n,hn⟩:=(jV prog opn).1 e
   cases n with
   |zero=>simp[fK]at hn
   |succ n=>
    rw[fK]at hn
    simp only[aA]at hn |-
    obtain⟨fn,hf,σ,hσ,x,hx,e⟩:=hn
    exact⟨fn,hf,σ,hσ,x,Xu prog opn n _ _ _ hx,e⟩
  ·intro e
   simp only[aA]at e
   obtain⟨fn,hf,σ,hσ,x,hx,e⟩:=e
   obtain⟨n,hn⟩:=nQ prog opn _ _ _ hx
   refine(jV prog opn).2 ⟨n+1,?_⟩
   rw[fK]
   simp only[aA]
   exact⟨fn,hf,σ,hσ,x,hn,e⟩
 cases h1:eC prog opn f args h with
 |some r=>exact((key r).1 h1).symm
 |none=>
  cases h2:((prog f).bind fun fn=>(start fn args).bind fun σ=>(Dz prog opn fn.body (σ,h)).bind fun r=>jU fn r) with
  |none=>rfl
  |some r=>rw[(key r).2 h2]at h1;cases h1
end
theorem qX (g:Rn) (s:St):lI g s=(g s).bind fun r=>match r.1 with
 |.normal=>lI g r.2
 |_=>some r:=by
 have key:∀r,lI g s=some r↔((g s).bind fun r=>match r.1 with
  |.normal=>lI g r.2
  |_=>some r)=some r:=by
  intro r
  simp only[aA]
  constructor
  ·intro e
   obtain⟨n,hn⟩:=jT.1 e
   cases n with
   |zero=>simp[dO]at hn
   |succ n=>
    simp only[dO,aA]at hn
    obtain⟨a,ha,e⟩:=hn
    refine⟨a,ha,?_⟩
    cases h1:a.1 with
    |normal=>rw[h1]at e;exact jT.2 ⟨n,e⟩
    |exit i=>rw[h1]at e;exact e
    |ret=>rw[h1]at e;exact e
  ·rintro⟨a,ha,e⟩
   cases h1:a.1 with
   |normal=>
    rw[h1]at e
    obtain⟨n,hn⟩:=jT.1 e
    refine jT.2 ⟨n+1,?_⟩
    simp only[dO,aA]
    exact⟨a,ha,by rw[h1];exact hn⟩
   |exit i=>
    rw[h1]at e
    refine jT.2 ⟨1,?_⟩
    simp only[dO,aA]
    exact⟨a,ha,by rw[h1];exact e⟩
   |ret=>
    rw[h1]at e
    refine jT.2 ⟨1,?_⟩
    simp only[dO,aA]
    exact⟨a,ha,by rw[h1];exact e⟩
 cases h1:lI g s with
 |some r=>exact((key r).1 h1).symm
 |none=>
  symm
  cases h2:((g s).bind fun r=>match r.1 with
  |.normal=>lI g r.2
  |_=>some r) with
  |none=>rfl
  |some r=>rw[(key r).2 h2]at h1;cases h1
end Go.Ideal
namespace Go.Ideal
structure Uw where
 B:Nat
 s:Nat
 E:Nat
structure Kx where
 φ:Nat->Option Uw
 st:Bool->Nat->Prop
abbrev gC:=Array Obj
def wU (H:gC) (B o:Nat):Option Value:=
 match H[B]? with
 |some (.cells c _ _)=>c[o]?
 |_=>none
theorem rH (w:World) (B o:Nat):w.cell? ⟨B,o,none⟩=wU w.heap B o:=by
 unfold World.cell? wU
 cases w.heap[B]? with
 |none=>rfl
 |some o=>cases o<;>rfl
inductive bS (K:Kx) (H:gC):aN->IV->Value->Prop
 |bool {h:aN} (b:Bool):bS K H h (.bool b) (.bool b)
 |int {h:aN} (k:IntKind) (n:Int):bS K H h (.int k n) (.int k n)
 |str {h:aN} (b:ByteArray):bS K H h (.str b.data.toList) (.string b)
 |nilp {h:aN}:bS K H h .nilp (.pointer none)
 |ptr {h:aN} (b tot i off:Nat) (a:Addr) (hb:b<h.length/\∀k,h[b]? = some (some k)->tot≤k.es.length)
   (hl:∀k,hget h b tot=some k->i≤tot/\∃l,K.φ b=some l/\a=⟨l.B,l.s+i*k.sz+off,none⟩):bS K H h (.ptr b tot i off) (.pointer (some a))
 |rptr {h:aN} (bor:Bool) (e:List IV) (off B o:Nat) (cs:Nat->Value) (hst:K.st bor B) (hone:∀c∈e,c.one=true)
   (hcs:∀j,j<e.length->wU H B (o+j)=some (cs j)) (hv:∀j (hj:j<e.length),bS K H [] (e[j]) (cs j)):
   bS K H h (.rptr bor e off) (.pointer (some ⟨B,o+off,none⟩))
 |nils {h:aN}:bS K H h .nils (.slice none 0 0)
 |sl {h:aN} (b tot off len cap:Nat) (a:Addr) (cap':Nat) (hb:b<h.length/\∀k,h[b]? = some (some k)->tot≤k.es.length) (hlen:len≤cap')
   (hl:∀k,hget h b tot=some k->off+cap≤tot/\len≤cap/\cap≤cap'/\(off+cap<tot->cap'=cap)/\
     ∃l,K.φ b=some l/\(cap'=0\/a=⟨l.B,l.s+off*k.sz,none⟩)/\l.s+(off+cap')*k.sz≤l.E):
   bS K H h (.sl b tot off len cap) (.slice (some a) len cap')
 |ro {h:aN} (bor:Bool) (es:List (List IV)) (a:Addr) (cap sz:Nat) (cs:Nat->Nat->Value) (hc:es.length≤cap) (hsz:∀e∈es,e.length=sz)
   (hone:∀e∈es,∀c∈e,c.one=true) (hst:es≠[]->K.st bor a.block/\a.spot=none)
   (hcs:∀i j (hi:i<es.length) (hj:j<(es[i]).length),wU H a.block (a.off+i*sz+j)=some (cs i j))
   (hv:∀i j (hi:i<es.length) (hj:j<(es[i]).length),bS K H [] (es[i][j]) (cs i j)):
   bS K H h (.ro bor es) (.slice (some a) es.length cap)
 |lit {h:aN} (es:List (List IV)) (a:Addr) (sz:Nat) (cs:Nat->Nat->Value) (hsz:∀e∈es,e.length=sz) (hone:∀e∈es,∀c∈e,c.one=true) (hst:K.st false a.block/\a.spot=none)
   (hcs:∀i j (hi:i<es.length) (hj:j<(es[i]).length),wU H a.block (a.off+i*sz+j)=some (cs i j))
   (hv:∀i j (hi:i<es.length) (hj:j<(es[i]).length),bS K H h (es[i][j]) (cs i j)) (ho:∃i j,∃(hi:i<es.length) (hj:j<(es[i]).length),(es[i][j]).own=true):
   bS K H h (.lit es) (.slice (some a) es.length es.length)
 |esl {h:aN} (a:Addr):bS K H h .esl (.slice (some a) 0 0)
 |agg {h:aN} (cs:List IV) (vs:Array Value) (hn:vs.size=cs.length) (hone:∀c∈cs,c.one=true)
   (hv:∀i (h1:i<cs.length) (h2:i<vs.size),bS K H h (cs[i]) (vs[i])):bS K H h (.agg cs) (.agg vs)
 |tup {h:aN} (cs:List IV) (vs:Array Value) (hn:vs.size=cs.length)
   (hv:∀i (h1:i<cs.length) (h2:i<vs.size),bS K H h (cs[i]) (vs[i])):bS K H h (.tup cs) (.tuple vs)
 |iface {h:aN} (t:Nat) (v:IV) (x:Value) (hv:bS K H h v x):bS K H h (.iface t v) (.iface t x)
 |nili {h:aN}:bS K H h .nili .nilIface
 |fn {h:aN} (f:Fn) (a b:List IV) (a' b':Array Value) (ha:a'.size=a.length) (hb:b'.size=b.length)
   (hva:∀i (h1:i<a.length) (h2:i<a'.size),bS K H h (a[i]) (a'[i]))
   (hvb:∀i (h1:i<b.length) (h2:i<b'.size),bS K H h (b[i]) (b'[i])):bS K H h (.fn f a b) (.func f a' b')
 |nilf {h:aN}:bS K H h .nilf .nilFunc
theorem bS.one {K:Kx} {H:gC} {h:aN} {v:IV} {x:Value} (r:bS K H h v x) (ho:v.one=true):x.oneCell'=true:=by
 cases r<;>simp_all [IV.one,Value.oneCell']
def dE (K:Kx) (H:gC) (h:aN) (cs:List IV) (vs:List Value):Prop:=
 vs.length=cs.length/\∀i (h1:i<cs.length) (h2:i<vs.length),bS K H h (cs[i]) (vs[i])
theorem dE.nil {K:Kx} {H:gC} {h:aN}:dE K H h [] []:=⟨rfl,fun i h1=>absurd h1 (by simp)⟩
theorem dE.cons {K:Kx} {H:gC} {h:aN} {c:IV} {v:Value} {cs:List IV} {vs:List Value} (hv:bS K H h c v) (hr:dE K H h cs vs):dE K H h (c::cs) (v::vs):=
 ⟨by simp[hr.1],fun i h1 h2=>by
   cases i with
   |zero=>exact hv
   |succ i=>exact hr.2 i (by simpa using h1) (by simpa using h2)⟩
theorem dE.cons_inv {K:Kx} {H:gC} {h:aN} {c:IV} {cs:List IV} {vs:List Value} (hr:dE K H h (c::cs) vs):∃v r,vs=v::r/\bS K H h c v/\dE K H h cs r:=by
 match vs,hr with
 |v::r,hr=>
  refine⟨v,r,rfl,hr.2 0 (by simp) (by simp),by simpa using hr.1,fun i h1 h2=>?_⟩
  have:=hr.2 (i+1) (by simpa using h1) (by simpa using h2)
  simpa using this
 |[],hr=>simp[dE]at hr
theorem dE.nil_inv {K:Kx} {H:gC} {h:aN} {vs:List Value} (hr:dE K H h [] vs):vs=[]:=dH hr.1
theorem dE.get {K:Kx} {H:gC} {h:aN} {cs:List IV} {vs:List Value} (hr:dE K H h cs vs) {i:Nat} {c:IV} (hc:cs[i]? = some c):∃v,vs[i]? = some v/\bS K H h c v:=by
 obtain⟨h1,rfl⟩:=aJ.1 hc
 have h2:i<vs.length:=by rw[hr.1];exact h1
 exact⟨vs[i],aG h2,hr.2 i h1 h2⟩
theorem dE.mk' {K:Kx} {H:gC} {h:aN} {cs:List IV} {vs:List Value} (hl:vs.length=cs.length) (hg:∀(i:Nat) (c:IV),cs[i]? = some c->∃v,vs[i]? = some v/\bS K H h c v):dE K H h cs vs:=
 ⟨hl,fun i h1 h2=>by
   obtain⟨v,hv,hr⟩:=hg i _ (aG h1)
   rw[aG h2]at hv
   injection hv with hv
   rw[hv];exact hr⟩
theorem dE.append {K:Kx} {H:gC} {h:aN} {cs cs':List IV} {vs vs':List Value} (h1:dE K H h cs vs) (h2:dE K H h cs' vs'):dE K H h (cs++cs') (vs++vs'):=by
 induction cs generalizing vs with
 |nil=>rw[h1.nil_inv];exact h2
 |cons c cs ih=>
  obtain⟨v,r,rfl,hv,hr⟩:=h1.cons_inv
  exact .cons hv (ih hr)
theorem dE.take {K:Kx} {H:gC} {h:aN} {cs:List IV} {vs:List Value} (h1:dE K H h cs vs) (n:Nat):dE K H h (cs.take n) (vs.take n):=
 .mk' (by simp[h1.1]) fun i c hc=>by
  rw[gW]at hc |-
  split at hc
  ·rename_i hi;rw[if_pos hi];exact h1.get hc
  ·cases hc
theorem dE.drop {K:Kx} {H:gC} {h:aN} {cs:List IV} {vs:List Value} (h1:dE K H h cs vs) (n:Nat):dE K H h (cs.drop n) (vs.drop n):=
 .mk' (by simp[h1.1]) fun i c hc=>by
  rw[gX]at hc |-
  exact h1.get hc
theorem dE.one {K:Kx} {H:gC} {h:aN} {cs:List IV} {vs:List Value} (h1:dE K H h cs vs) (ho:∀c∈cs,c.one=true):∀v∈vs,v.oneCell'=true:=by
 intro v hv
 obtain⟨i,hi,rfl⟩:=dQ.1 hv
 exact(h1.2 i (by rw[<-h1.1];exact hi) hi).one (ho _ (bH _))
theorem bS.agg_iff {K:Kx} {H:gC} {h:aN} {cs:List IV} {x:Value}:bS K H h (.agg cs) x↔(∀c∈cs,c.one=true)/\∃vs:List Value,x = .agg vs.toArray/\dE K H h cs vs:=by
 constructor
 ·rintro⟨⟩
  rename_i vs hn ho hv
  exact⟨ho,vs.toList,by simp,by simpa using hn,fun i h1 h2=>by simpa using hv i h1 (by simpa using h2)⟩
 ·rintro⟨ho,vs,rfl,hr⟩
  exact .agg cs _ (by simpa using hr.1) ho fun i h1 h2=>by simpa using hr.2 i h1 (by simpa using h2)
theorem bS.iface_iff {K:Kx} {H:gC} {h:aN} {t:Nat} {v:IV} {x:Value}:bS K H h (.iface t v) x↔∃y,x = .iface t y/\bS K H h v y:=by
 constructor
 ·intro r;cases r with|iface _ _ y hv=>exact⟨y,rfl,hv⟩
 ·rintro⟨y,rfl,hv⟩;exact .iface _ _ _ hv
theorem bS.nili_inv {K:Kx} {H:gC} {h:aN} {x:Value} (r:bS K H h .nili x):x = .nilIface:=by cases r;rfl
theorem lookup_mem {α:Type}:∀{l:List (Nat×α)} {t:Nat} {r:α},l.lookup t=some r->(t,r)∈l
 |[],_,_,e=>by simp at e
 |(k,v)::l,t,r,e=>by
  rw[List.lookup_cons]at e
  split at e
  ·rename_i h
   injection e with e;subst e
   rw[eq_of_beq h];exact cE
  ·exact bT _ (lookup_mem e)
theorem bS.tup_iff {K:Kx} {H:gC} {h:aN} {cs:List IV} {x:Value}:bS K H h (.tup cs) x↔∃vs:List Value,x = .tuple vs.toArray/\dE K H h cs vs:=by
 constructor
 ·rintro⟨⟩
  rename_i vs hn hv
  exact⟨vs.toList,by simp,by simpa using hn,fun i h1 h2=>by simpa using hv i h1 (by simpa using h2)⟩
 ·rintro⟨vs,rfl,hr⟩
  exact .tup cs _ (by simpa using hr.1) fun i h1 h2=>by simpa using hr.2 i h1 (by simpa using h2)
theorem bS.fn_iff {K:Kx} {H:gC} {h:aN} {f:Fn} {a b:List IV} {x:Value}:bS K H h (.fn f a b) x↔∃a' b':List Value,x = .func f a'.toArray b'.toArray/\dE K H h a a'/\dE K H h b b':=by
 constructor
 ·intro h
  cases h with
  |fn _ _ _ a' b' ha hb hva hvb=>
  exact⟨a'.toList,b'.toList,by simp,⟨by simpa using ha,fun i h1 h2=>by simpa using hva i h1 (by simpa using h2)⟩,
   ⟨by simpa using hb,fun i h1 h2=>by simpa using hvb i h1 (by simpa using h2)⟩⟩
 ·rintro⟨a',b',rfl,ha,hb⟩
  exact .fn f a b _ _ (by simpa using ha.1) (by simpa using hb.1) (fun i h1 h2=>by simpa using ha.2 i h1 (by simpa using h2)) fun i h1 h2=>by simpa using hb.2 i h1 (by simpa using h2)
theorem bS.nil_own {K:Kx} {H:gC} {v:IV} {x:Value} (r:bS K H [] v x):v.own=false:=by
 generalize hh:([]:aN)=h0 at r
 induction r with
 |ptr b tot i off a hb hl=>subst hh;simp at hb
 |sl b tot off len cap a cap' hb hlen hl=>subst hh;simp at hb
 |lit es a sz cs hsz hone hst hcs hv ho ih=>
  obtain⟨i,j,hi,hj,ho⟩:=ho
  have:=ih i j hi hj hh
  rw[this]at ho;cases ho
 |agg cs vs hn hone hv ih=>
  simp only[IV.own,IV.ownL_eq,cC]
  intro c hc
  obtain⟨i,hi,rfl⟩:=dQ.1 hc
  simp[ih i hi (by omega) hh]
 |tup cs vs hn hv ih=>
  simp only[IV.own,IV.ownL_eq,cC]
  intro c hc
  obtain⟨i,hi,rfl⟩:=dQ.1 hc
  simp[ih i hi (by omega) hh]
 |iface t v x hv ih=>simpa [IV.own]using ih hh
 |fn f a b a' b' ha hb hva hvb iha ihb=>
  simp only[IV.own,IV.ownL_eq,iB,cC]
  refine⟨fun c hc=>?_,fun c hc=>?_⟩
  ·obtain⟨i,hi,rfl⟩:=dQ.1 hc
   simp[iha i hi (by omega) hh]
  ·obtain⟨i,hi,rfl⟩:=dQ.1 hc
   simp[ihb i hi (by omega) hh]
 |_=>rfl
theorem bS.weak {K K':Kx} {H H':gC} (hs:∀t B,K.st t B->K'.st t B/\H'[B]? = H[B]?) {v:IV} {x:Value} (r:bS K H [] v x):∀h',bS K' H' h' v x:=by
 have hcel:∀t B o,K.st t B->wU H' B o=wU H B o:=fun t B o h=>by unfold wU;rw[(hs t B h).2]
 generalize hh:([]:aN)=h0 at r
 induction r with
 |bool b=>intro h';exact .bool b
 |int k n=>intro h';exact .int k n
 |str b=>intro h';exact .str b
 |nilp=>intro h';exact .nilp
 |ptr b tot i off a hb hl=>subst hh;simp at hb
 |rptr bor e off B o cs hst hone hcs hv ih=>
  intro h'
  exact .rptr bor e off B o cs (hs _ _ hst).1 hone (fun j hj=>(hcel _ _ _ hst).trans (hcs j hj)) fun j hj=>ih j hj rfl []
 |nils=>intro h';exact .nils
 |sl b tot off len cap a cap' hb hlen hl=>subst hh;simp at hb
 |ro bor es a cap sz cs hc hsz hone hst hcs hv ih=>
  intro h'
  refine .ro bor es a cap sz cs hc hsz hone (fun he=>⟨(hs _ _ (hst he).1).1,(hst he).2⟩) (fun i j hi hj=>?_) fun i j hi hj=>ih i j hi hj rfl []
  have he:es≠[]:=by rintro rfl;simp at hi
  exact(hcel _ _ _ (hst he).1).trans (hcs i j hi hj)
 |lit es a sz cs hsz hone hst hcs hv ho ih=>
  subst hh
  have:=(bS.lit es a sz cs hsz hone hst hcs hv ho).nil_own
  cases this
 |esl a=>intro h';exact .esl a
 |agg cs vs hn hone hv ih=>intro h';exact .agg cs vs hn hone fun i h1 h2=>ih i h1 h2 hh h'
 |tup cs vs hn hv ih=>intro h';exact .tup cs vs hn fun i h1 h2=>ih i h1 h2 hh h'
 |iface t v x hv ih=>intro h';exact .iface t v x (ih hh h')
 |nili=>intro h';exact .nili
 |fn f a b a' b' ha hb hva hvb iha ihb=>intro h';exact .fn f a b a' b' ha hb (fun i h1 h2=>iha i h1 h2 hh h') fun i h1 h2=>ihb i h1 h2 hh h'
 |nilf=>intro h';exact .nilf
theorem bS.of_own {K:Kx} {H:gC} {h:aN} {v:IV} {x:Value} (r:bS K H h v x) (ho:v.own=false):bS K H [] v x:=by
 induction r with
 |bool b=>exact .bool b
 |int k n=>exact .int k n
 |str b=>exact .str b
 |nilp=>exact .nilp
 |ptr=>simp[IV.own]at ho
 |rptr bor e off B o cs hst hone hcs hv ih=>exact .rptr bor e off B o cs hst hone hcs hv
 |nils=>exact .nils
 |sl=>simp[IV.own]at ho
 |ro bor es a cap sz cs hc hsz hone hst hcs hv ih=>exact .ro bor es a cap sz cs hc hsz hone hst hcs hv
 |lit=>simp[IV.own]at ho
 |esl a=>exact .esl a
 |agg cs vs hn hone hv ih=>
  simp only[IV.own,IV.ownL_eq,cC]at ho
  exact .agg cs vs hn hone fun i h1 h2=>ih i h1 h2 (by simpa using ho _ (bH h1))
 |tup cs vs hn hv ih=>
  simp only[IV.own,IV.ownL_eq,cC]at ho
  exact .tup cs vs hn fun i h1 h2=>ih i h1 h2 (by simpa using ho _ (bH h1))
 |iface t v x hv ih=>exact .iface t v x (ih (by simpa [IV.own]using ho))
 |nili=>exact .nili
 |fn f a b a' b' ha hb hva hvb iha ihb=>
  simp only[IV.own,IV.ownL_eq,iB,cC]at ho
  exact .fn f a b a' b' ha hb (fun i h1 h2=>iha i h1 h2 (by simpa using ho.1 _ (bH h1))) fun i h1 h2=>ihb i h1 h2 (by simpa using ho.2 _ (bH h1))
 |nilf=>exact .nilf
structure oF (K:Kx) (h:aN) (H:gC) (M:Nat->Prop) (K':Kx) (h':aN) (H':gC) (M':Nat->Prop):Prop where
 len:h.length≤h'.length
 gen:∀b k',b<h.length->h'[b]? = some (some k')->∃k,h[b]? = some (some k)/\k.es.length≤k'.es.length/\(k'.es.length=k.es.length->k'.sz=k.sz/\K'.φ b=K.φ b)
 st:∀t B,K.st t B->K'.st t B/\H'[B]? = H[B]?
 st':∀t B,K'.st t B->B<H.size->K.st t B
 size:H.size≤H'.size
 fr:∀B,B<H.size->¬M B->H'[B]? = H[B]?
 mn:∀B,B<H.size->M' B->M B
 nst:∀t B,K'.st t B->K.st t B\/(H.size≤B/\∃CS el fr,H'[B]? = some (.cells CS el fr))
theorem oF.refl (K:Kx) (h:aN) (H:gC) (M:Nat->Prop):oF K h H M K h H M:=
 ⟨aK _,fun b k' _ e=>⟨k',e,aK _,fun _=>⟨rfl,rfl⟩⟩,fun _ _ h=>⟨h,rfl⟩,fun _ _ h _=>h,aK _,fun _ _ _=>rfl,fun _ _ h=>h,fun _ _ h=>.inl h⟩
theorem oF.trans {K1 K2 K3:Kx} {h1 h2 h3:aN} {H1 H2 H3:gC} {M1 M2 M3:Nat->Prop} (a:oF K1 h1 H1 M1 K2 h2 H2 M2) (b:oF K2 h2 H2 M2 K3 h3 H3 M3):oF K1 h1 H1 M1 K3 h3 H3 M3 where
 len:=cQ a.len b.len
 gen:=fun x k' hx e=>by
  obtain⟨k,e1,l1,f1⟩:=b.gen x k' (bM hx a.len) e
  obtain⟨k0,e2,l2,f2⟩:=a.gen x k hx e1
  refine⟨k0,e2,cQ l2 l1,fun e=>?_⟩
  obtain⟨g1,g2⟩:=f1 (by omega)
  obtain⟨g3,g4⟩:=f2 (by omega)
  exact⟨g1.trans g3,g2.trans g4⟩
 st:=fun t B h=>⟨(b.st t B (a.st t B h).1).1,(b.st t B (a.st t B h).1).2.trans (a.st t B h).2⟩
 st':=fun t B h hB=>a.st' t B (b.st' t B h (bM hB a.size)) hB
 size:=cQ a.size b.size
 fr:=fun B hB hM=>(b.fr B (bM hB a.size) fun hm=>hM (a.mn B hB hm)).trans (a.fr B hB hM)
 mn:=fun B hB hm=>a.mn B hB (b.mn B (bM hB a.size) hm)
 nst:=fun t B h=>by
  rcases b.nst t B h with h|⟨h1,h2⟩
  ·rcases a.nst t B h with h'|⟨h1,CS,el,fr,h2⟩
   ·exact .inl h'
   ·exact .inr ⟨h1,CS,el,fr,(b.st t B h).2.trans h2⟩
  ·exact .inr ⟨cQ a.size h1,h2⟩
theorem fJ {h:aN} {b tot:Nat} {k:mQ}:hget h b tot=some k↔h[b]? = some (some k)/\k.es.length=tot:=by
 unfold hget
 split
 ·rename_i k' e
  rw[e]
  constructor
  ·intro h
   split at h
   ·injection h with h;subst h;exact⟨rfl,by assumption⟩
   ·cases h
  ·rintro⟨e,h⟩
   injection e with e;injection e with e;subst e
   rw[if_pos h]
 ·rename_i hn
  constructor
  ·intro h;cases h
  ·rintro⟨e,h⟩;exact absurd e (hn k)
theorem oF.hget {K K':Kx} {h h':aN} {H H':gC} {M M':Nat->Prop} (e:oF K h H M K' h' H' M') {b tot:Nat} {k:mQ}
 (hb:b<h.length/\∀k,h[b]? = some (some k)->tot≤k.es.length) (hk:Ideal.hget h' b tot=some k):
 ∃k0,Ideal.hget h b tot=some k0/\k.sz=k0.sz/\K'.φ b=K.φ b:=by
 obtain⟨e1,e2⟩:=fJ.1 hk
 obtain⟨k0,e3,l,f⟩:=e.gen b k hb.1 e1
 have ht:=hb.2 k0 e3
 have ht2:k0.es.length=tot:=by omega
 obtain⟨g1,g2⟩:=f (by omega)
 exact⟨k0,fJ.2 ⟨e3,ht2⟩,g1,g2⟩
theorem oF.tot {K K':Kx} {h h':aN} {H H':gC} {M M':Nat->Prop} (e:oF K h H M K' h' H' M') {b tot:Nat}
 (hb:b<h.length/\∀k,h[b]? = some (some k)->tot≤k.es.length):b<h'.length/\∀k,h'[b]? = some (some k)->tot≤k.es.length:=
 ⟨bM hb.1 e.len,fun k hk=>by
   obtain⟨k0,e3,l,f⟩:=e.gen b k hb.1 hk
   exact cQ (hb.2 k0 e3) l⟩
theorem bS.ext {K K':Kx} {h h':aN} {H H':gC} {M M':Nat->Prop} (e:oF K h H M K' h' H' M') {v:IV} {x:Value} (r:bS K H h v x):bS K' H' h' v x:=by
 have hcel:∀t B o,K.st t B->wU H' B o=wU H B o:=fun t B o h=>by unfold wU;rw[(e.st t B h).2]
 induction r with
 |bool b=>exact .bool b
 |int k n=>exact .int k n
 |str b=>exact .str b
 |nilp=>exact .nilp
 |ptr b tot i off a hb hl=>
  refine .ptr b tot i off a (e.tot hb) fun k hk=>?_
  obtain⟨k0,h1,h2,h3⟩:=e.hget hb hk
  rw[h2,h3]
  exact hl k0 h1
 |rptr bor es off B o cs hst hone hcs hv ih=>
  exact .rptr bor es off B o cs (e.st _ _ hst).1 hone (fun j hj=>(hcel _ _ _ hst).trans (hcs j hj)) fun j hj=>(hv j hj).weak e.st []
 |nils=>exact .nils
 |sl b tot off len cap a cap' hb hlen hl=>
  refine .sl b tot off len cap a cap' (e.tot hb) hlen fun k hk=>?_
  obtain⟨k0,h1,h2,h3⟩:=e.hget hb hk
  rw[h2,h3]
  exact hl k0 h1
 |ro bor es a cap sz cs hc hsz hone hst hcs hv ih=>
  refine .ro bor es a cap sz cs hc hsz hone (fun he=>⟨(e.st _ _ (hst he).1).1,(hst he).2⟩) (fun i j hi hj=>?_) fun i j hi hj=>(hv i j hi hj).weak e.st []
  have he:es≠[]:=by rintro rfl;simp at hi
  exact(hcel _ _ _ (hst he).1).trans (hcs i j hi hj)
 |lit es a sz cs hsz hone hst hcs hv ho ih=>
  exact .lit es a sz cs hsz hone ⟨(e.st _ _ hst.1).1,hst.2⟩ (fun i j hi hj=>(hcel _ _ _ hst.1).trans (hcs i j hi hj)) (fun i j hi hj=>ih i j hi hj e) ho
 |esl a=>exact .esl a
 |agg cs vs hn hone hv ih=>exact .agg cs vs hn hone fun i h1 h2=>ih i h1 h2 e
 |tup cs vs hn hv ih=>exact .tup cs vs hn fun i h1 h2=>ih i h1 h2 e
 |iface t v x hv ih=>exact .iface t v x (ih e)
 |nili=>exact .nili
 |fn f a b a' b' ha hb hva hvb iha ihb=>exact .fn f a b a' b' ha hb (fun i h1 h2=>iha i h1 h2 e) fun i h1 h2=>ihb i h1 h2 e
 |nilf=>exact .nilf
theorem dE.ext {K K':Kx} {h h':aN} {H H':gC} {M M':Nat->Prop} (e:oF K h H M K' h' H' M') {v:List IV} {x:List Value} (r:dE K H h v x):dE K' H' h' v x:=
 ⟨r.1,fun i h1 h2=>(r.2 i h1 h2).ext e⟩
def own (K:Kx) (h:aN) (B:Nat):Prop:=∃b k l,h[b]? = some (some k)/\K.φ b=some l/\l.B=B
def vW (sz:Nat) (CS:Array Value) (fr:Nat×Nat):Prop:=∀i,i<CS.size\/(1<sz/\i=CS.size)->¬(fr.1≤i/\i<fr.2\/fr.2<fr.1)
def Ah (K:Kx) (H:gC) (h:aN) (sz:Nat) (es:List (List IV)) (CS:Array Value) (s:Nat):Prop:=
 (∀e∈es,e.length=sz/\∀c∈e,c.one=true)/\s+es.length*sz≤CS.size/\
   ∀(i j:Nat) (e:List IV) (c:IV),es[i]? = some e->e[j]? = some c->∃v,CS[s+i*sz+j]? = some v/\bS K H h c v
structure qN (K:Kx) (h:aN) (H:gC):Prop where
 blk:∀b k,h[b]? = some (some k)->0<k.sz/\∃l,K.φ b=some l/\¬K.st true l.B/\∃CS el fr,H[l.B]? = some (.cells CS el fr)/\CS.size=l.E/\vW k.sz CS fr/\Ah K H h k.sz k.es CS l.s
 inj:∀b b' k k' l l',h[b]? = some (some k)->h[b']? = some (some k')->K.φ b=some l->K.φ b'=some l'->l.B=l'.B->b=b'
 sub:∀B,K.st false B->K.st true B
 lt:∀B,K.st true B->B<H.size
theorem qN.own_cells {K:Kx} {h:aN} {H:gC} (i:qN K h H) {B:Nat} (ho:own K h B):∃CS el fr,H[B]? = some (.cells CS el fr):=by
 obtain⟨b,k,l,e1,e2,rfl⟩:=ho
 obtain⟨_,l',e3,e4,CS,el,fr,e5,_⟩:=i.blk b k e1
 rw[e2]at e3;injection e3 with e3;subst e3
 exact⟨CS,el,fr,e5⟩
theorem qN.own_lt {K:Kx} {h:aN} {H:gC} (i:qN K h H) {B:Nat} (ho:own K h B):B<H.size/\¬K.st true B:=by
 obtain⟨b,k,l,e1,e2,rfl⟩:=ho
 obtain⟨_,l',e3,e4,CS,el,fr,e5,_⟩:=i.blk b k e1
 rw[e2]at e3;injection e3 with e3;subst e3
 refine⟨?_,e4⟩
 rcases iQ l.B H.size with hlt|hge
 ·exact hlt
 ·rw[Aj hge]at e5;cases e5
theorem Ah.ext {K K':Kx} {h h':aN} {H H':gC} {M M':Nat->Prop} (e:oF K h H M K' h' H' M') {sz:Nat} {es:List (List IV)} {CS:Array Value} {s:Nat} (r:Ah K H h sz es CS s):Ah K' H' h' sz es CS s:=
 ⟨r.1,r.2.1,fun i j e' c h1 h2=>by
   obtain⟨v,h3,h4⟩:=r.2.2 i j e' c h1 h2
   exact⟨v,h3,h4.ext e⟩⟩
end Go.Ideal
namespace Go.Ideal
inductive wH (K:Kx) (H:gC) (h:aN):Obj->List IV->Prop
 |cells (CS:Array Value) (el:TypeId) (fr:Nat×Nat) (cs:List IV) (hf:vW 1 CS fr) (hr:dE K H h cs CS.toList) (ho:∀c∈cs,c.one=true):wH K H h (.cells CS el fr) cs
 |iter (b:ByteArray) (pos:Nat):wH K H h (.stringIter b pos) [.mark,.str b.data.toList,.int .i64 pos]
theorem wH.ext {K K':Kx} {h h':aN} {H H':gC} {M M':Nat->Prop} (e:oF K h H M K' h' H' M') {o:Obj} {cs:List IV} (r:wH K H h o cs):wH K' H' h' o cs:=by
 cases r with
 |cells CS el fr cs hf hr ho=>exact .cells CS el fr cs hf (hr.ext e) ho
 |iter b pos=>exact .iter b pos
theorem wH.one {K:Kx} {h:aN} {H:gC} {o:Obj} {cs:List IV} (r:wH K H h o cs):∀c∈cs,c.one=true:=by
 cases r with
 |cells CS el fr cs hf hr ho=>exact ho
 |iter b pos=>intro c hc;simp at hc;rcases hc with rfl|rfl|rfl<;>rfl
theorem wH.cells_of {K:Kx} {h:aN} {H:gC} {o:Obj} {cs:List IV} (r:wH K H h o cs) (hi:Ts cs=false):∃CS el fr,o = .cells CS el fr/\vW 1 CS fr/\dE K H h cs CS.toList/\∀c∈cs,c.one=true:=by
 cases r with
 |cells CS el fr cs hf hr ho=>exact⟨CS,el,fr,rfl,hf,hr,ho⟩
 |iter b pos=>cases hi
def lK:Nat:=500000
structure Ae (K:Kx) (H:gC) (h:aN) (σ:Fr) (a:Array Value):Prop where
 val:∀t v,σ.get t=some (.val v)->t<lK->∃x,a[t]? = some x/\bS K H h v x
 box:∀t cs,σ.get t=some (.box cs)->∃B o,a[t]? = some (.pointer (some ⟨B,0,none⟩))/\H[B]? = some o/\wH K H h o cs/\¬K.st true B/\¬own K h B
 lptr:∀t s off,σ.get t=some (.lptr s off)->∃B cs,σ.get s=some (.box cs)/\a[s]? = some (.pointer (some ⟨B,0,none⟩))/\a[t]? = some (.pointer (some ⟨B,off,none⟩))
 sep:∀s t cs cs' B,σ.get s=some (.box cs)->σ.get t=some (.box cs')->a[s]? = some (.pointer (some ⟨B,0,none⟩))->a[t]? = some (.pointer (some ⟨B,0,none⟩))->s=t
def oN (σ:Fr) (a:Array Value) (B:Nat):Prop:=∃t cs,σ.get t=some (.box cs)/\a[t]? = some (.pointer (some ⟨B,0,none⟩))
def fZ (K:Kx) (h:aN) (σ:Fr) (a:Array Value) (B:Nat):Prop:=own K h B\/oN σ a B
theorem Ae.boxed_at {K:Kx} {H:gC} {h:aN} {σ:Fr} {a:Array Value} (r:Ae K H h σ a) {B:Nat} (hb:oN σ a B):∃t cs o,σ.get t=some (.box cs)/\a[t]? = some (.pointer (some ⟨B,0,none⟩))/\
 H[B]? = some o/\wH K H h o cs/\¬K.st true B/\¬own K h B:=by
 obtain⟨t,cs,h1,h2⟩:=hb
 obtain⟨B',o,h4,h5,h6,h7,h8⟩:=r.box t cs h1
 rw[h2]at h4
 injection h4 with h4;injection h4 with h4;injection h4 with h4;injection h4 with h4
 subst h4
 exact⟨t,cs,o,h1,h2,h5,h6,h7,h8⟩
theorem fI {H:gC} {B:Nat} {o:Obj} (h:H[B]? = some o):B<H.size:=by
 rcases iQ B H.size with hlt|hge
 ·exact hlt
 ·rw[Aj hge]at h;cases h
theorem mU {K:Kx} {H:gC} {h:aN} {σ:Fr} {a:Array Value} (i:qN K h H) (r:Ae K H h σ a) {B:Nat} (hm:fZ K h σ a B):B<H.size/\¬K.st true B:=by
 rcases hm with ho|hb
 ·exact i.own_lt ho
 ·obtain⟨t,cs,o,_,_,h5,_,h8,_⟩:=r.boxed_at hb
  exact⟨fI h5,h8⟩
def Ad (K:Kx) (H:gC) (h:aN) (σ:Fr) (a:Array Value) (sv:SV) (x:Value):Prop:=
 match sv with
 |.val v=>bS K H h v x
 |.lptr s off=>∃B cs,σ.get s=some (.box cs)/\a[s]? = some (.pointer (some ⟨B,0,none⟩))/\x = .pointer (some ⟨B,off,none⟩)
 |.box _=>False
def CR (iv:IV) (v:Value):Prop:=∀K H h,bS K H h iv v
inductive bG:Operand->SX->Prop
 |tmp (t:Nat) (ht:t<lK):bG (.tmp t) (.t t)
 |const (v:Value) (iv:IV) (h:CR iv v):bG (.const v) (.c iv)
 |func (f:Nat):bG (.func f) (.f f)
section
variable {K:Kx} {H:gC} {h:aN} {σ:Fr} {ac:Act}
theorem uO {t:Nat} {x:Value} (e:ac.tmps[t]? = some x):ac.eval (.tmp t)=x:=by
 simp[Act.eval,dA,e]
theorem kQ {x:Operand} {sx:SX} {sv:SV} (l:bG x sx) (r:Ae K H h σ ac.tmps) (e:sx.ev σ = some sv):Ad K H h σ ac.tmps sv (ac.eval x):=by
 cases l with
 |tmp t ht=>
  simp only[SX.ev]at e
  split at e
  ·rename_i cs hg
   injection e with e;subst e
   obtain⟨B,o,h1,_⟩:=r.box t cs hg
   exact⟨B,cs,hg,h1,uO h1⟩
  ·cases sv with
   |val v=>
    obtain⟨y,h1,h2⟩:=r.val t v e ht
    rw[uO h1];exact h2
   |box cs=>rename_i hn;exact absurd e (hn cs)
   |lptr s off=>
    obtain⟨B,cs,h1,h2,h3⟩:=r.lptr t s off e
    exact⟨B,cs,h1,h2,uO h3⟩
 |const v iv hc=>
  simp only[SX.ev,aD]at e;subst e
  exact hc K H h
 |func f=>
  simp only[SX.ev,aD]at e;subst e
  exact .fn _ [] [] #[] #[] rfl rfl (fun i h1=>absurd h1 (by simp)) fun i h1=>absurd h1 (by simp)
theorem cD {x:Operand} {sx:SX} {v:IV} (l:bG x sx) (r:Ae K H h σ ac.tmps) (e:sx.val σ = some v):bS K H h v (ac.eval x):=by
 simp only[SX.val]at e
 split at e
 ·rename_i u hu
  injection e with e;subst e
  exact kQ l r hu
 ·cases e
end
theorem tF {H:gC} {B o:Nat} {CS:Array Value} {el:TypeId} {fr:Nat×Nat} (h:H[B]? = some (.cells CS el fr)):wU H B o=CS[o]?:=by simp[wU,h]
theorem jD {α:Type} {l:List α} {d n j:Nat} {c:α} (h:((l.drop d).take n)[j]? = some c):j<n/\l[d+j]? = some c:=by
 rw[gW]at h
 split at h
 ·rename_i hj;rw[gX]at h;exact⟨hj,h⟩
 ·cases h
theorem rD {α:Type} (n:Nat) (p:Nat->α->Prop) (h:∀j,j<n->∃v,p j v):∃l:List α,l.length=n/\∀j v,l[j]? = some v->p j v:=by
 induction n with
 |zero=>exact⟨[],rfl,fun j v e=>by simp at e⟩
 |succ n ih=>
  obtain⟨l,h1,h2⟩:=ih fun j hj=>h j (by omega)
  obtain⟨v,hv⟩:=h n (by omega)
  refine⟨l++[v],by simp[h1],fun j u e=>?_⟩
  rw[eR]at e
  split at e
  ·exact h2 j u e
  ·rename_i hj
   have:j=n:=by
    rcases iQ (j-l.length) 1 with h3|h3
    ·omega
    ·rw[gT (by simpa using h3)]at e;cases e
   subst this
   rw[h1,Nat.sub_self]at e
   injection e with e;subst e;exact hv
theorem sL {es:List (List IV)} (hs:∀e∈es,e.length=1):es.flatten.length=es.length/\∀j:Nat,es.flatten[j]? = (es[j]?).bind (fun e=>e[0]?):=by
 induction es with
 |nil=>simp
 |cons e es ih=>
  obtain⟨h1,h2⟩:=ih fun x hx=>hs x (bT _ hx)
  have he:=hs e (cE ..)
  match e,he with
  |[c],_=>
   refine⟨by simp[h1],fun j=>?_⟩
   cases j with
   |zero=>simp
   |succ j=>simpa using h2 j
theorem wT {K:Kx} {H:gC} {h:aN} {σ:Fr} {a:Array Value} (iv:qN K h H) (r:Ae K H h σ a) {sv:SV} {x:Value} {n:Nat} {cs:List IV}
 (hs:Ad K H h σ a sv x) (e:eS (σ,h) sv n=some cs):
 cs.length=n/\(∀c∈cs,c.one=true)/\∃ad vs,x = .pointer (some ad)/\ad.spot=none/\dE K H h cs vs/\∀j v,vs[j]? = some v->wU H ad.block (ad.off+j)=some v:=by
 have key:∀(B o:Nat),cs.length=n->(∀(j:Nat) (c:IV),cs[j]? = some c->c.one=true/\∃v,wU H B (o+j)=some v/\bS K H h c v)->
  cs.length=n/\(∀c∈cs,c.one=true)/\∃vs:List Value,dE K H h cs vs/\∀j v,vs[j]? = some v->wU H B (o+j)=some v:=by
  intro B o hl hg
  refine⟨hl,fun c hc=>?_,?_⟩
  ·obtain⟨j,hj,rfl⟩:=dQ.1 hc
   exact(hg j _ (aG hj)).1
  ·obtain⟨vs,h1,h2⟩:=rD cs.length (fun j v=>∀c,cs[j]? = some c->wU H B (o+j)=some v/\bS K H h c v) fun j hj=>by
    obtain⟨_,v,h3,h4⟩:=hg j _ (aG hj)
    refine⟨v,fun c hc=>?_⟩
    rw[aG hj]at hc
    injection hc with hc;subst hc;exact⟨h3,h4⟩
   refine⟨vs,.mk' h1 fun j c hc=>?_,fun j v hv=>?_⟩
   ·have hj:=(aJ.1 hc).1
    refine⟨vs[j],aG (by omega),(h2 j _ (aG (by omega)) c hc).2⟩
   ·have hj:=(aJ.1 hv).1
    exact(h2 j v hv _ (aG (by omega))).1
 cases sv with
 |val v=>
  cases v<;>simp only[eS]at e<;>try (cases e;done)
  case rptr bor ee off=>
   split at e
   ·rename_i hle
    injection e with e;subst e
    simp only[Ad]at hs
    cases hs with
    |rptr _ _ _ B o cs hst hone hcs hv=>
     obtain⟨h1,h2,vs,h3,h4⟩:=key B (o+off) (by simp;omega) fun j c hc=>by
      obtain⟨h5,h6⟩:=jD hc
      obtain⟨h7,h8⟩:=aJ.1 h6
      refine⟨hone _ (aL h6),cs (off+j),by rw[eW];exact hcs _ h7,?_⟩
      rw[<-h8]
      exact(hv _ h7).weak (fun t B h=>⟨h,rfl⟩) h
     exact⟨h1,h2,⟨B,o+off,none⟩,vs,rfl,rfl,h3,h4⟩
   ·cases e
  case ptr b tot i off=>
   simp only[aA]at e
   obtain⟨k,hk,ee,hee,e⟩:=e
   simp only[Ad]at hs
   cases hs with
   |ptr _ _ _ _ ad hb hl=>
    obtain⟨hi,l,h1,rfl⟩:=hl k hk
    obtain⟨g1,g2⟩:=fJ.1 hk
    obtain⟨hsz,l',g3,_,CS,el,fr,g4,g5,g6,g7,g8,g9⟩:=iv.blk b k g1
    rw[h1]at g3;injection g3 with g3;subst g3
    split at e
    ·rename_i hle
     injection e with e;subst e
     obtain⟨q1,q2,vs,q3,q4⟩:=key l.B (l.s+i*k.sz+off) (by simp;omega) fun j c hc=>by
      obtain⟨h5,h6⟩:=jD hc
      obtain⟨v,h7,h8⟩:=g9 i (off+j) ee c hee h6
      refine⟨(g7 ee (aL hee)).2 c (aL h6),v,?_,h8⟩
      rw[tF g4,eW];exact h7
     exact⟨q1,q2,_,vs,rfl,rfl,q3,q4⟩
    ·split at e
     ·rename_i hle
      obtain⟨rfl,hz,hle⟩:=hle
      injection e with e;subst e
      have hone1:∀e∈(k.es.drop i).take n,e.length=1:=fun e he=>by
       have:=(g7 e (cU (bN he))).1;omega
      obtain⟨f1,f2⟩:=sL hone1
      obtain⟨q1,q2,vs,q3,q4⟩:=key l.B (l.s+i*k.sz+0) (by rw[f1];simp;omega) fun j c hc=>by
       rw[f2]at hc
       simp only[aA]at hc
       obtain⟨ee',he',hc⟩:=hc
       obtain⟨h5,h6⟩:=jD he'
       obtain⟨v,h7,h8⟩:=g9 (i+j) 0 ee' c h6 hc
       refine⟨(g7 ee' (aL h6)).2 c (aL hc),v,?_,h8⟩
       rw[tF g4]
       rw[hz]at h7 |-
       rw[show l.s+i*1+0+j=l.s+(i+j)*1+0 by omega]
       exact h7
      exact⟨q1,q2,_,vs,rfl,rfl,q3,q4⟩
     ·cases e
 |lptr s off=>
  simp only[eS]at e
  split at e
  ·rename_i cs' hg
   split at e
   ·rename_i hle
    injection e with e;subst e
    obtain⟨B,cs2,hg2,ha,rfl⟩:=hs
    obtain⟨B',ob,h4,h5,h6,h8,h9⟩:=r.box s cs' hg
    rw[ha]at h4;injection h4 with h4;injection h4 with h4;injection h4 with h4;injection h4 with h4;subst h4
    obtain⟨CS,el,fr,rfl,hfr,h7,hone⟩:=h6.cells_of hle.2
    obtain⟨q1,q2,vs,q3,q4⟩:=key B off (by simp;omega) fun j c hc=>by
     obtain⟨h10,h11⟩:=jD hc
     obtain⟨v,h12,h13⟩:=h7.get h11
     exact⟨hone c (aL h11),v,by rw[tF h5];simpa using h12,h13⟩
    exact⟨q1,q2,⟨B,off,none⟩,vs,rfl,rfl,q3,q4⟩
   ·cases e
  ·cases e
 |box cs=>exact hs.elim
end Go.Ideal
namespace Go.Ideal
def rL (CS:Array Value) (o:Nat):List Value->Array Value
 |[]=>CS
 |v::vs=>rL (CS.setIfInBounds o v) (o+1) vs
theorem iP (CS:Array Value) (o:Nat) (vs:List Value):(rL CS o vs).size=CS.size:=by
 induction vs generalizing CS o with
 |nil=>rfl
 |cons v vs ih=>simp[rL,ih]
theorem nW (CS:Array Value) (o:Nat) (vs:List Value) (hl:o+vs.length≤CS.size) (i:Nat):
 (rL CS o vs)[i]? = if o≤i/\i<o+vs.length then vs[i-o]? else CS[i]?:=by
 induction vs generalizing CS o with
 |nil=>simp[rL];intro h1 h2;omega
 |cons v vs ih=>
  simp only[rL,eE]at hl |-
  rw[ih _ _ (by simp;omega)]
  by_cases h1:o+1≤i/\i<o+1+vs.length
  ·rw[if_pos h1,if_pos (by omega)]
   rw[show i-o=(i-(o+1))+1 by omega]
   simp
  ·rw[if_neg h1]
   by_cases h2:o=i
   ·subst h2
    rw[if_pos (by omega)]
    simp[bO]
    omega
   ·rw[if_neg (by omega),bO,if_neg h2]
def jJ (H:gC) (B:Nat) (CS:Array Value) (el:TypeId) (fr:Nat×Nat):gC:=H.setIfInBounds B (.cells CS el fr)
theorem Fg (w:World) (B o:Nat) (v:Value) (CS:Array Value) (el:TypeId) (fr:Nat×Nat) (h:w.heap[B]? = some (.cells CS el fr)):
 (w.setCell ⟨B,o,none⟩ v).heap=jJ w.heap B (CS.setIfInBounds o v) el fr:=by
 simp only[World.setCell,jJ]
 apply oB
 intro i
 rw[Ay,bO]
 by_cases hi:B=i
 ·subst hi
  rw[if_pos rfl,if_pos rfl,if_pos (fI h),h]
  rfl
 ·simp[hi]
theorem kO {sz:Nat} (P:Program) (B o:Nat) (el:TypeId) (fr:Nat×Nat):∀(vs:List Value) (i:Nat) (CS:Array Value) (w:World),w.heap[B]? = some (.cells CS el fr)->vW sz CS fr->o+i+vs.length≤CS.size->
 (∀v∈vs,v.oneCell'=true)->∃w',(storeCells ⟨B,o,none⟩ vs i).run P w = .ok () w'/\w'.heap=jJ w.heap B (rL CS (o+i) vs) el fr/\((w'.os,w'.tape),w'.output)=((w.os,w.tape),w.output)
 |[],i,CS,w,hg,hf,hl,h1=>by
  refine⟨w,rfl,?_,rfl⟩
  simp only[rL,jJ]
  apply oB
  intro j
  rw[bO]
  by_cases hj:B=j
  ·subst hj;rw[if_pos rfl,if_pos (fI hg),hg]
  ·simp[hj]
 |v::vs,i,CS,w,hg,hf,hl,h1=>by
  have hadd:(⟨B,o,none⟩:Addr).add i=⟨B,o+i,none⟩:=by unfold Addr.add;split<;>simp_all
  have hi:o+i<CS.size:=by simp at hl;omega
  have hst:(store ((⟨B,o,none⟩:Addr).add i) v).run P w = .ok () (w.setCell ⟨B,o+i,none⟩ v):=by
   rw[hadd,run_store P w _ v _ (h1 v (by simp))]
   have hc:w.cell? ⟨B,o+i,none⟩=some (CS[o+i]):=by rw[rH,tF hg];simp[hi]
   have hz:w.frozen? ⟨B,o+i,none⟩=false:=by
    simp only[World.frozen?,hg]
    have:=fun h=>hf (o+i) (.inl hi) (.inl h)
    simpa using this
   rw[hc,hz]
   simp
  have hh:=Fg w B (o+i) v CS el fr hg
  obtain⟨w',h2,h3,hio⟩:=kO P B o el fr vs (i+1) (CS.setIfInBounds (o+i) v) (w.setCell ⟨B,o+i,none⟩ v)
   (by rw[hh];simp[jJ,bO,fI hg]) (by intro j hj;exact hf j (by simpa using hj)) (by simp at hl |-;omega) (fun x hx=>h1 x (by simp[hx]))
  refine⟨w',?_,?_,hio⟩
  ·simp only[storeCells,aO,hst,aH,h2]
  ·rw[h3,hh,rL]
   simp only[jJ]
   rw[show o+(i+1)=o+i+1 by omega]
   apply oB
   intro j
   simp only[bO,jX]
   split<;>rfl
theorem nI (H:gC) (B:Nat) (CS:Array Value) (el:TypeId) (fr:Nat×Nat) (j:Nat):(jJ H B CS el fr)[j]? = if B=j then (if B<H.size then some (.cells CS el fr) else none) else H[j]?:=by
 simp[jJ,bO]
theorem wN (H:gC) (B:Nat) (CS:Array Value) (el:TypeId) (fr:Nat×Nat):(jJ H B CS el fr).size=H.size:=by simp[jJ]
def uZ (h h1:aN):Prop:=h1.length=h.length/\∀b:Nat,(∀k1:mQ,h1[b]? = some (some k1)->∃k:mQ,h[b]? = some (some k)/\k1.sz=k.sz/\k1.es.length=k.es.length)/\(∀k:mQ,h[b]? = some (some k)->∃k1:mQ,h1[b]? = some (some k1))
theorem uZ.refl (h:aN):uZ h h:=⟨rfl,fun b=>⟨fun k1 e=>⟨k1,e,rfl,rfl⟩,fun k e=>⟨k,e⟩⟩⟩
theorem uZ.set {h:aN} {b:Nat} {k:mQ} {es:List (List IV)} (e:h[b]? = some (some k)) (hl:es.length=k.es.length):uZ h (h.set b (some ⟨k.sz,es⟩)):=by
 have hb:b<h.length:=(aJ.1 e).1
 refine⟨by simp,fun b'=>⟨fun k1 e1=>?_,fun k1 e1=>?_⟩⟩
 ·rw[eQ]at e1
  split at e1
  ·rename_i hb'
   subst hb'
   try rw[if_pos hb]at e1
   injection e1 with e1;injection e1 with e1;subst e1
   exact⟨k,e,rfl,hl⟩
  ·exact⟨k1,e1,rfl,rfl⟩
 ·rw[eQ]
  split
  ·try rw[if_pos hb]
   exact⟨_,rfl⟩
  ·exact⟨k1,e1⟩
theorem uZ.own {h h1:aN} (s:uZ h h1) {K:Kx} {B:Nat}:own K h1 B↔own K h B:=by
 constructor
 ·rintro⟨b,k,l,e1,e2,e3⟩
  obtain⟨k0,e4,_⟩:=(s.2 b).1 k e1
  exact⟨b,k0,l,e4,e2,e3⟩
 ·rintro⟨b,k,l,e1,e2,e3⟩
  obtain⟨k0,e4⟩:=(s.2 b).2 k e1
  exact⟨b,k0,l,e4,e2,e3⟩
theorem qT (H:gC) (B:Nat) (o:Obj) (j:Nat):(H.setIfInBounds B o)[j]? = if B=j then (if B<H.size then some o else none) else H[j]?:=by
 rw[bO]
theorem oF.writeO {K:Kx} {h h1:aN} {H:gC} {M M1:Nat->Prop} (s:uZ h h1) {B:Nat} (hM:M B) (hst:∀t,¬K.st t B) (hm:∀x,M1 x->M x) (o:Obj):
 oF K h H M K h1 (H.setIfInBounds B o) M1 where
 len:=by rw[s.1];exact aK _
 gen:=fun b k' hb e=>by
  obtain⟨k,h1,h2,h3⟩:=(s.2 b).1 k' e
  exact⟨k,h1,by omega,fun _=>⟨h2,rfl⟩⟩
 st:=fun t x hx=>⟨hx,by rw[qT,if_neg (fun e=>hst t (by rw[e];exact hx))]⟩
 st':=fun t x hx _=>hx
 nst:=fun t x hx=>.inl hx
 size:=by simp
 fr:=fun x _ hx=>by rw[qT,if_neg (fun e=>hx (by rw[<-e];exact hM))]
 mn:=fun x _ hx=>hm x hx
theorem oF.write {K:Kx} {h h1:aN} {H:gC} {M M1:Nat->Prop} (s:uZ h h1) {B:Nat} (hM:M B) (hst:∀t,¬K.st t B) (hm:∀x,M1 x->M x) (CS:Array Value) (el:TypeId) (fr:Nat×Nat):
 oF K h H M K h1 (jJ H B CS el fr) M1:=.writeO s hM hst hm _
theorem bL (σ:Fr) (t u:Nat) (v:SV):(σ.put t v).get u=if t=u then some v else σ.get u:=rfl
structure dK (K:Kx) (h:aN) (H:gC) (σ:Fr) (a:Array Value):Prop where
 inv:qN K h H
 fr:Ae K H h σ a
def Step (K:Kx) (h:aN) (H:gC) (σ:Fr) (a:Array Value) (K1:Kx) (h1:aN) (H1:gC) (σ1:Fr):Prop:=
 oF K h H (fZ K h σ a) K1 h1 H1 (fZ K1 h1 σ1 a)/\dK K1 h1 H1 σ1 a
theorem Step.refl {K:Kx} {h:aN} {H:gC} {σ:Fr} {a:Array Value} (g:dK K h H σ a):Step K h H σ a K h H σ:=⟨.refl ..,g⟩
theorem xR {K:Kx} {h:aN} {H:gC} {σ:Fr} {a:Array Value} (g:dK K h H σ a) {b:Nat} {k:mQ} (hk:h[b]? = some (some k)) {l:Uw} (hl:K.φ b=some l) {es:List (List IV)} (hlen:es.length=k.es.length)
 {CS CS1:Array Value} {el:TypeId} {fr:Nat×Nat} (hH:H[l.B]? = some (.cells CS el fr)) (hsz:CS1.size=CS.size) {fr1:Nat×Nat} (hfr1:vW k.sz CS1 fr1)
 (hel:∀e∈es,e.length=k.sz/\∀c∈e,c.one=true)
 (hc:∀(i j:Nat) (e:List IV) (c:IV),es[i]? = some e->e[j]? = some c->∃v,CS1[l.s+i*k.sz+j]? = some v/\bS K H h c v):
 Step K h H σ a K (h.set b (some ⟨k.sz,es⟩)) (jJ H l.B CS1 el fr1) σ:=by
 obtain⟨hpos,l0,e0,hst,CS0,el0,fr0,e1,e2,e3,e4⟩:=g.inv.blk b k hk
 rw[hl]at e0;injection e0 with e0;subst e0
 rw[hH]at e1;injection e1 with e1;injection e1 with e1 e1' e1'';subst e1;subst e1';subst e1''
 have hb:b<h.length:=(aJ.1 hk).1
 have sh:=uZ.set hk hlen
 have hstt:∀t,¬K.st t l.B:=fun t ht=>by
  cases t
  ·exact hst (g.inv.sub _ ht)
  ·exact hst ht
 have hown:own K h l.B:=⟨b,k,l,hk,hl,rfl⟩
 have E:oF K h H (fZ K h σ a) K (h.set b (some ⟨k.sz,es⟩)) (jJ H l.B CS1 el fr1) (fZ K (h.set b (some ⟨k.sz,es⟩)) σ a):=
  .write sh (.inl hown) hstt (fun x hx=>hx.imp sh.own.1 id) CS1 el fr1
 refine⟨E,⟨?_,?_⟩⟩
 ·refine⟨fun b' k' hk'=>?_,fun b' b'' k' k'' l' l'' h1 h2 h3 h4 h5=>?_,g.inv.sub,fun B hB=>by rw[wN];exact g.inv.lt B hB⟩
  ·rw[eQ]at hk'
   split at hk'
   ·rename_i hbb
    subst hbb
    try rw[if_pos hb]at hk'
    injection hk' with hk';injection hk' with hk';subst hk'
    refine⟨hpos,l,hl,hst,CS1,el,fr1,by rw[nI,if_pos rfl,if_pos (fI hH)],by omega,hfr1,hel,by have:=e4.2.1;simp only[hlen];omega,fun i j e c he hc'=>?_⟩
    obtain⟨v,h1,h2⟩:=hc i j e c he hc'
    exact⟨v,h1,h2.ext E⟩
   ·rename_i hbb
    obtain⟨hp',l',f1,f2,CS',el',fr',f3,f4,f5,f6⟩:=g.inv.blk b' k' hk'
    have hne:l.B≠l'.B:=fun e=>hbb (g.inv.inj b b' k k' l l' hk hk' hl f1 e)
    exact⟨hp',l',f1,f2,CS',el',fr',by rw[nI,if_neg hne];exact f3,f4,f5,f6.ext E⟩
  ·obtain⟨k1,g1,_⟩:=(sh.2 b').1 k' h1
   obtain⟨k2,g2,_⟩:=(sh.2 b'').1 k'' h2
   exact g.inv.inj b' b'' k1 k2 l' l'' g1 g2 h3 h4 h5
 ·refine⟨fun t v ht hgo=>?_,fun t cs ht=>?_,g.fr.lptr,g.fr.sep⟩
  ·obtain⟨x,h1,h2⟩:=g.fr.val t v ht hgo
   exact⟨x,h1,h2.ext E⟩
  ·obtain⟨B,ob,h1,h2,h4,h5,h6⟩:=g.fr.box t cs ht
   have hne:l.B≠B:=fun e=>h6 (e▸hown)
   exact⟨B,ob,h1,by rw[nI,if_neg hne];exact h2,h4.ext E,h5,fun ho=>h6 (sh.own.1 ho)⟩
theorem pB {K:Kx} {h:aN} {H:gC} {σ:Fr} {a:Array Value} (g:dK K h H σ a) {b:Nat} {k:mQ} (hk:h[b]? = some (some k)) {l:Uw} (hl:K.φ b=some l) {es:List (List IV)} (hlen:es.length=k.es.length)
 {CS CS1:Array Value} {el:TypeId} {fr:Nat×Nat} (hH:H[l.B]? = some (.cells CS el fr)) (hsz:CS1.size=CS.size)
 (hel:∀e∈es,e.length=k.sz/\∀c∈e,c.one=true)
 (hc:∀(i j:Nat) (e:List IV) (c:IV),es[i]? = some e->e[j]? = some c->∃v,CS1[l.s+i*k.sz+j]? = some v/\bS K H h c v):
 Step K h H σ a K (h.set b (some ⟨k.sz,es⟩)) (jJ H l.B CS1 el fr) σ:=by
 obtain⟨_,l0,e0,_,CS0,el0,fr0,e1,_,e3,_⟩:=g.inv.blk b k hk
 rw[hl]at e0;injection e0 with e0;subst e0
 rw[hH]at e1;injection e1 with e1;injection e1 with e1 e1' e1'';subst e1;subst e1';subst e1''
 exact xR g hk hl hlen hH hsz (fun i hi=>e3 i (by omega)) hel hc
theorem Mx {σ:Fr} {a:Array Value} {t:Nat} {cs cs':List IV} (hg:σ.get t=some (.box cs)) (B:Nat):oN (σ.put t (.box cs')) a B↔oN σ a B:=by
 constructor
 ·rintro⟨u,c,h1,h2⟩
  rw[bL]at h1
  split at h1
  ·rename_i e;subst e;exact⟨t,cs,hg,h2⟩
  ·exact⟨u,c,h1,h2⟩
 ·rintro⟨u,c,h1,h2⟩
  by_cases e:t=u
  ·subst e;exact⟨t,cs',by rw[bL,if_pos rfl],h2⟩
  ·exact⟨u,c,by rw[bL,if_neg e];exact h1,h2⟩
theorem Az {K:Kx} {h:aN} {H:gC} {σ:Fr} {a:Array Value} (g:dK K h H σ a) {t:Nat} {cs cs1:List IV} (hg:σ.get t=some (.box cs)) {B:Nat} (ha:a[t]? = some (.pointer (some ⟨B,0,none⟩)))
 {o o1:Obj} (hH:H[B]? = some o) (hr:wH K H h o1 cs1):
 Step K h H σ a K h (H.setIfInBounds B o1) (σ.put t (.box cs1)):=by
 obtain⟨B0,ob0,h1,h2,h4,h5,h6⟩:=g.fr.box t cs hg
 rw[ha]at h1;injection h1 with h1;injection h1 with h1;injection h1 with h1;injection h1 with h1;subst h1
 have hstt:∀t,¬K.st t B:=fun t ht=>by
  cases t
  ·exact h5 (g.inv.sub _ ht)
  ·exact h5 ht
 have E:oF K h H (fZ K h σ a) K h (H.setIfInBounds B o1) (fZ K h (σ.put t (.box cs1)) a):=
  .writeO (.refl h) (.inr ⟨t,cs,hg,ha⟩) hstt (fun x hx=>hx.imp id (Mx hg x).1) o1
 refine⟨E,⟨⟨fun b' k' hk'=>?_,g.inv.inj,g.inv.sub,fun x hx=>by simpa using g.inv.lt x hx⟩,⟨fun u v hu hgo=>?_,fun u c hu=>?_,fun u s off hu=>?_,fun u u' c c' x e1 e2 e3 e4=>?_⟩⟩⟩
 ·obtain⟨hp',l',f1,f2,CS',el',fr',f3,f4,f5,f6⟩:=g.inv.blk b' k' hk'
  have hne:B≠l'.B:=fun e=>h6 ⟨b',k',l',hk',f1,e.symm⟩
  exact⟨hp',l',f1,f2,CS',el',fr',by rw[qT,if_neg hne];exact f3,f4,f5,f6.ext E⟩
 ·rw[bL]at hu
  split at hu
  ·cases hu
  ·obtain⟨x,h1,h2⟩:=g.fr.val u v hu hgo
   exact⟨x,h1,h2.ext E⟩
 ·rw[bL]at hu
  split at hu
  ·rename_i e
   subst e
   injection hu with hu;injection hu with hu;subst hu
   exact⟨B,_,ha,by rw[qT,if_pos rfl,if_pos (fI hH)],hr.ext E,h5,h6⟩
  ·rename_i e
   obtain⟨B',ob,f1,f2,f4,f5,f6⟩:=g.fr.box u c hu
   have hne:B≠B':=fun e'=>e (g.fr.sep t u cs c B hg hu ha (e'▸f1))
   exact⟨B',ob,f1,by rw[qT,if_neg hne];exact f2,f4.ext E,f5,f6⟩
 ·rw[bL]at hu
  split at hu
  ·cases hu
  ·obtain⟨B',c,f1,f2,f3⟩:=g.fr.lptr u s off hu
   by_cases e:t=s
   ·subst e;exact⟨B',cs1,by rw[bL,if_pos rfl],f2,f3⟩
   ·exact⟨B',c,by rw[bL,if_neg e];exact f1,f2,f3⟩
 ·have f1:∃c,σ.get u=some (.box c):=by
   rw[bL]at e1;split at e1
   ·rename_i e;subst e;exact⟨cs,hg⟩
   ·exact⟨c,e1⟩
  have f2:∃c,σ.get u'=some (.box c):=by
   rw[bL]at e2;split at e2
   ·rename_i e;subst e;exact⟨cs,hg⟩
   ·exact⟨c',e2⟩
  obtain⟨c1,f1⟩:=f1
  obtain⟨c2,f2⟩:=f2
  exact g.fr.sep u u' c1 c2 x f1 f2 e3 e4
theorem Ld {K:Kx} {h:aN} {H:gC} {σ:Fr} {a:Array Value} (g:dK K h H σ a) {t:Nat} {cs cs1:List IV} (hg:σ.get t=some (.box cs)) {B:Nat} (ha:a[t]? = some (.pointer (some ⟨B,0,none⟩)))
 {CS CS1:Array Value} {el:TypeId} {fr:Nat×Nat} (hH:H[B]? = some (.cells CS el fr)) (hfr:vW 1 CS fr) (hsz:CS1.size=CS.size) (hone:∀c∈cs1,c.one=true) (hr:dE K H h cs1 CS1.toList):
 Step K h H σ a K h (jJ H B CS1 el fr) (σ.put t (.box cs1)):=Az g hg ha hH (.cells _ _ _ _ (fun i hi=>hfr i (by omega)) hr hone)
theorem kN {α:Type} {cs vs:List α} {off:Nat} (hl:off+vs.length≤cs.length) (j:Nat):(cs.take off++vs++cs.drop (off+vs.length))[j]? = if off≤j/\j<off+vs.length then vs[j-off]? else cs[j]?:=by
 rw[bQ,eR,bP]
 rw[show min off cs.length=off by omega]
 by_cases h1:j<off
 ·rw[if_pos h1,if_neg (by omega),gW,if_pos h1]
 ·rw[if_neg h1,eR]
  by_cases h2:j-off<vs.length
  ·rw[if_pos h2,if_pos (by omega)]
  ·rw[if_neg h2,if_neg (by omega),gX]
   congr 1;omega
theorem fV {α:Type} {cs vs:List α} {off:Nat} (hl:off+vs.length≤cs.length):(cs.take off++vs++cs.drop (off+vs.length)).length=cs.length:=by
 simp;omega
theorem Fe (P:Program) {K:Kx} {h:aN} {w:World} {σ:Fr} {a:Array Value} (g:dK K h w.heap σ a) {sv:SV} {x:Value} {cs:List IV} {vs:List Value} {s1:St}
 (hs:Ad K w.heap h σ a sv x) (hr:dE K w.heap h cs vs) (hone:∀c∈cs,c.one=true) (e:storeAt (σ,h) sv cs=some s1):
 ∃ad w1,x = .pointer (some ad)/\(storeCells ad vs).run P w = .ok () w1/\Step K h w.heap σ a K s1.2 w1.heap s1.1/\((w1.os,w1.tape),w1.output)=((w.os,w.tape),w.output):=by
 have hvone:=hr.one hone
 cases sv with
 |val v=>
  cases v<;>simp only[storeAt]at e<;>try (cases e;done)
  case ptr b tot i off=>
   simp only[aA]at e
   obtain⟨k,hk,ee,hee,e⟩:=e
   simp only[Ad]at hs
   cases hs with
   |ptr _ _ _ _ ad hb hl=>
    obtain⟨hi,l,h1,rfl⟩:=hl k hk
    obtain⟨g1,g2⟩:=fJ.1 hk
    obtain⟨hsz,l',g3,hst,CS,el,fr,g4,g5,g6,g7,g8,g9⟩:=g.inv.blk b k g1
    rw[h1]at g3;injection g3 with g3;subst g3
    have hil:i<k.es.length:=(aJ.1 hee).1
    have heel:ee.length=k.sz:=(g7 ee (aL hee)).1
    have hmul:i*k.sz+k.sz≤k.es.length*k.sz:=by rw[<-eF];exact bB _ hil
    split at e
    ·rename_i hle
     injection e with e;subst e
     have hb2:l.s+i*k.sz+off+vs.length≤CS.size:=by rw[hr.1];omega
     obtain⟨w1,r1,r2,rio⟩:=kO P l.B (l.s+i*k.sz+off) el fr vs 0 CS w g4 g6 (by simpa using hb2) hvone
     refine⟨_,w1,rfl,r1,?_,rio⟩
     rw[r2]
     refine pB g g1 h1 (by simp) g4 (iP _ _ _) (fun e he=>?_) fun i' j e c he hc=>?_
     ·rcases jL he with he|rfl
      ·exact g7 e he
      ·refine⟨by rw[eH,fV hle];exact heel,fun c hc=>?_⟩
       simp only[eH,aE]at hc
       rcases hc with (hc|hc)|hc
       ·exact(g7 ee (aL hee)).2 c (bN hc)
       ·exact hone c hc
       ·exact(g7 ee (aL hee)).2 c (cU hc)
     ·rw[nW _ _ _ (by simpa using hb2)]
      rw[eQ]at he
      split at he
      ·rename_i hii
       subst hii
       try rw[if_pos hil]at he
       injection he with he;subst he
       rw[eH,kN hle]at hc
       by_cases hj:off≤j/\j<off+cs.length
       ·rw[if_pos hj]at hc
        obtain⟨v,hv,hr'⟩:=hr.get hc
        refine⟨v,?_,hr'⟩
        rw[if_pos (by rw[hr.1];omega)]
        rw[<-hv];congr 1;omega
       ·rw[if_neg hj]at hc
        rw[if_neg (by rw[hr.1];omega)]
        exact g9 i j ee c hee hc
      ·rename_i hii
       have hj:j<k.sz:=by
        have h5:=(aJ.1 hc).1
        rw[(g7 e (aL he)).1]at h5;exact h5
       have hne:¬(l.s+i*k.sz+off+0≤l.s+i'*k.sz+j/\l.s+i'*k.sz+j<l.s+i*k.sz+off+0+vs.length):=by
        rw[hr.1]
        intro hh
        rcases Nat.lt_or_gt_of_ne hii with h5|h5
        ·have:=bB k.sz (oW h5)
         rw[eF]at this;omega
        ·have:=bB k.sz (oW h5)
         rw[eF]at this;omega
       rw[if_neg hne]
       exact g9 i' j e c he hc
    ·split at e
     ·rename_i hle
      obtain⟨rfl,hz,hle⟩:=hle
      injection e with e;subst e
      have hle':i+(cs.map fun v=>[v]).length≤k.es.length:=by simp;omega
      have hb2:l.s+i*k.sz+0+vs.length≤CS.size:=by rw[hr.1,hz];rw[hz]at g8;omega
      obtain⟨w1,r1,r2,rio⟩:=kO P l.B (l.s+i*k.sz+0) el fr vs 0 CS w g4 g6 (by simpa using hb2) hvone
      refine⟨_,w1,rfl,r1,?_,rio⟩
      rw[r2]
      have hsp:xD k.es i cs=k.es.take i++(cs.map fun v=>[v])++k.es.drop (i+(cs.map fun v=>[v]).length):=by simp[xD]
      refine pB g g1 h1 (by rw[hsp];exact fV hle') g4 (iP _ _ _) (fun e he=>?_) fun i' j e c he hc=>?_
      ·simp only[xD,aE,bI]at he
       rcases he with (he|⟨c,hc,rfl⟩)|he
       ·exact g7 e (bN he)
       ·exact⟨by simp[hz],fun c' hc'=>by simp at hc';subst hc';exact hone _ hc⟩
       ·exact g7 e (cU he)
      ·rw[nW _ _ _ (by simpa using hb2)]
       rw[hsp,kN hle']at he
       simp only[An]at he
       by_cases hj:i≤i'/\i'<i+cs.length
       ·rw[if_pos hj,Nm]at he
        simp only[aZ]at he
        obtain⟨c',hc',rfl⟩:=he
        have hj0:j=0:=by
         have h5:=(aJ.1 hc).1
         simp at h5;exact h5
        subst hj0
        simp at hc;subst hc
        obtain⟨v,hv,hr'⟩:=hr.get hc'
        refine⟨v,?_,hr'⟩
        rw[hz,if_pos (by rw[hr.1];omega)]
        rw[<-hv];congr 1;omega
       ·rw[if_neg hj]at he
        have hj0:j=0:=by
         have h5:=(aJ.1 hc).1
         rw[(g7 e (aL he)).1]at h5;omega
        subst hj0
        rw[if_neg (by rw[hr.1,hz];omega)]
        exact g9 i' 0 e c he hc
     ·cases e
 |lptr s off=>
  simp only[storeAt]at e
  split at e
  ·rename_i cs' hg
   split at e
   ·rename_i hle
    injection e with e;subst e
    obtain⟨B,cs2,hg2,ha,rfl⟩:=hs
    obtain⟨B',ob,h4,h5,h6',h8,h9⟩:=g.fr.box s cs' hg
    rw[ha]at h4;injection h4 with h4;injection h4 with h4;injection h4 with h4;injection h4 with h4;subst h4
    obtain⟨CS,el,fr,rfl,h6,h7,hone'⟩:=h6'.cells_of hle.2
    replace hle:=hle.1
    have hb2:off+vs.length≤CS.size:=by rw[hr.1];have:=h7.1;simp at this;omega
    obtain⟨w1,r1,r2,rio⟩:=kO P B off el fr vs 0 CS w h5 h6 (by simpa using hb2) hvone
    refine⟨_,w1,rfl,r1,?_,rio⟩
    rw[r2]
    refine Ld g hg ha h5 h6 (iP _ _ _) (fun c hc=>?_) (.mk' ?_ fun j c hc=>?_)
    ·simp only[eH,aE]at hc
     rcases hc with (hc|hc)|hc
     ·exact hone' c (bN hc)
     ·exact hone c hc
     ·exact hone' c (cU hc)
    ·rw[eH,fV hle]
     have:=h7.1
     simpa [iP]using this
    ·rw[Array.getElem?_toList,nW _ _ _ (by simpa using hb2)]
     rw[eH,kN hle]at hc
     by_cases hj:off≤j/\j<off+cs.length
     ·rw[if_pos hj]at hc
      obtain⟨v,hv,hr'⟩:=hr.get hc
      refine⟨v,?_,hr'⟩
      rw[if_pos (by rw[hr.1];omega)]
      rw[<-hv];congr 1
     ·rw[if_neg hj]at hc
      rw[if_neg (by rw[hr.1];omega)]
      obtain⟨v,hv,hr'⟩:=h7.get hc
      exact⟨v,by simpa using hv,hr'⟩
   ·cases e
  ·cases e
 |box cs=>exact hs.elim
end Go.Ideal
namespace Go.Ideal
def Kx.add (K:Kx) (b:Nat) (l:Uw):Kx:=⟨fun x=>if x=b then some l else K.φ x,K.st⟩
def Kx.stab (K:Kx) (B:Nat):Kx:=⟨K.φ,fun t x=>K.st t x\/x=B⟩
theorem jR (H:gC) (o:Obj) (j:Nat):(H.push o)[j]? = if j=H.size then some o else H[j]?:=by
 rw[Hl]
theorem iY (h:aN) (k:Option mQ) (b:Nat):(h++[k])[b]? = if b=h.length then some k else h[b]?:=by
 rw[eR]
 by_cases h1:b<h.length
 ·rw[if_pos h1,if_neg (by omega)]
 ·rw[if_neg h1]
  by_cases h2:b=h.length
  ·subst h2;simp
  ·rw[if_neg h2,gT (by simp;omega),gT (by omega)]
section
variable {K:Kx} {h:aN} {H:gC} {σ:Fr} {a:Array Value}
theorem yJ (g:dK K h H σ a) (o:Obj) {M1:Nat->Prop} (hm:∀x,x<H.size->M1 x->fZ K h σ a x):oF K h H (fZ K h σ a) K h (H.push o) M1 where
 len:=aK _
 gen:=fun b k' hb e=>⟨k',e,aK _,fun _=>⟨rfl,rfl⟩⟩
 st:=fun t x hx=>⟨hx,by
  have:x<H.size:=g.inv.lt x (by cases t;exact g.inv.sub x hx;exact hx)
  rw[jR,if_neg (by omega)]⟩
 st':=fun t x hx _=>hx
 nst:=fun t x hx=>.inl hx
 size:=by simp
 fr:=fun x hx _=>by rw[jR,if_neg (by omega)]
 mn:=hm
theorem uH {K1:Kx} {H1:gC} (g:dK K h H σ a) (E:oF K h H (fZ K h σ a) K1 h H1 (fZ K1 h σ a)) (hφ:K1.φ = K.φ) (hsame:∀x,fZ K h σ a x->H1[x]? = H[x]?)
 (hst:∀t x,K1.st t x->x<H.size->K.st t x) (hsub:∀x,K1.st false x->K1.st true x) (hlt:∀x,K1.st true x->x<H1.size):dK K1 h H1 σ a:=by
 have hown:∀B,own K1 h B↔own K h B:=fun B=>by unfold own;rw[hφ]
 refine⟨⟨fun b' k' hk'=>?_,fun b b' k k' l l' e1 e2 e3 e4=>g.inv.inj b b' k k' l l' e1 e2 (by rw[<-hφ];exact e3) (by rw[<-hφ];exact e4),hsub,hlt⟩,⟨fun t v ht hgo=>?_,fun t cs ht=>?_,g.fr.lptr,g.fr.sep⟩⟩
 ·obtain⟨hp',l',f1,f2,CS',el',fr',f3,f4,f5,f6⟩:=g.inv.blk b' k' hk'
  have hm:fZ K h σ a l'.B:=.inl ⟨b',k',l',hk',f1,rfl⟩
  exact⟨hp',l',by rw[hφ];exact f1,fun hs=>f2 (hst _ _ hs (fI f3)),CS',el',fr',(hsame _ hm).trans f3,f4,f5,f6.ext E⟩
 ·obtain⟨x,h1,h2⟩:=g.fr.val t v ht hgo
  exact⟨x,h1,h2.ext E⟩
 ·obtain⟨B,ob,h1,h2,h4,h5,h6⟩:=g.fr.box t cs ht
  exact⟨B,ob,h1,(hsame _ (.inr ⟨t,cs,ht,h1⟩)).trans h2,h4.ext E,fun hs=>h5 (hst _ _ hs (fI h2)),fun ho=>h6 ((hown B).1 ho)⟩
theorem rO (g:dK K h H σ a) (o:Obj):Step K h H σ a K h (H.push o) σ:=
 have E:=yJ g o (M1:=fZ K h σ a) (fun x _ hx=>hx)
 ⟨E,uH g E rfl (fun x hx=>by rw[jR,if_neg (by have:=(mU g.inv g.fr hx).1;omega)]) (fun _ _ hs _=>hs) g.inv.sub fun x hx=>bM (g.inv.lt x hx) (by simp)⟩
theorem Ka (g:dK K h H σ a) (o:Obj) (ho:∃CS el fr,o = .cells CS el fr):Step K h H σ a (K.stab H.size) h (H.push o) σ:=by
 have E:oF K h H (fZ K h σ a) (K.stab H.size) h (H.push o) (fZ (K.stab H.size) h σ a):=by
  have E0:=yJ g o (M1:=fZ K h σ a) (fun x _ hx=>hx)
  exact⟨E0.len,E0.gen,fun t x hx=>⟨.inl hx,(E0.st t x hx).2⟩,fun t x hx hl=>by
   rcases hx with hx|hx
   ·exact hx
   ·omega,E0.size,E0.fr,E0.mn,fun t x hx=>by
   rcases hx with hx|hx
   ·exact .inl hx
   ·obtain⟨CS,el,fr,rfl⟩:=ho
    have hx':x=H.size:=by omega
    subst hx'
    exact .inr ⟨aK _,CS,el,fr,by simp⟩⟩
 refine⟨E,uH g E rfl (fun x hx=>by rw[jR,if_neg (by have:=(mU g.inv g.fr hx).1;omega)]) (fun t x hs hl=>?_) (fun x hx=>?_) fun x hx=>?_⟩
 ·rcases hs with hs|hs
  ·exact hs
  ·omega
 ·rcases hx with hx|hx
  ·exact .inl (g.inv.sub x hx)
  ·exact .inr hx
 ·rcases hx with hx|hx
  ·exact bM (g.inv.lt x hx) (by simp)
  ·simp;omega
theorem yI (g:dK K h H σ a) {sz:Nat} {es:List (List IV)} {CS:Array Value} {el:TypeId} {fr:Nat×Nat} (hz:0<sz) (hf:vW sz CS fr) (hr:Ah K H h sz es CS 0):
 Step K h H σ a (K.add h.length ⟨H.size,0,CS.size⟩) (h++[some ⟨sz,es⟩]) (H.push (.cells CS el fr)) σ:=by
 have hφ:∀b,b<h.length->(K.add h.length ⟨H.size,0,CS.size⟩).φ b=K.φ b:=fun b hb=>by simp only[Kx.add];rw[if_neg (by omega)]
 have hφn:(K.add h.length ⟨H.size,0,CS.size⟩).φ h.length=some ⟨H.size,0,CS.size⟩:=by simp[Kx.add]
 have hlt:∀{b:Nat} {k:mQ},h[b]? = some (some k)->b<h.length:=fun e=>(aJ.1 e).1
 have hown:∀B,own (K.add h.length ⟨H.size,0,CS.size⟩) (h++[some ⟨sz,es⟩]) B->own K h B\/B=H.size:=by
  rintro B ⟨b,k,l,e1,e2,e3⟩
  rw[iY]at e1
  split at e1
  ·rename_i hb
   subst hb
   rw[hφn]at e2;injection e2 with e2;subst e2
   exact .inr e3.symm
  ·rw[hφ b (hlt e1)]at e2
   exact .inl ⟨b,k,l,e1,e2,e3⟩
 have E:oF K h H (fZ K h σ a) (K.add h.length ⟨H.size,0,CS.size⟩) (h++[some ⟨sz,es⟩]) (H.push (.cells CS el fr)) (fZ (K.add h.length ⟨H.size,0,CS.size⟩) (h++[some ⟨sz,es⟩]) σ a):=by
  have E0:=yJ g (.cells CS el fr) (M1:=fZ K h σ a) (fun x _ hx=>hx)
  refine⟨by simp,fun b k' hb e=>?_,E0.st,E0.st',E0.size,E0.fr,fun x hx hm=>?_,fun t x hx=>.inl hx⟩
  ·rw[iY,if_neg (by omega)]at e
   exact⟨k',e,aK _,fun _=>⟨rfl,hφ b hb⟩⟩
  ·rcases hm with ho|hb
   ·rcases hown x ho with h1|h1
    ·exact .inl h1
    ·omega
   ·exact .inr hb
 have hnst:¬K.st true H.size:=fun hs=>by have:=g.inv.lt _ hs;omega
 refine⟨E,⟨⟨fun b' k' hk'=>?_,fun b b' k k' l l' e1 e2 e3 e4 e5=>?_,g.inv.sub,fun x hx=>bM (g.inv.lt x hx) (by simp)⟩,⟨fun t v ht hgo=>?_,fun t cs ht=>?_,g.fr.lptr,g.fr.sep⟩⟩⟩
 ·rw[iY]at hk'
  split at hk'
  ·rename_i hb
   subst hb
   injection hk' with hk';injection hk' with hk';subst hk'
   exact⟨hz,_,hφn,hnst,CS,el,fr,by rw[jR,if_pos rfl],rfl,hf,hr.ext E⟩
  ·obtain⟨hp',l',f1,f2,CS',el',fr',f3,f4,f5,f6⟩:=g.inv.blk b' k' hk'
   exact⟨hp',l',by rw[hφ _ (hlt hk')];exact f1,f2,CS',el',fr',by rw[jR,if_neg (by have:=fI f3;omega)];exact f3,f4,f5,f6.ext E⟩
 ·rw[iY]at e1 e2
  have hB:∀{b:Nat} {k:mQ} {l:Uw},h[b]? = some (some k)->K.φ b=some l->l.B<H.size:=fun e1 e2=>(g.inv.own_lt ⟨_,_,_,e1,e2,rfl⟩).1
  split at e1
  ·rename_i hb
   subst hb
   rw[hφn]at e3;injection e3 with e3;subst e3
   split at e2
   ·rename_i hb';exact hb'.symm
   ·rw[hφ _ (hlt e2)]at e4
    have:=hB e2 e4
    simp only at e5;omega
  ·rw[hφ _ (hlt e1)]at e3
   split at e2
   ·rename_i hb'
    subst hb'
    rw[hφn]at e4;injection e4 with e4;subst e4
    have:=hB e1 e3
    simp only at e5;omega
   ·rw[hφ _ (hlt e2)]at e4
    exact g.inv.inj b b' k k' l l' e1 e2 e3 e4 e5
 ·obtain⟨x,h1,h2⟩:=g.fr.val t v ht hgo
  exact⟨x,h1,h2.ext E⟩
 ·obtain⟨B,ob,h1,h2,h4,h5,h6⟩:=g.fr.box t cs ht
  have:=fI h2
  exact⟨B,ob,h1,by rw[jR,if_neg (by omega)];exact h2,h4.ext E,h5,fun ho=>by
   rcases hown B ho with h7|h7
   ·exact h6 h7
   ·omega⟩
end
theorem uK {K:Kx} {H:gC} {h:aN} {v:IV} {x:Value} {vs:List IV} (r:bS K H h v x) (e:v.flat=some vs):(∀c∈vs,c.one=true)/\dE K H h vs x.cells.toList:=by
 by_cases ha:∃cs,v = .agg cs
 ·obtain⟨cs,rfl⟩:=ha
  simp only[IV.flat,aD]at e;subst e
  obtain⟨h1,l,rfl,h2⟩:=bS.agg_iff.1 r
  exact⟨h1,by simpa [Value.cells]using h2⟩
 ·have h1:vs=[v]/\v.one=true:=by cases v<;>simp_all [IV.flat,IV.one]
  obtain⟨rfl,h1⟩:=h1
  refine⟨fun c hc=>by simp at hc;subst hc;exact h1,?_⟩
  have hx:x.cells = #[x]:=by
   have:=r.one h1
   cases x<;>simp_all [Value.cells,Value.oneCell']
  rw[hx]
  exact .cons r .nil
theorem Ip (vs:List Value) (off i:Nat) (CS:Array Value):(vs.zipIdx i).foldl (fun cs (c,j)=>cs.setIfInBounds (off+j) c) CS=rL CS (off+i) vs:=by
 induction vs generalizing i CS with
 |nil=>rfl
 |cons v vs ih=>
  simp only[List.zipIdx_cons,kZ,rL]
  rw[ih]
  rfl
theorem Gf (x:Value) (off:Nat) (CS:Array Value):x.cells.zipIdx.foldl (fun cs (c,j)=>cs.setIfInBounds (off+j) c) CS=rL CS off x.cells.toList:=by
 have:=Ip x.cells.toList off 0 CS
 rw[iR]at this
 rw[<-this,<-Array.foldl_toList]
 congr 1
 simp
theorem Nb {K:Kx} {H:gC} {h:aN} {cs vs:List IV} {CS:Array Value} {xs:List Value} {off:Nat} (hr:dE K H h cs CS.toList) (hv:dE K H h vs xs) (hl:off+vs.length≤cs.length):
 dE K H h (eH cs off vs) (rL CS off xs).toList:=by
 have h1:=hr.1
 simp only[sJ]at h1
 refine .mk' (by rw[eH,fV hl];simp[iP,h1]) fun j c hc=>?_
 rw[Array.getElem?_toList,nW _ _ _ (by rw[hv.1];omega)]
 rw[eH,kN hl]at hc
 by_cases hj:off≤j/\j<off+vs.length
 ·rw[if_pos hj]at hc
  rw[if_pos (by rw[hv.1];exact hj)]
  exact hv.get hc
 ·rw[if_neg hj]at hc
  rw[if_neg (by rw[hv.1];exact hj)]
  obtain⟨v,e,r⟩:=hr.get hc
  exact⟨v,by simpa using e,r⟩
theorem Ht {cs vs:List IV} {off:Nat} (h1:∀c∈cs,c.one=true) (h2:∀c∈vs,c.one=true):∀c∈eH cs off vs,c.one=true:=by
 intro c hc
 simp only[eH,aE]at hc
 rcases hc with (hc|hc)|hc
 ·exact h1 c (bN hc)
 ·exact h2 c hc
 ·exact h1 c (cU hc)
inductive vB (place:Nat->Option (Nat×Nat)):List (Nat×Operand)->List (Nat×Nat×SX)->Prop
 |nil:vB place [] []
 |cons (i off n:Nat) (x:Operand) (sx:SX) (r:List (Nat×Operand)) (r':List (Nat×Nat×SX)) (hp:place i=some (off,n)) (hx:bG x sx) (h:vB place r r'):vB place ((i,x)::r) ((off,n,sx)::r')
theorem Gj {K:Kx} {H:gC} {h:aN} {σ:Fr} {ac:Act} (r:Ae K H h σ ac.tmps) {place:Nat->Option (Nat×Nat)} {ps:List (Nat×Operand)} {ps':List (Nat×Nat×SX)} (l:vB place ps ps'):
 ∀{cs cs':List IV} {CS:Array Value},dE K H h cs CS.toList->(∀c∈cs,c.one=true)->qJ σ cs ps'=some cs'->
  (∀c∈cs',c.one=true)/\cs'.length=cs.length/\∃CS',Instr.fill place CS (ps.map fun p=>(p.1,ac.eval p.2))=some CS'/\dE K H h cs' CS'.toList:=by
 induction l with
 |nil=>
  intro cs cs' CS hr ho e
  simp only[qJ,aD]at e;subst e
  exact⟨ho,rfl,CS,rfl,hr⟩
 |cons i off n x sx rr rr' hp hx hrest ih=>
  intro cs cs' CS hr ho e
  simp only[qJ,aA]at e
  obtain⟨v,hv,vs,hvs,e⟩:=e
  split at e
  ·rename_i hc
   obtain⟨f1,f2⟩:=uK (cD hx r hv) hvs
   have hl:off+vs.length≤cs.length:=by omega
   have hsz:CS.size=cs.length:=by simpa using hr.1
   have hxs:(ac.eval x).cells.size=n:=by have:=f2.1;simp at this;omega
   obtain⟨q1,q2,CS',q3,q4⟩:=ih (Nb hr f2 hl) (Ht ho f1) e
   refine⟨q1,by rw[q2,eH,fV hl],CS',?_,q4⟩
   simp only[eZ,Instr.fill,hp]
   rw[if_neg (by simp;omega),Gf]
   exact q3
  ·cases e
end Go.Ideal
namespace Go.Ideal
def Aw (P:Program) (t:TypeId) (n:Nat):Prop:=(P.info? t).map (·.size)=some n
def sM:TypeDesc->Bool
 |.struct _=>true
 |.array _ _=>true
 |_=>false
def Au (P:Program) (t:TypeId) (n:Option Nat):Prop:=∃d,P.underlying t=some d/\match n with
 |some n=>sM d=true/\Aw P t n
 |none=>sM d=false
def Lc (zs:List IV) (vs:List Value):Prop:=∀K H h,dE K H h zs vs
def MLk (P:Program) (m:String) (t f:Nat) (sel:Option (Nat×Nat)):Prop:=∃i me pr xt d,P.info? t=some i/\i.methods.find? (·.name==m)=some me/\me.func=some (f,pr)/\P.underlying xt=some d/\(if pr then ∃e,d = .pointer e else ∀e,d≠.pointer e)/\
 match sel with
 |none=>me.path = #[]/\xt=t
 |some (off,n)=>∃s fs fd,me.path = #[s]/\s.deref=false/\P.underlying s.struct=some (.struct fs)/\fs[s.index]? = some fd/\fd.offset=off/\fd.type=xt/\Au P xt (some n)
section
variable {P:Program} {w:World}
theorem fR {t:TypeId} {n:Nat} (h:Aw P t n):(sizeOf t).run P w = .ok n w:=by
 unfold Aw at h
 cases hi:P.info? t with
 |none=>simp[hi]at h
 |some i=>simp[hi]at h;subst h;simp[sizeOf,typeInfo,hi]
theorem nA {t:TypeId} {d:TypeDesc} (h:P.underlying t=some d):(isAgg t).run P w = .ok (sM d) w:=by
 unfold isAgg
 simp only[aO,run_underlying h,aH]
 cases d<;>rfl
theorem mC {t:TypeId} {z:Value} (h:(P.info? t).bind (·.zero)=some z):(zeroValue t).run P w = .ok z w:=by
 cases hi:P.info? t with
 |none=>simp[hi]at h
 |some i=>simp[hi]at h;simp[zeroValue,typeInfo,hi,h]
theorem Lr {a:Addr} {v:Value} (h:wU w.heap a.block a.off=some v) (hs:a.spot=none):(Go.load a).run P w = .ok v w:=by
 obtain⟨b,o,s⟩:=a
 simp only at hs;subst hs
 have:=rH w b o
 simp only at h
 rw[h]at this
 simp[this]
theorem fM {b o n:Nat}:(⟨b,o,none⟩:Addr).add n=⟨b,o+n,none⟩:=by unfold Addr.add;split<;>simp_all
theorem Bh {a:Addr} {vs:List Value} (h:∀j v,vs[j]? = some v->wU w.heap a.block (a.off+j)=some v) (hs:a.spot=none) {n:Nat} (hn:vs.length=n):(loadCells a n).run P w = .ok vs.toArray w:=by
 subst hn
 obtain⟨b,o,s⟩:=a
 simp only at hs;subst hs
 exact run_loadCells_list w ⟨b,o,none⟩ vs fun j v hv=>by
  rw[fM,rH];exact h j v hv
def Ym (n:Option Nat) (vs:List Value):Value:=match n with
 |some _=>.agg vs.toArray
 |none=>vs.headD undef
theorem wM {t:TypeId} {n:Option Nat} {a:Addr} {vs:List Value} (hk:Au P t n) (h:∀j v,vs[j]? = some v->wU w.heap a.block (a.off+j)=some v) (hs:a.spot=none) (hn:vs.length=n.getD 1):
 (loadVar t a).run P w = .ok (Ym n vs) w:=by
 obtain⟨d,hd,hk⟩:=hk
 unfold loadVar
 simp only[aO,nA hd,aH]
 cases n with
 |some n=>
  obtain⟨h1,h2⟩:=hk
  simp only[h1,if_true,aO,fR h2,aH]
  rw[Bh h hs (n:=n) (by simpa using hn)]
  rfl
 |none=>
  rw[hk]
  match vs,hn with
  |[v],_=>
   have:=h 0 v rfl
   simp only[aR,if_false,List.headD,Ym]
   exact Lr (by simpa using this) hs
end
structure qG (P:Program) (t e:TypeId) (sz:Nat):Prop where
 und:P.underlying t=some (.slice e)
 siz:Aw P e sz
inductive lM:Option Operand->Option SX->Prop
 |none:lM none none
 |some {x:Operand} {sx:SX} (h:bG x sx):lM (some x) (some sx)
inductive qK:List Operand->List SX->Prop
 |nil:qK [] []
 |cons {x:Operand} {sx:SX} {r:List Operand} {r':List SX} (h:bG x sx) (hr:qK r r'):qK (x::r) (sx::r')
inductive fP (P:Program):Op->TypeId->gQ->Prop
 |mov {x sx ty} (h:bG x sx):fP P (.move x) ty (.mov sx)
 |asg {x sx ty} (h:bG x sx):fP P (.assign x) ty (.mov sx)
 |pick {c a b sc sa sb ty} (hc:bG c sc) (ha:bG a sa) (hb:bG b sb):fP P (.pick c a b) ty (.pick sc sa sb)
 |alloc {e ty loc sz es} {z:Value} (hz:(P.info? e).bind (·.zero)=some z) (hc:Lc es.flatten z.cells.toList) (ho:∀c∈es.flatten,c.one=true):fP P (.alloc e) ty (.alloc loc sz es)
 |box {e x sx ty loc} (h:bG x sx):fP P (.box e x) ty (.box loc sx)
 |boxA {e x sx ty} (h:bG x sx):fP P (.box e x) ty (.boxA sx)
 |build {t ps zs ps' ty place} {z:Value} (hb:∀l,P.built t l=Instr.fill place z.cells l) (hc:Lc zs z.cells.toList) (ho:∀c∈zs,c.one=true) (hp:vB place ps.toList ps'):fP P (.build t ps) ty (.build zs ps')
 |bsl {t len ps ps' ty e sz zs own} {z:Value} (he:qG P t e sz) (hz:(P.info? e).bind (·.zero)=some z) (hc:Lc zs z.cells.toList) (ho:∀c∈zs,c.one=true)
   (hp:vB (fun i=>some (i*sz,sz)) ps.toList (ps'.map fun p=>(p.1*sz,sz,p.2))):fP P (.buildSlice t len ps) ty (.bsl own sz zs len ps')
 |load {t a sa n ty} (ha:bG a sa) (hk:Au P t n):fP P (.load t a) ty (.load n sa)
 |store {t a x sa sx n ty} (ha:bG a sa) (hx:bG x sx) (hs:Aw P t n):fP P (.store t a x) ty (.store n sa sx)
 |nilc {x sx ty} (h:bG x sx):fP P (.nilCheck x) ty (.nilc sx)
 |bin {op t x y yt sx sy ty} (hx:bG x sx) (hy:bG y sy):fP P (.binOp op t x y yt) ty (.bin op sx sy)
 |eqB {neg t x y yt sx sy ty} (hx:bG x sx) (hy:bG y sy) (ht:P.underlying t=some .bool):fP P (.binOp (if neg then .neq else .eql) t x y yt) ty (.eq neg (.leaf .b) sx sy)
 |eqP {neg t x y yt sx sy ty e} (hx:bG x sx) (hy:bG y sy) (ht:P.underlying t=some (.pointer e)):fP P (.binOp (if neg then .neq else .eql) t x y yt) ty (.eq neg .ptr sx sy)
 |eqS {neg t x y yt sx sy ty e} (hx:bG x sx) (hy:bG y sy) (ht:P.underlying t=some (.slice e)):fP P (.binOp (if neg then .neq else .eql) t x y yt) ty (.eq neg .sl sx sy)
 |eqF {neg t x y yt sx sy ty ps rs v} (hx:bG x sx) (hy:bG y sy) (ht:P.underlying t=some (.func ps rs v)):fP P (.binOp (if neg then .neq else .eql) t x y yt) ty (.eq neg .fnc sx sy)
 |eqC {neg t x y yt sx sy ty ks} (hx:bG x sx) (hy:bG y sy) (hg:P.eqGuardType P.depth t=false)
   (he:∀(w:World) (xs ys:List Value) (cx cy:List IV) (b:Bool) (K:Kx) (H:gC) (h:aN),dE K H h cx xs->dE K H h cy ys->Ideal.eqC ks cx cy=some b->(Op.equalIn Op.maxDepth t (.agg xs.toArray) (.agg ys.toArray)).run P w = .ok b w):
   fP P (.binOp (if neg then .neq else .eql) t x y yt) ty (.eq neg (.cells ks) sx sy)
 |un {op t x sx ty} (h:bG x sx):fP P (.unOp op t x) ty (.un op sx)
 |cvI {src dst x sx k ty d} (h:bG x sx) (hs:P.underlying src=some d) (hd:P.underlying dst=some (.int k)):fP P (.convert src dst x) ty (.cvI k sx)
 |cvSB {src dst x sx ty e own d} (h:bG x sx) (hs:P.underlying src=some d) (hd:P.underlying dst=some (.slice e)) (he:P.underlying e=some (.int .u8)):fP P (.convert src dst x) ty (.cvSB own sx)
 |cvLL {t x sx ty e} (h:bG x sx) (hs:P.underlying t=some (.slice e)) (he:P.underlying e=some (.int .u8)):fP P (.convert t t x) ty (.cvLL sx)
 |cvBS {src dst x sx ty e} (h:bG x sx) (hs:P.underlying src=some (.slice e)) (hd:P.underlying dst=some .string) (he:P.underlying e=some (.int .u8)) (hz:Aw P e 1):fP P (.convert src dst x) ty (.cvBS sx)
 |cvIS {src dst x sx ty k} (h:bG x sx) (hs:P.underlying src=some (.int k)) (hd:P.underlying dst=some .string):fP P (.convert src dst x) ty (.cvIS sx)
 |cvSS {src dst x sx ty} (h:bG x sx) (hs:P.underlying src=some .string) (hd:P.underlying dst=some .string):fP P (.convert src dst x) ty (.cvSS sx)
 |mkI {t x sx ty} (h:bG x sx) (hc:P.concrete t=true):fP P (.makeInterface t x) ty (.mkI t sx)
 |mkF {f a b a' b' ty} (ha:qK a.toList a') (hb:qK b.toList b'):fP P (.makeFunc f a b) ty (.mkF f a' b')
 |mks {t l c sl sc ty e sz zs bytes} {z:Value} (hl:bG l sl) (hc:bG c sc) (he:qG P t e sz) (hz:(P.info? e).bind (·.zero)=some z) (hzs:Lc zs z.cells.toList) (ho:∀c∈zs,c.one=true)
   (hb:(P.info? e).map (·.bytes)=some bytes):fP P (.makeSlice t l c) ty (.mks sz zs bytes sl sc)
 |slS {t x lo hi sx slo shi ty} (hx:bG x sx) (hlo:lM lo slo) (hhi:lM hi shi) (ht:P.underlying t=some .string):fP P (.slice t x lo hi none) ty (.slS sx slo shi)
 |slL {t x lo hi mx sx slo shi smx ty e sz} (hx:bG x sx) (hlo:lM lo slo) (hhi:lM hi shi) (hmx:lM mx smx) (he:qG P t e sz) (hh:mx.isSome=true->hi.isSome=true):fP P (.slice t x lo hi mx) ty (.slL sz sx slo shi smx)
 |slA {t x lo hi sx slo shi ty n e sz} (hx:bG x sx) (hlo:lM lo slo) (hhi:lM hi shi) (ht:P.underlying t=some (.array n e)) (hs:Aw P e sz):fP P (.slice t x lo hi none) ty (.slA n sz sx slo shi)
 |fadr {t x i sx ty fs f n} (hx:bG x sx) (ht:P.underlying t=some (.struct fs)) (hf:fs[i]? = some f) (hs:Aw P f.type n) (hn:n≠0):fP P (.fieldAddr t x i) ty (.fadr f.offset sx)
 |fld {t x i sx ty fs f n} (hx:bG x sx) (ht:P.underlying t=some (.struct fs)) (hf:fs[i]? = some f) (hk:Au P f.type n):fP P (.field t x i) ty (.fld f.offset n sx)
 |iadr {t x i sx si ty e sz} (hx:bG x sx) (hi:bG i si) (he:qG P t e sz):fP P (.indexAddr t x i) ty (.iadr sz sx si)
 |iadrA {t x i sx si ty n e sz} (hx:bG x sx) (hi:bG i si) (ht:P.underlying t=some (.array n e)) (hs:Aw P e sz):fP P (.indexAddr t x i) ty (.iadrA n sz sx si)
 |idxS {t x i sx si ty} (hx:bG x sx) (hi:bG i si) (ht:P.underlying t=some .string):fP P (.index t x i) ty (.idxS sx si)
 |idxA {t x i sx si ty n e sz} (hx:bG x sx) (hi:bG i si) (ht:P.underlying t=some (.array n e)) (hs:Aw P e sz) (g:Bool) (hk:Au P e (if g then some sz else none)):fP P (.index t x i) ty (.idxA n sz g sx si)
 |ext {x i sx ty} (h:bG x sx):fP P (.extract x i) ty (.ext sx i)
 |callc {c f args ty} (hc:c.callee = .value (.func f)) (ha:qK c.args.toList args):fP P (.call c) ty (.callc f args)
 |call {c f args ty} (hc:c.callee = .value (.func f)) (ha:qK c.args.toList args):fP P (.call c) ty (.call f args)
 |asrt {x xt t ok ag zs sx ty} {z:Value} (hx:bG x sx) (hd:∃d,P.underlying t=some d/\∀m,d≠.interface m) (hz:(P.info? t).bind (·.zero)=some z) (hag:if ag then ∃vs,z = .agg vs else z.cells = #[z])
   (hzs:Lc zs z.cells.toList) (ho:∀c∈zs,c.one=true):fP P (.typeAssert x xt t ok) ty (.asrt ok t ag zs sx)
 |callm {c m rx sx args tab ty} (hc:c.callee = .invoke rx m) (hx:bG rx sx) (ha:qK c.args.toList args) (ht:∀r∈tab,MLk P m r.1 r.2.1 r.2.2):fP P (.call c) ty (.callm tab sx args)
 |callv {c f sf args ty} (hc:c.callee = .value f) (hf:bG f sf) (ha:qK c.args.toList args):fP P (.call c) ty (.callv sf args)
 |app {c x y sx sy ty t t2 e sz bytes} (hc:c.callee = .builtin .append) (ha:c.args = #[x,y]) (ht:c.argTypes = #[t,t2]) (hx:bG x sx) (hy:bG y sy) (he:qG P t e sz) (hb:(P.info? e).map (·.bytes)=some bytes)
   (h2:∃d,P.underlying t2=some d/\∀k,d≠.int k) (hz:∃z,(P.info? e).bind (·.zero)=some z/\z.cells.size=sz/\∀c∈z.cells.toList,c.oneCell'=true):fP P (.call c) ty (.app sz bytes sx sy)
 |appz {c x n sx sn ty t t2 e sz bytes zs} {z:Value} (hc:c.callee = .builtin .append) (ha:c.args = #[x,n]) (ht:c.argTypes = #[t,t2]) (hx:bG x sx) (hn:bG n sn) (he:qG P t e sz) (h2:P.underlying t2=some (.int .i64))
   (hb:(P.info? e).map (·.bytes)=some bytes) (hz:(P.info? e).bind (·.zero)=some z) (hzs:Lc zs z.cells.toList) (ho:∀c∈zs,c.one=true):fP P (.call c) ty (.appz sz bytes zs sx sn)
 |clr {c x sx ty t e sz zs} {z:Value} (hc:c.callee = .builtin .clear) (ha:c.args = #[x]) (ht:c.argTypes = #[t]) (hx:bG x sx) (he:qG P t e sz) (hz:(P.info? e).bind (·.zero)=some z) (hzs:Lc zs z.cells.toList) (ho:∀c∈zs,c.one=true):fP P (.call c) ty (.clr sz zs sx)
 |cpy {c x y sx sy ty t t2 e sz} (hc:c.callee = .builtin .copy) (ha:c.args = #[x,y]) (ht:c.argTypes = #[t,t2]) (hx:bG x sx) (hy:bG y sy) (he:qG P t e sz):fP P (.call c) ty (.cpy sz sx sy)
 |lenS {c x sx ty t d} (hc:c.callee = .builtin .len) (ha:c.args = #[x]) (ht:c.argTypes = #[t]) (hx:bG x sx) (b:Bool) (hu:P.underlying t=some d) (hd:(b=true/\d = .string)\/(b=false/\∃e,d = .slice e)):fP P (.call c) ty (.len b sx)
 |lenA {c x ty t n e} (hc:c.callee = .builtin .len) (ha:c.args = #[x]) (ht:c.argTypes = #[t]) (hu:P.underlying t=some (.array n e)):fP P (.call c) ty (.lenA n)
 |cap {c x sx ty t e} (hc:c.callee = .builtin .cap) (ha:c.args = #[x]) (ht:c.argTypes = #[t]) (hx:bG x sx) (hu:P.underlying t=some (.slice e)):fP P (.call c) ty (.cap sx)
 |mn {c x y sx sy ty} (hc:c.callee = .builtin .min) (ha:c.args = #[x,y]) (hx:bG x sx) (hy:bG y sy):fP P (.call c) ty (.mn sx sy)
 |mx {c x y sx sy ty} (hc:c.callee = .builtin .max) (ha:c.args = #[x,y]) (hx:bG x sx) (hy:bG y sy):fP P (.call c) ty (.mx sx sy)
 |range {t x sx ty} (hx:bG x sx) (ht:P.underlying t=some .string):fP P (.range t x) ty (.range sx)
 |next {x sx ty} (hx:bG x sx):fP P (.next x true) ty (.next sx)
 |bad {op ty}:fP P op ty .bad
def Uv (K:Kx) (H:gC) (h:aN) (σ:Fr) (a:Array Value) (n0:Nat) (sv:SV) (x:Value):Prop:=
 match sv with
 |.box cs=>∃B o,x = .pointer (some ⟨B,0,none⟩)/\H[B]? = some o/\wH K H h o cs/\¬K.st true B/\¬own K h B/\¬oN σ a B/\n0≤B
 |sv=>Ad K H h σ a sv x
def mL (P:Program) (o:Oper) (ac:Act) (w:World) (K:Kx) (h:aN) (σ:Fr) (sv:SV) (s1:St):Prop:=
 ∃x w1 K1,((execOp ac.eval o).run P w = .ok (.value x) w1\/(x=undef/\(execOp ac.eval o).run P w = .ok .skip w1))/\((w1.os,w1.tape),w1.output)=((w.os,w.tape),w.output)/\
  Step K h w.heap σ ac.tmps K1 s1.2 w1.heap s1.1/\Uv K1 w1.heap s1.2 s1.1 ac.tmps w.heap.size sv x
section
variable {P:Program} {o:Oper} {ac:Act} {w:World} {K:Kx} {h:aN} {σ:Fr}
theorem mL.pure' (g:dK K h w.heap σ ac.tmps) {v:IV} {x:Value} (hr:(execOp ac.eval o).run P w = .ok (.value x) w) (hv:bS K w.heap h v x):mL P o ac w K h σ (.val v) (σ,h):=
 ⟨x,w,K,.inl hr,rfl,.refl g,hv⟩
end
end Go.Ideal
namespace Go.Ideal
theorem gB {es:List (List IV)} {sz:Nat} (hs:∀e∈es,e.length=sz):es.flatten.length=es.length*sz/\
 ∀(i j:Nat) (e:List IV) (c:IV),es[i]? = some e->e[j]? = some c->es.flatten[i*sz+j]? = some c:=by
 induction es with
 |nil=>exact⟨by simp,fun i j e c h=>by simp at h⟩
 |cons x es ih=>
  obtain⟨h1,h2⟩:=ih fun e he=>hs e (bT _ he)
  have hx:=hs x (cE ..)
  refine⟨by simp only[cB,aV,h1,hx,eE,eF];omega,fun i j e c he hc=>?_⟩
  rw[cB,eR]
  cases i with
  |zero=>
   simp only[oE,aD]at he;subst he
   have hj:=(aJ.1 hc).1
   rw[Nj,bV,if_pos hj];exact hc
  |succ i=>
   simp only[kE]at he
   rw[if_neg (by rw[hx,eF];omega),hx]
   rw[show (i+1)*sz+j-sz=i*sz+j by rw[eF];omega]
   exact h2 i j e c he hc
theorem Et {K:Kx} {H:gC} {h:aN} {es:List (List IV)} {sz:Nat} {CS:Array Value} (hs:∀e∈es,e.length=sz) (ho:∀c∈es.flatten,c.one=true) (hr:dE K H h es.flatten CS.toList):Ah K H h sz es CS 0:=by
 obtain⟨h1,h2⟩:=gB hs
 refine⟨fun e he=>⟨hs e he,fun c hc=>ho c (List.mem_flatten_of_mem he hc)⟩,?_,fun i j e c he hc=>?_⟩
 ·have:=hr.1
  simp only[sJ]at this;omega
 ·obtain⟨v,h3,h4⟩:=hr.get (h2 i j e c he hc)
  exact⟨v,by rw[bV];simpa using h3,h4⟩
theorem rB {sz:Nat} (CS:Array Value):vW sz CS (0,0):=fun i _ h=>by simp at h
theorem vO {K:Kx} {H:gC} {h:aN} {σ:Fr} {a:Array Value} {n:Nat} {sv:SV} {x:Value} (hs:Ad K H h σ a sv x):Uv K H h σ a n sv x:=by
 cases sv with
 |box cs=>exact hs.elim
 |val v=>exact hs
 |lptr s o=>exact hs
theorem Step.ofHeap {K:Kx} {h:aN} {H H1:gC} {σ:Fr} {a:Array Value} (g:dK K h H σ a) (e:H1=H):Step K h H σ a K h H1 σ:=by subst e;exact .refl g
section
variable {P:Program} {o:Oper} {ac:Act} {w:World} {K:Kx} {h:aN} {σ:Fr}
theorem Vb (g:dK K h w.heap σ ac.tmps) {x:Operand} {sx:SX} (hx:bG x sx) (ho:o.op = .move x\/o.op = .assign x) {sv:SV} {s1:St} (e:((sx.ev σ).bind fun v=>some (v,((σ,h):St)))=some (sv,s1)):mL P o ac w K h σ sv s1:=by
 simp only[aA]at e
 obtain⟨v,hv,e⟩:=e
 injection e with e;injection e with e1 e2;subst e1;subst e2
 refine⟨ac.eval x,w,K,.inl ?_,rfl,.refl g,vO (kQ hx g.fr hv)⟩
 rcases ho with ho|ho<;>simp[execOp,ho]
theorem Nv (g:dK K h w.heap σ ac.tmps) {el:TypeId} {CS:Array Value} (hr:(execOp ac.eval o).run P w = .ok (.value (.pointer (some ⟨w.heap.size,0,none⟩))) { w with heap:=w.heap.push (.cells CS el) })
 {cs:List IV} (ho:∀c∈cs,c.one=true) (hl:dE K w.heap h cs CS.toList):
 mL P o ac w K h σ (.box cs) (σ,h)/\
 ∀(es:List (List IV)) (sz:Nat),cs=es.flatten->(∀e∈es,e.length=sz)->0<sz->mL P o ac w K h σ (.val (.ptr h.length es.length 0 0)) (σ,h++[some ⟨sz,es⟩]):=by
 constructor
 ·have S:=rO g (.cells CS el)
  refine⟨_,_,K,.inl hr,rfl,S,w.heap.size,.cells CS el,rfl,by simp,.cells _ _ _ _ (rB _) (hl.ext S.1) ho,fun hs=>?_,fun hs=>?_,fun hs=>?_,aK _⟩
  ·have:=g.inv.lt _ hs;omega
  ·have:=(g.inv.own_lt hs).1;omega
  ·have:=(mU g.inv g.fr (.inr hs)).1;omega
 ·rintro es sz rfl hs hz
  have S:=yI g (el:=el) (fr:=(0,0)) hz (rB CS) (Et hs ho hl)
  refine⟨_,_,_,.inl hr,rfl,S,?_⟩
  refine .ptr _ _ _ _ _ ⟨by simp,fun k hk=>?_⟩ fun k hk=>⟨fO _,⟨w.heap.size,0,CS.size⟩,by simp[Kx.add],by simp⟩
  rw[iY,if_pos rfl]at hk
  injection hk with hk;injection hk with hk;subst hk
  exact aK _
theorem Sf (g:dK K h w.heap σ ac.tmps) {e:TypeId} {z:Value} {loc:Bool} {sz:Nat} {es:List (List IV)} {d:Option Nat} (ho:o.op = .alloc e) (hz:(P.info? e).bind (·.zero)=some z) (hc:Lc es.flatten z.cells.toList)
 (hone:∀c∈es.flatten,c.one=true) {call:Nat->List IV->aN->Option (IV×aN)} {opn:Nat->Bool} {sv:SV} {s1:St} (ev:aT call opn d (.alloc loc sz es) (σ,h)=some (sv,s1)):mL P o ac w K h σ sv s1:=by
 have hr:(execOp ac.eval o).run P w = .ok (.value (.pointer (some ⟨w.heap.size,0,none⟩))) { w with heap:=w.heap.push (.cells z.cells e) }:=by
  simp[execOp,ho,Instr.alloc,mC hz,newVar,newRow,newObj,Sem.run]
 obtain⟨y1,y2⟩:=Nv g hr hone (hc _ _ _)
 simp only[aT]at ev
 split at ev
 ·split at ev
  ·rename_i t e'
   split at ev
   ·injection ev with ev;injection ev with e1 e2;subst e1;subst e2
    simpa using y1
   ·cases ev
  ·cases ev
 ·split at ev
  ·rename_i hh
   injection ev with ev;injection ev with e1 e2;subst e1;subst e2
   exact y2 es sz rfl (by simpa using hh.1) hh.2
  ·cases ev
theorem Vc (g:dK K h w.heap σ ac.tmps) {e:TypeId} {x:Operand} {sx:SX} {loc:Bool} {d:Option Nat} (hx:bG x sx) (ho:o.op = .box e x)
 {call:Nat->List IV->aN->Option (IV×aN)} {opn:Nat->Bool} {sv:SV} {s1:St} (ev:aT call opn d (.box loc sx) (σ,h)=some (sv,s1)\/aT call opn d (.boxA sx) (σ,h)=some (sv,s1)):mL P o ac w K h σ sv s1:=by
 have hr:(execOp ac.eval o).run P w = .ok (.value (.pointer (some ⟨w.heap.size,0,none⟩))) { w with heap:=w.heap.push (.cells (ac.eval x).cells e) }:=by
  simp[execOp,ho,Instr.box,newVar,newRow,newObj,Sem.run]
 rcases ev with ev|ev
 ·simp only[aT,aA]at ev
  obtain⟨v,hv,vs,hvs,ev⟩:=ev
  obtain⟨f1,f2⟩:=uK (cD hx g.fr hv) hvs
  obtain⟨y1,y2⟩:=Nv g hr f1 f2
  split at ev
  ·split at ev
   ·split at ev
    ·injection ev with ev;injection ev with e1 e2;subst e1;subst e2
     exact y1
    ·cases ev
   ·cases ev
  ·split at ev
   ·rename_i hh
    injection ev with ev;injection ev with e1 e2;subst e1;subst e2
    exact y2 [vs] vs.length (by simp) (by simp) hh
   ·cases ev
 ·simp only[aT,aA]at ev
  obtain⟨v,hv,vs,hvs,ev⟩:=ev
  obtain⟨f1,f2⟩:=uK (cD hx g.fr hv) hvs
  obtain⟨y1,y2⟩:=Nv g hr f1 f2
  injection ev with ev;injection ev with e1 e2;subst e1;subst e2
  have hfl:∀l:List IV,l=(l.map fun c=>[c]).flatten:=fun l=>by induction l with
   |nil=>rfl
   |cons c l ih=>simpa using ih
  have:=y2 (vs.map fun c=>[c]) 1 (hfl vs) (by simp) (by omega)
  simpa using this
theorem Sc (g:dK K h w.heap σ ac.tmps) {t:TypeId} {x:Operand} {sx:SX} {d:Option Nat} (hx:bG x sx) (ht:P.underlying t=some .string) (ho:o.op = .range t x)
 {call:Nat->List IV->aN->Option (IV×aN)} {opn:Nat->Bool} {sv:SV} {s1:St} (ev:aT call opn d (.range sx) (σ,h)=some (sv,s1)):mL P o ac w K h σ sv s1:=by
 simp only[aT,aA]at ev
 obtain⟨v,hv,ev⟩:=ev
 split at ev
 ·rename_i b u
  split at ev
  ·injection ev with ev;injection ev with e1 e2;subst e1;subst e2
   have hvr:=cD hx g.fr hv
   generalize hxe:ac.eval x=xv at hvr
   cases hvr with
   |str b=>
    have hr:(execOp ac.eval o).run P w = .ok (.value (.pointer (some ⟨w.heap.size,0,none⟩))) { w with heap:=w.heap.push (.stringIter b 0) }:=by
     simp[execOp,ho,hxe,Instr.range,run_underlying ht,newObj,Sem.run]
    have S:=rO g (.stringIter b 0)
    refine⟨_,_,K,.inl hr,rfl,S,w.heap.size,.stringIter b 0,rfl,by simp,.iter b 0,fun hs=>?_,fun hs=>?_,fun hs=>?_,aK _⟩
    ·have:=g.inv.lt _ hs;omega
    ·have:=(g.inv.own_lt hs).1;omega
    ·have:=(mU g.inv g.fr (.inr hs)).1;omega
  ·cases ev
 ·cases ev
theorem Bw {s:Option SV} {r:List UInt8×Nat} (e:Ig s=some r):s=some (.box [.mark,.str r.1,.int .i64 (r.2:Nat)]):=by
 unfold Ig at e
 split at e
 ·split at e
  ·rename_i h
   injection e with e;subst e
   simp[Int.toNat_of_nonneg h]
  ·cases e
 ·cases e
theorem Ln {P:Program} (w:World) (k:Nat) (s:ByteArray) (pos:Nat) (ty:TypeId) (hk:w.heap[k]? = some (.stringIter s pos)) (h:pos<s.size):
 (Instr.next (.pointer (some ⟨k,0,none⟩)) true ty).run P w =
   .ok (.tuple #[.bool true,goInt pos,.int .i32 (Utf8.decode s pos).1]) { w with heap:=w.heap.setIfInBounds k (.stringIter s (pos+(Utf8.decode s pos).2)) }:=by
 simp only[Instr.next,getObj,setObj,aO,Sem.run,hk,Result.andThen,h,if_true]
 simp
theorem Lq {P:Program} (w:World) (k:Nat) (s:ByteArray) (pos:Nat) (ty:TypeId) (hk:w.heap[k]? = some (.stringIter s pos)) (h:¬pos<s.size):
 (Instr.next (.pointer (some ⟨k,0,none⟩)) true ty).run P w = .ok (.tuple #[.bool false]) w:=by
 simp[Instr.next,getObj,Sem.run,hk,h]
theorem Wa (g:dK K h w.heap σ ac.tmps) {x:Operand} {sx:SX} {d:Option Nat} (hx:bG x sx) (ho:o.op = .next x true)
 {call:Nat->List IV->aN->Option (IV×aN)} {opn:Nat->Bool} {sv:SV} {s1:St} (ev:aT call opn d (.next sx) (σ,h)=some (sv,s1)):mL P o ac w K h σ sv s1:=by
 simp only[aT]at ev
 split at ev
 ·rename_i t
  simp only[aA]at ev
  obtain⟨r,hr,ev⟩:=ev
  have hg:=Bw hr
  obtain⟨B,ob,h1,h2,h3,h4,h5⟩:=g.fr.box t _ hg
  have hxe:ac.eval x = .pointer (some ⟨B,0,none⟩):=by
   cases hx
   exact uO h1
  obtain⟨bs,pos⟩:=r
  generalize hcs:([.mark,.str bs,.int .i64 (pos:Nat)]:List IV)=cs at h3
  cases h3 with
  |cells CS el fr _ hf hr' ho'=>
   subst hcs
   obtain⟨v,_,hv⟩:=hr'.get (i:=0) rfl
   cases hv
  |iter b p=>
   injection hcs with _ hcs;injection hcs with e1 hcs;injection hcs with e2 _
   injection e1 with e1;injection e2 with _ e2
   subst e1
   have e2:pos=p:=by omega
   subst e2
   have hlen:b.data.toList.length=b.size:=sJ
   have hsg:nF b.data.toList pos=Utf8.decode b pos:=by simp[nF]
   have hop:execOp ac.eval o=(Instr.next (.pointer (some ⟨B,0,none⟩)) true o.type >>= fun v=>pure (.value v)):=by
    simp[execOp,ho,hxe]
   split at ev
   ·rename_i hlt
    simp only[hlen]at hlt
    injection ev with ev;injection ev with e1 e2;subst e1;subst e2
    have S:=Az g hg h1 h2 (.iter b (pos+(Utf8.decode b pos).2))
    refine⟨.tuple #[.bool true,goInt pos,.int .i32 (Utf8.decode b pos).1],{ w with heap:=w.heap.setIfInBounds B (.stringIter b (pos+(Utf8.decode b pos).2)) },K,.inl ?_,rfl,?_,?_⟩
    ·rw[hop,aO,Ln w B b pos o.type h2 hlt]
     rfl
    ·simpa [hsg]using S
    ·simp only[hsg]
     refine .tup _ _ rfl fun i h1 h2=>?_
     rcases i with _|_|_|i
     ·exact .bool true
     ·exact .int _ _
     ·exact .int _ _
     ·simp at h1;omega
   ·rename_i hlt
    simp only[hlen]at hlt
    injection ev with ev;injection ev with e1 e2;subst e1;subst e2
    refine⟨.tuple #[.bool false],w,K,.inl ?_,rfl,.refl g,?_⟩
    ·rw[hop,aO,Lq w B b pos o.type h2 hlt]
     rfl
    ·refine .tup _ _ rfl fun i h1 h2=>?_
     rcases i with _|i
     ·exact .bool false
     ·simp at h1
 ·cases ev
theorem Gk {sz:Nat} {ps:List (Nat×SX)}:∀{es es':List (List IV)},(∀e∈es,e.length=sz)->lD σ sz es ps=some es'->
 qJ σ es.flatten (ps.map fun p=>(p.1*sz,sz,p.2))=some es'.flatten/\(∀e∈es',e.length=sz)/\es'.length=es.length:=by
 induction ps with
 |nil=>intro es es' hs e;simp only[lD,aD]at e;subst e;exact⟨rfl,hs,rfl⟩
 |cons p ps ih=>
  intro es es' hs e
  obtain⟨i,x⟩:=p
  simp only[lD,aA]at e
  obtain⟨v,hv,vs,hvs,e⟩:=e
  split at e
  ·rename_i hc
   obtain⟨hc1,hc2⟩:=hc
   obtain⟨f1,f2⟩:=gB hs
   have hs':∀e∈es.set i vs,e.length=sz:=fun e he=>by
    rcases jL he with he|rfl
    ·exact hs e he
    ·exact hc1
   obtain⟨q1,q2,q3⟩:=ih hs' e
   refine⟨?_,q2,by rw[q3];simp⟩
   simp only[eZ,qJ,aA]
   have hle:i*sz+sz≤es.flatten.length:=by rw[f1,<-eF];exact bB _ hc2
   refine⟨v,hv,vs,hvs,?_⟩
   rw[if_pos ⟨hc1,hle⟩]
   have hsp:eH es.flatten (i*sz) vs=(es.set i vs).flatten:=by
    clear q1 q2 q3 e hs' f1 f2 hle ih hvs
    induction es generalizing i with
    |nil=>simp at hc2
    |cons y es ih=>
     have hy:=hs y (cE ..)
     cases i with
     |zero=>simp[eH,hc1,<-hy]
     |succ i=>
      have:=ih (fun e he=>hs e (bT _ he)) i (by simpa using hc2)
      simp only[List.set_cons_succ,cB]
      rw[<-this]
      have e1:(i+1)*sz=y.length+i*sz:=by rw[eF,hy];omega
      simp only[eH,e1,eW,List.take_length_add_append,List.drop_length_add_append,bQ]
   rw[hsp]
   exact q1
  ·cases e
theorem y_bsl (g:dK K h w.heap σ ac.tmps) {t:TypeId} {len:Nat} {ps:Array (Nat×Operand)} {ps':List (Nat×SX)} {e:TypeId} {sz:Nat} {z:Value} {zs:List IV} {own:Bool} {d:Option Nat} (ho:o.op = .buildSlice t len ps)
 (he:qG P t e sz) (hz:(P.info? e).bind (·.zero)=some z) (hc:Lc zs z.cells.toList) (hone:∀c∈zs,c.one=true) (hp:vB (fun i=>some (i*sz,sz)) ps.toList (ps'.map fun p=>(p.1*sz,sz,p.2)))
 {call:Nat->List IV->aN->Option (IV×aN)} {opn:Nat->Bool} {sv:SV} {s1:St} (ev:aT call opn d (.bsl own sz zs len ps') (σ,h)=some (sv,s1)):mL P o ac w K h σ sv s1:=by
 simp only[aT]at ev
 split at ev
 ·rename_i hh
  obtain⟨hzl,hpos,hlen⟩:=hh
  simp only[aA]at ev
  obtain⟨es,hes,ev⟩:=ev
  obtain⟨f1,f2,f3⟩:=Gk (by intro e he;rw[cA he];exact hzl) hes
  have hzr:=hc K w.heap h
  have hzsz:z.cells.size=sz:=by have:=hzr.1;simp at this;omega
  have hinit:dE K w.heap h (List.replicate len zs).flatten ((Array.range (len*sz)).map (fun i=>(if len*sz=0 then (#[]:Array Value) else z.cells)[i%(if len*sz=0 then (#[]:Array Value) else z.cells).size]!)).toList:=by
   by_cases h0:len*sz=0
   ·have:len=0:=by rcases Nat.mul_eq_zero.1 h0 with h|h<;>omega
    subst this
    simp[dE]
   ·simp only[h0,if_false]
    have g1:=(gB (es:=List.replicate len zs) (sz:=sz) (by intro e he;rw[cA he];exact hzl))
    refine .mk' (by rw[g1.1];simp) fun i c hcc=>?_
    have hi:i<len*sz:=by
     have:=(aJ.1 hcc).1
     rw[g1.1]at this;simpa using this
    have hm:i%sz<sz:=Nat.mod_lt _ hpos
    have hd:i/sz<len:=by rw[Ax hpos];exact hi
    have e1:zs[i%sz]? = some (zs[i%sz]'(by omega)):=aG (by omega)
    have:=g1.2 (i/sz) (i%sz) zs _ (by rw[kD,if_pos hd]) e1
    rw[show i/sz*sz+i%sz=i by rw[Af];exact Al i sz]at this
    rw[this]at hcc
    injection hcc with hcc;subst hcc
    obtain⟨v,hv,hr⟩:=hzr.get e1
    refine⟨v,?_,hr⟩
    have h2:z.cells[i%sz]? = some v:=by simpa using hv
    have h3:=(dY.1 h2)
    obtain⟨h3,h4⟩:=h3
    simp[hi,hzsz,getElem!_pos z.cells (i%sz) h3,h4]
  obtain⟨q1,q2,CS,q3,q4⟩:=Gj g.fr hp hinit (by
   intro c hcc
   obtain⟨l,h1,h2⟩:=eY.1 hcc
   rw[cA h1]at h2
   exact hone c h2) f1
  have hr:(execOp ac.eval o).run P w = .ok (.value (.slice (some ⟨w.heap.size,0,none⟩) len len)) { w with heap:=w.heap.push (.cells CS e) }:=by
   simp only[execOp,ho,Instr.buildSlice,aO,run_underlying he.und,aH,fR he.siz]
   rw[if_neg (by omega)]
   have hl:(ps.map (fun x=>(x.1,ac.eval x.2))).toList=ps.toList.map fun p=>(p.1,ac.eval p.2):=by simp
   by_cases h0:len*sz=0
   ·simp only[h0,if_true]at q3 |-
    simp only[aO,aU,aH,hl]
    rw[q3]
    simp[newRow,newObj,Sem.run]
   ·simp only[h0,if_false]at q3 |-
    simp only[aO,mC hz,aU,aH,hl]
    rw[q3]
    simp[newRow,newObj,Sem.run]
  have hlen':es.length=len:=by rw[f3];simp
  split at ev
  ·injection ev with ev;injection ev with e1 e2;subst e1;subst e2
   have S:=yI g (el:=e) (fr:=(0,0)) hpos (rB CS) (Et f2 q1 q4)
   refine⟨_,_,_,.inl hr,rfl,S,?_⟩
   have hcs:len*sz≤CS.size:=by
    have:=q4.1
    simp only[sJ]at this
    rw[this,(gB f2).1,hlen'];exact aK _
   refine .sl _ _ _ _ _ _ _ ⟨by simp,fun k hk=>?_⟩ (aK _) fun k hk=>?_
   ·rw[iY,if_pos rfl]at hk
    injection hk with hk;injection hk with hk;subst hk
    simp only;omega
   ·obtain⟨hk,_⟩:=fJ.1 hk
    rw[iY,if_pos rfl]at hk
    injection hk with hk;injection hk with hk;subst hk
    exact⟨by omega,by omega,by omega,by omega,⟨w.heap.size,0,CS.size⟩,by simp[Kx.add],.inr (by simp),by simpa using hcs⟩
  ·split at ev
   ·rename_i hown
    injection ev with ev;injection ev with e1 e2;subst e1;subst e2
    have S:=Ka g (.cells CS e) ⟨_,_,_,rfl⟩
    refine⟨_,_,_,.inl hr,rfl,S,?_⟩
    simp only[Uv,Ad]
    have hfl:=gB f2
    have hget:∀i j (hi:i<es.length) (hj:j<(es[i]).length),∃v,CS[i*sz+j]? = some v/\bS K w.heap h (es[i][j]) v:=fun i j hi hj=>by
     have:=hfl.2 i j es[i] (es[i][j]) (aG hi) (aG hj)
     obtain⟨v,h1,h2⟩:=q4.get this
     exact⟨v,by simpa using h1,h2⟩
    have hcs:∀i j,∃v,∀(hi:i<es.length) (hj:j<(es[i]).length),CS[i*sz+j]? = some v/\bS K w.heap h (es[i][j]) v:=fun i j=>by
     by_cases hi:i<es.length
     ·by_cases hj:j<(es[i]).length
      ·obtain⟨v,hv⟩:=hget i j hi hj
       exact⟨v,fun _ _=>hv⟩
      ·exact⟨undef,fun _ h=>absurd h hj⟩
     ·exact⟨undef,fun h=>absurd h hi⟩
    obtain⟨cs,hcs⟩:=Classical.axiomOfChoice (fun i=>Classical.axiomOfChoice (hcs i))
    rw[<-hlen']
    refine .lit es ⟨w.heap.size,0,none⟩ sz cs f2 (fun e he c hcc=>q1 c (List.mem_flatten_of_mem he hcc)) ⟨.inr rfl,rfl⟩ (fun i j hi hj=>?_) (fun i j hi hj=>?_) ?_
    ·have:=(hcs i j hi hj).1
     simp only[wU]
     rw[jR,if_pos rfl]
     simpa using this
    ·exact(hcs i j hi hj).2.ext S.1
    ·rw[IV.ownL_eq,kF]at hown
     obtain⟨c,hc,hco⟩:=hown
     obtain⟨e0,he,hc⟩:=eY.1 hc
     obtain⟨i,hi,rfl⟩:=dQ.1 he
     obtain⟨j,hj,rfl⟩:=dQ.1 hc
     exact⟨i,j,hi,hj,hco⟩
   ·rename_i hown
    injection ev with ev;injection ev with e1 e2;subst e1;subst e2
    have S:=Ka g (.cells CS e) ⟨_,_,_,rfl⟩
    refine⟨_,_,_,.inl hr,rfl,S,?_⟩
    simp only[Uv,Ad]
    have hfl:=gB f2
    simp only[IV.ownL_eq,dT,cC]at hown
    have hget:∀i j (hi:i<es.length) (hj:j<(es[i]).length),∃v,CS[i*sz+j]? = some v/\bS K w.heap [] (es[i][j]) v:=fun i j hi hj=>by
     have:=hfl.2 i j es[i] (es[i][j]) (aG hi) (aG hj)
     obtain⟨v,h1,h2⟩:=q4.get this
     exact⟨v,by simpa using h1,h2.of_own (by simpa using hown _ (aL this))⟩
    have hcs:∀i j,∃v,∀(hi:i<es.length) (hj:j<(es[i]).length),CS[i*sz+j]? = some v/\bS K w.heap [] (es[i][j]) v:=fun i j=>by
     by_cases hi:i<es.length
     ·by_cases hj:j<(es[i]).length
      ·obtain⟨v,hv⟩:=hget i j hi hj
       exact⟨v,fun _ _=>hv⟩
      ·exact⟨undef,fun _ h=>absurd h hj⟩
     ·exact⟨undef,fun h=>absurd h hi⟩
    have:=Classical.axiomOfChoice (fun i=>Classical.axiomOfChoice (hcs i))
    obtain⟨cs,hcs⟩:=this
    rw[<-hlen']
    refine .ro false es ⟨w.heap.size,0,none⟩ es.length sz cs (aK _) f2 (fun e he c hcc=>q1 c (List.mem_flatten_of_mem he hcc)) (fun _=>⟨.inr rfl,rfl⟩) (fun i j hi hj=>?_) fun i j hi hj=>?_
    ·have:=(hcs i j hi hj).1
     simp only[wU]
     rw[jR,if_pos rfl]
     simpa using this
    ·exact(hcs i j hi hj).2.weak S.1.st []
 ·cases ev
theorem Wb (g:dK K h w.heap σ ac.tmps) {t:TypeId} {a:Operand} {sa:SX} {n:Option Nat} {d:Option Nat} (ho:o.op = .load t a) (ha:bG a sa) (hk:Au P t n)
 {call:Nat->List IV->aN->Option (IV×aN)} {opn:Nat->Bool} {sv:SV} {s1:St} (ev:aT call opn d (.load n sa) (σ,h)=some (sv,s1)):mL P o ac w K h σ sv s1:=by
 simp only[aT,aA]at ev
 obtain⟨va,hva,ev⟩:=ev
 have hsr:=kQ ha g.fr hva
 have main:∀(m:Nat) (cs:List IV),eS (σ,h) va m=some cs->m=n.getD 1->∃vs:List Value,dE K w.heap h cs vs/\(∀c∈cs,c.one=true)/\cs.length=m/\
  (execOp ac.eval o).run P w = .ok (.value (Ym n vs)) w:=by
  intro m cs hcs hm
  obtain⟨h1,h2,ad,vs,h3,h4,h5,h6⟩:=wT g.inv g.fr hsr hcs
  refine⟨vs,h5,h2,h1,?_⟩
  have:=wM (P:=P) hk h6 h4 (by rw[h5.1,h1,hm])
  simp[execOp,ho,Instr.loadAt,h3,Instr.sureAddr,this]
 cases n with
 |none=>
  simp only[aA]at ev
  obtain⟨cs,hcs,ev⟩:=ev
  obtain⟨vs,h1,h2,h3,h4⟩:=main 1 cs hcs rfl
  split at ev
  ·rename_i v
   injection ev with ev;injection ev with e1 e2;subst e1;subst e2
   obtain⟨x,r,rfl,hx,hr⟩:=h1.cons_inv
   rw[hr.nil_inv]at h4
   exact .pure' g h4 hx
  ·cases ev
 |some n=>
  simp only[aA]at ev
  obtain⟨cs,hcs,ev⟩:=ev
  obtain⟨vs,h1,h2,h3,h4⟩:=main n cs hcs rfl
  injection ev with ev;injection ev with e1 e2;subst e1;subst e2
  exact .pure' g h4 (bS.agg_iff.2 ⟨h2,vs,rfl,h1⟩)
theorem Sb (g:dK K h w.heap σ ac.tmps) {t:TypeId} {a x:Operand} {sa sx:SX} {n:Nat} {d:Option Nat} (ho:o.op = .store t a x) (ha:bG a sa) (hx:bG x sx) (hs:Aw P t n)
 {call:Nat->List IV->aN->Option (IV×aN)} {opn:Nat->Bool} {sv:SV} {s1:St} (ev:aT call opn d (.store n sa sx) (σ,h)=some (sv,s1)):mL P o ac w K h σ sv s1:=by
 simp only[aT,aA]at ev
 obtain⟨va,hva,v,hv,vs,hvs,ev⟩:=ev
 split at ev
 ·rename_i hn
  simp only[aA]at ev
  obtain⟨s,hst,ev⟩:=ev
  injection ev with ev;injection ev with e1 e2;subst e1;subst e2
  obtain⟨f1,f2⟩:=uK (cD hx g.fr hv) hvs
  obtain⟨ad,w1,h1,h2,h3,hio⟩:=Fe P g (kQ ha g.fr hva) f2 f1 hst
  refine⟨undef,w1,K,.inr ⟨rfl,?_⟩,hio,h3,.tup [] #[] rfl fun i h=>absurd h (by simp)⟩
  have hsz:(ac.eval x).cells.size=n:=by have:=f2.1;simp at this;omega
  simp only[execOp,ho,Instr.storeAt,h1,Instr.sureAddr,storeVar,aO,aU,aH,fR hs,hsz,ne_eq,not_true_eq_false,if_false]
  simp[h2]
 ·cases ev
end
end Go.Ideal
namespace Go.Ideal
section
variable {P:Program} {o:Oper} {ac:Act} {w:World} {K:Kx} {h:aN} {σ:Fr} {d:Option Nat} {call:Nat->List IV->aN->Option (IV×aN)} {opn:Nat->Bool} {sv:SV} {s1:St}
theorem bS.int_inv {K:Kx} {H:gC} {h:aN} {k:IntKind} {n:Int} {x:Value} (r:bS K H h (.int k n) x):x = .int k n:=by cases r;rfl
theorem bS.bool_inv {K:Kx} {H:gC} {h:aN} {b:Bool} {x:Value} (r:bS K H h (.bool b) x):x = .bool b:=by cases r;rfl
theorem bS.str_inv {K:Kx} {H:gC} {h:aN} {s:List UInt8} {x:Value} (r:bS K H h (.str s) x):∃b:ByteArray,x = .string b/\b.data.toList=s:=by cases r;exact⟨_,rfl,rfl⟩
theorem bS.str' {K:Kx} {H:gC} {h:aN} {s:List UInt8} {b:ByteArray} (e:b.data.toList=s):bS K H h (.str s) (.string b):=by subst e;exact .str b
theorem Vy (g:dK K h w.heap σ ac.tmps) {c a b:Operand} {sc sa sb:SX} (ho:o.op = .pick c a b) (hc:bG c sc) (ha:bG a sa) (hb:bG b sb) (ev:aT call opn d (.pick sc sa sb) (σ,h)=some (sv,s1)):mL P o ac w K h σ sv s1:=by
 simp only[aT,aA]at ev
 obtain⟨vc,hvc,ev⟩:=ev
 have rc:=cD hc g.fr hvc
 split at ev
 ·simp only[aA]at ev
  obtain⟨v,hv,ev⟩:=ev
  injection ev with ev;injection ev with e1 e2;subst e1;subst e2
  exact .pure' g (x:=ac.eval a) (by simp[execOp,ho,rc.bool_inv,asBool]) (cD ha g.fr hv)
 ·simp only[aA]at ev
  obtain⟨v,hv,ev⟩:=ev
  injection ev with ev;injection ev with e1 e2;subst e1;subst e2
  exact .pure' g (x:=ac.eval b) (by simp[execOp,ho,rc.bool_inv,asBool]) (cD hb g.fr hv)
 ·cases ev
theorem Se (g:dK K h w.heap σ ac.tmps) {t:TypeId} {ps:Array (Nat×Operand)} {ps':List (Nat×Nat×SX)} {place:Nat->Option (Nat×Nat)} {z:Value} {zs:List IV} (ho:o.op = .build t ps)
 (hb:∀l,P.built t l=Instr.fill place z.cells l) (hc:Lc zs z.cells.toList) (hone:∀c∈zs,c.one=true) (hp:vB place ps.toList ps') (ev:aT call opn d (.build zs ps') (σ,h)=some (sv,s1)):mL P o ac w K h σ sv s1:=by
 simp only[aT,aA]at ev
 obtain⟨cs,hcs,ev⟩:=ev
 injection ev with ev;injection ev with e1 e2;subst e1;subst e2
 obtain⟨q1,q2,CS,q3,q4⟩:=Gj g.fr hp (hc K w.heap h) hone hcs
 have hl:(ps.map (fun x=>(x.1,ac.eval x.2))).toList=ps.toList.map fun p=>(p.1,ac.eval p.2):=by simp
 have hr:(Instr.build t (ps.map (fun x=>(x.1,ac.eval x.2)))).run P w = .ok (.agg CS) w:=run_build w t _ CS (by rw[hb,hl,q3])
 refine .pure' g (x:=.agg CS) ?_ (bS.agg_iff.2 ⟨q1,CS.toList,by simp,q4⟩)
 simp only[execOp,ho,aO,hr,aH,aU]
theorem Vz (g:dK K h w.heap σ ac.tmps) {x:Operand} {sx:SX} (ho:o.op = .nilCheck x) (hx:bG x sx) (ev:aT call opn d (.nilc sx) (σ,h)=some (sv,s1)):mL P o ac w K h σ sv s1:=by
 simp only[aT,aA]at ev
 obtain⟨v,hv,ev⟩:=ev
 have r:=kQ hx g.fr hv
 have hp:∃a,ac.eval x = .pointer (some a):=by
  generalize ac.eval x=y at r
  split at ev
  ·obtain⟨B,cs,_,_,h3⟩:=r;exact⟨_,h3⟩
  ·simp only[Ad]at r;cases r;exact⟨_,rfl⟩
  ·simp only[Ad]at r;cases r;exact⟨_,rfl⟩
  ·cases ev
 obtain⟨a,ha⟩:=hp
 have e:sv=v/\s1=(σ,h):=by
  split at ev<;>first|(injection ev with ev;injection ev with e1 e2;exact⟨e1.symm,e2.symm⟩)|cases ev
 obtain⟨rfl,rfl⟩:=e
 exact⟨ac.eval x,w,K,.inl (by simp[execOp,ho,ha]),rfl,.refl g,vO r⟩
theorem Lm (op:BinOp) (k yk:IntKind) (a b:Int) {v:IV} (hs:fW op=true) (e:mX op k a b=some v):∃x,(Op.shift op k a yk b).run P w = .ok x w/\bS K w.heap h v x:=by
 cases op<;>simp[fW]at hs
 all_goals
  simp only[mX]at e
  split at e
  ·cases e
  ·rename_i hb
   injection e with e;subst e
   refine⟨_,?_,.int _ _⟩
   simp[Op.shift,hb]
theorem Oi (op:BinOp) (t:TypeId) (k:IntKind) (a b:Int) {v:IV} (hs:fW op=false) (e:mX op k a b=some v):∃x,(binOp op t (.int k a) (.int k b)).run P w = .ok x w/\bS K w.heap h v x:=by
 cases op<;>simp[fW]at hs<;>simp only[mX]at e
 case quo=>
  split at e
  ·cases e
  ·rename_i hb
   injection e with e;subst e
   exact⟨_,by simp[binOp,Op.intDiv,hb],.int _ _⟩
 case rem=>
  split at e
  ·cases e
  ·rename_i hb
   injection e with e;subst e
   exact⟨_,by simp[binOp,Op.intDiv,hb],.int _ _⟩
 all_goals
  injection e with e;subst e
  first
   |exact⟨_,by simp only[binOp,Op.intArith,Op.intBits,Op.intCmp,ne_eq,not_true_eq_false,if_false,aU],.int _ _⟩
   |exact⟨_,by simp only[binOp,Op.intArith,Op.intBits,Op.intCmp,ne_eq,not_true_eq_false,if_false,aU],.bool _⟩
theorem Fb (b:ByteArray):b.toList=b.data.toList:=by
 exact ByteArray.toList_eq b
theorem Oh (op:BinOp) (t:TypeId) (a b:ByteArray) {v:IV} (e:Ul op a.data.toList b.data.toList=some v):∃x,(binOp op t (.string a) (.string b)).run P w = .ok x w/\bS K w.heap h v x:=by
 cases op<;>simp only[Ul]at e<;>try (cases e;done)
 case add=>
  split at e
  ·cases e
  ·rename_i hb
   injection e with e;subst e
   have hb':¬(9223372036854775807:Int)<(a.size:Int)+(b.size:Int):=by
    have e1:IntKind.i64.max=9223372036854775807:=by decide
    rw[e1]at hb
    have:a.data.toList.length=a.size:=by simp
    have:b.data.toList.length=b.size:=by simp
    simp only[gt_iff_lt]at hb;omega
   refine⟨.string (a++b),?_,.str' (by simp)⟩
   simp[binOp,Op.stringOp,hb']
 all_goals
  injection e with e;subst e
  exact⟨_,by simp only[binOp,Op.stringOp,aU,Fb],.bool _⟩
theorem iW (op:BinOp) (t:TypeId) (x y:Operand) (a b:Value) (h1:∀xs ys,¬(a = .agg xs/\b = .agg ys)) (h2:¬(a = .nilIface/\b = .nilIface)):(eqGuard op t x y a b).run P w = .ok () w:=by
 unfold eqGuard
 cases op<;>simp<;>(cases a<;>cases b<;>simp_all)
theorem y_bin (g:dK K h w.heap σ ac.tmps) {op:BinOp} {t yt:TypeId} {x y:Operand} {sx sy:SX} (ho:o.op = .binOp op t x y yt) (hx:bG x sx) (hy:bG y sy) (ev:aT call opn d (.bin op sx sy) (σ,h)=some (sv,s1)):mL P o ac w K h σ sv s1:=by
 simp only[aT,aA]at ev
 obtain⟨a,ha,b,hb,v,hv,ev⟩:=ev
 injection ev with ev;injection ev with e1 e2;subst e1;subst e2
 have ra:=cD hx g.fr ha
 have rb:=cD hy g.fr hb
 unfold bin at hv
 split at hv
 ·rename_i k a l b
  split at hv
  ·rename_i hk
   have hgd:(eqGuard op t x y (.int k a) (.int l b)).run P w = .ok () w:=iW op t x y _ _ (by simp) (by simp)
   cases hs:fW op with
   |true=>
    obtain⟨z,h1,h2⟩:=Lm (P:=P) (w:=w) (K:=K) (h:=h) op k l a b hs hv
    refine .pure' g (x:=z) ?_ h2
    have hbo:binOp op t (.int k a) (.int l b)=Op.shift op k a l b:=by cases op<;>simp[fW]at hs<;>rfl
    simp only[execOp,ho,ra.int_inv,rb.int_inv,aO,hgd,aH,hbo,h1,aU]
   |false=>
    have hkl:k=l:=by simpa [hs]using hk
    subst hkl
    obtain⟨z,h1,h2⟩:=Oi (P:=P) (w:=w) (K:=K) (h:=h) op t k a b hs hv
    refine .pure' g (x:=z) ?_ h2
    simp only[execOp,ho,ra.int_inv,rb.int_inv,aO,hgd,aH,h1,aU]
  ·cases hv
 ·obtain⟨ba,ea,rfl⟩:=ra.str_inv
  obtain⟨bb,eb,rfl⟩:=rb.str_inv
  obtain⟨z,h1,h2⟩:=Oh (P:=P) (w:=w) (K:=K) (h:=h) op t ba bb hv
  refine .pure' g (x:=z) ?_ h2
  have hgd:(eqGuard op t x y (.string ba) (.string bb)).run P w = .ok () w:=iW op t x y _ _ (by simp) (by simp)
  simp only[execOp,ho,ea,eb,aO,hgd,aH,h1,aU]
 ·cases hv
theorem y_un (g:dK K h w.heap σ ac.tmps) {op:UnOp} {t:TypeId} {x:Operand} {sx:SX} (ho:o.op = .unOp op t x) (hx:bG x sx) (ev:aT call opn d (.un op sx) (σ,h)=some (sv,s1)):mL P o ac w K h σ sv s1:=by
 simp only[aT,aA]at ev
 obtain⟨a,ha,v,hv,ev⟩:=ev
 injection ev with ev;injection ev with e1 e2;subst e1;subst e2
 have ra:=cD hx g.fr ha
 unfold un at hv
 split at hv
 ·simp only[mX,aD]at hv;subst hv
  exact .pure' g (by simp only[execOp,ho,ra.int_inv,Op.unary,Op.intArith,aO,aU,aH]) (.int _ _)
 ·simp only[mX,aD]at hv;subst hv
  exact .pure' g (by simp only[execOp,ho,ra.int_inv,Op.unary,Op.intBits,aO,aU,aH]) (.int _ _)
 ·simp only[aD]at hv;subst hv
  exact .pure' g (by simp only[execOp,ho,ra.bool_inv,Op.unary,aO,aU,aH]) (.bool _)
 ·cases hv
theorem nG (neg:Bool) (t:TypeId) (x y:Operand) (a b:Value) {yt:TypeId} {r:Bool} (ho:o.op = .binOp (if neg then .neq else .eql) t x y yt) (ha:ac.eval x=a) (hb:ac.eval y=b)
 (hgd:∀op,(eqGuard op t x y a b).run P w = .ok () w) (hi:∀k n l m,¬(a = .int k n/\b = .int l m)) (hs:∀s u,¬(a = .string s/\b = .string u)) (hf:∀k n l m,¬(a = .float k n/\b = .float l m)) (hc:∀k n n' l m m',¬(a = .complex k n n'/\b = .complex l m m'))
 (he:(Op.equal t a b).run P w = .ok r w):(execOp ac.eval o).run P w = .ok (.value (.bool (if neg then !r else r))) w:=by
 simp only[execOp,ho,ha,hb,aO,hgd,aH]
 cases neg with
 |true=>
  have:binOp .neq t a b=(do pure (.bool (!(<-Op.equal t a b)))):=by
   cases a<;>cases b<;>first|rfl|exact absurd ⟨rfl,rfl⟩ (hi _ _ _ _)|exact absurd ⟨rfl,rfl⟩ (hs _ _)|exact absurd ⟨rfl,rfl⟩ (hf _ _ _ _)|exact absurd ⟨rfl,rfl⟩ (hc _ _ _ _ _ _)
  simp[this,he]
 |false=>
  have:binOp .eql t a b=(do pure (.bool (<-Op.equal t a b))):=by
   cases a<;>cases b<;>first|rfl|exact absurd ⟨rfl,rfl⟩ (hi _ _ _ _)|exact absurd ⟨rfl,rfl⟩ (hs _ _)|exact absurd ⟨rfl,rfl⟩ (hf _ _ _ _)|exact absurd ⟨rfl,rfl⟩ (hc _ _ _ _ _ _)
  simp[this,he]
end
end Go.Ideal
namespace Go.Ideal
section
variable {P:Program} {o:Oper} {ac:Act} {w:World} {K:Kx} {h:aN} {σ:Fr} {d:Option Nat} {call:Nat->List IV->aN->Option (IV×aN)} {opn:Nat->Bool} {sv:SV} {s1:St}
theorem Mj (n:Nat) {t:TypeId} (a b:Bool) (ht:P.underlying t=some .bool):(Op.equalIn (n+1) t (.bool a) (.bool b)).run P w = .ok (a==b) w:=by
 simp only[Op.equalIn,aO,run_underlying ht,aH,aU]
theorem Qn (n:Nat) {t e:TypeId} (a b:Option Addr) (ht:P.underlying t=some (.pointer e)) (hn:a=none\/b=none):(Op.equalIn (n+1) t (.pointer a) (.pointer b)).run P w = .ok (a.isNone&&b.isNone) w:=by
 simp only[Op.equalIn,aO,run_underlying ht,aH]
 cases a<;>cases b<;>simp_all
theorem It (n:Nat) {t e:TypeId} (a b:Option Addr) (x y x' y':Nat) (ht:P.underlying t=some (.slice e)) (hn:a=none\/b=none):(Op.equalIn (n+1) t (.slice a x y) (.slice b x' y')).run P w = .ok (a.isNone&&b.isNone) w:=by
 simp only[Op.equalIn,aO,run_underlying ht,aH]
 cases a<;>cases b<;>simp_all
theorem Mi (n:Nat) {t:TypeId} {ps rs:Array TypeId} {vr:Bool} (a b:Value) (r:Bool) (ht:P.underlying t=some (.func ps rs vr))
 (hr:(a = .nilFunc/\b = .nilFunc/\r=true)\/(a = .nilFunc/\(∃f u v,b = .func f u v)/\r=false)\/(b = .nilFunc/\(∃f u v,a = .func f u v)/\r=false)):(Op.equalIn (n+1) t a b).run P w = .ok r w:=by
 rcases hr with ⟨rfl,rfl,rfl⟩|⟨rfl,⟨f,u,v,rfl⟩,rfl⟩|⟨rfl,⟨f,u,v,rfl⟩,rfl⟩<;>
  simp only[Op.equalIn,aO,run_underlying ht,aH,aU]
theorem Is {t:TypeId} (a b:Bool) (ht:P.underlying t=some .bool):(Op.equal t (.bool a) (.bool b)).run P w = .ok (a==b) w:=Mj 9999 a b ht
theorem Mh {t e:TypeId} (a b:Option Addr) (ht:P.underlying t=some (.pointer e)) (hn:a=none\/b=none):(Op.equal t (.pointer a) (.pointer b)).run P w = .ok (a.isNone&&b.isNone) w:=Qn 9999 a b ht hn
theorem Gn {t e:TypeId} (a b:Option Addr) (n m n' m':Nat) (ht:P.underlying t=some (.slice e)) (hn:a=none\/b=none):(Op.equal t (.slice a n m) (.slice b n' m')).run P w = .ok (a.isNone&&b.isNone) w:=It 9999 a b n m n' m' ht hn
theorem tC {t:TypeId} {ps rs:Array TypeId} {vr:Bool} (a b:Value) (r:Bool) (ht:P.underlying t=some (.func ps rs vr))
 (hr:(a = .nilFunc/\b = .nilFunc/\r=true)\/(a = .nilFunc/\(∃f u v,b = .func f u v)/\r=false)\/(b = .nilFunc/\(∃f u v,a = .func f u v)/\r=false)):(Op.equal t a b).run P w = .ok r w:=Mi 9999 a b r ht hr
theorem y_eqB (g:dK K h w.heap σ ac.tmps) {neg:Bool} {t yt:TypeId} {x y:Operand} {sx sy:SX} (ho:o.op = .binOp (if neg then .neq else .eql) t x y yt) (hx:bG x sx) (hy:bG y sy) (ht:P.underlying t=some .bool)
 (ev:aT call opn d (.eq neg (.leaf .b) sx sy) (σ,h)=some (sv,s1)):mL P o ac w K h σ sv s1:=by
 simp only[aT,aA]at ev
 obtain⟨a,ha,b,hb,r,hr,ev⟩:=ev
 injection ev with ev;injection ev with e1 e2;subst e1;subst e2
 have ra:=kQ hx g.fr ha
 have rb:=kQ hy g.fr hb
 unfold Qm at hr
 split at hr<;>first|(cases hr;done)|contradiction|skip
 rename_i k x' y' h1
 cases h1
 unfold Xw at hr
 split at hr<;>first|(cases hr;done)|contradiction|skip
 rename_i a b h1
 injection hr with hr;subst hr
 exact .pure' g (nG neg t x y _ _ ho ra.bool_inv rb.bool_inv (fun op=>iW op t x y _ _ (by simp) (by simp)) (by simp) (by simp) (by simp) (by simp) (Is a b ht)) (.bool _)
theorem Nw (g:dK K h w.heap σ ac.tmps) {neg:Bool} {t yt:TypeId} {x y:Operand} {sx sy:SX} {ty:ET} (ho:o.op = .binOp (if neg then .neq else .eql) t x y yt) (hx:bG x sx) (hy:bG y sy)
 (ht:(ty = .ptr/\∃e,P.underlying t=some (.pointer e))\/(ty = .sl/\∃e,P.underlying t=some (.slice e))\/(ty = .fnc/\∃ps rs v,P.underlying t=some (.func ps rs v)))
 (ev:aT call opn d (.eq neg ty sx sy) (σ,h)=some (sv,s1)):mL P o ac w K h σ sv s1:=by
 simp only[aT,aA]at ev
 obtain⟨a,ha,b,hb,r,hr,ev⟩:=ev
 injection ev with ev;injection ev with e1 e2;subst e1;subst e2
 have ra:=kQ hx g.fr ha
 have rb:=kQ hy g.fr hb
 suffices hh:(∃p q,ac.eval x = .pointer p/\ac.eval y = .pointer q/\(p=none\/q=none)/\r=(p.isNone&&q.isNone)/\ty = .ptr)\/
  (∃p n m q n' m',ac.eval x = .slice p n m/\ac.eval y = .slice q n' m'/\(p=none\/q=none)/\r=(p.isNone&&q.isNone)/\ty = .sl)\/
  (ty = .fnc/\((ac.eval x = .nilFunc/\((ac.eval y = .nilFunc/\r=true)\/∃f u v,ac.eval y = .func f u v/\r=false))\/(ac.eval y = .nilFunc/\∃f u v,ac.eval x = .func f u v/\r=false))) by
  rcases hh with ⟨p,q,e1,e2,e3,e4,e5⟩|⟨p,n,m,q,n',m',e1,e2,e3,e4,e5⟩|⟨e5,hh⟩
  ·subst e5
   rcases ht with ⟨_,e,ht⟩|⟨h1,_⟩|⟨h1,_⟩
   ·subst e4
    exact .pure' g (nG neg t x y _ _ ho e1 e2 (fun op=>iW op t x y _ _ (by simp) (by simp)) (by simp) (by simp) (by simp) (by simp) (Mh p q ht e3)) (.bool _)
   ·cases h1
   ·cases h1
  ·subst e5
   rcases ht with ⟨h1,_⟩|⟨_,e,ht⟩|⟨h1,_⟩
   ·cases h1
   ·subst e4
    exact .pure' g (nG neg t x y _ _ ho e1 e2 (fun op=>iW op t x y _ _ (by simp) (by simp)) (by simp) (by simp) (by simp) (by simp) (Gn p q n m n' m' ht e3)) (.bool _)
   ·cases h1
  ·subst e5
   rcases ht with ⟨h1,_⟩|⟨h1,_⟩|⟨_,ps,rs,v,ht⟩
   ·cases h1
   ·cases h1
   ·rcases hh with ⟨e1,⟨e2,e3⟩|⟨f,u,v,e2,e3⟩⟩|⟨e1,f,u,v,e2,e3⟩
    ·subst e3
     exact .pure' g (nG neg t x y _ _ ho e1 e2 (fun op=>iW op t x y _ _ (by simp) (by simp)) (by simp) (by simp) (by simp) (by simp) (tC _ _ true ht (.inl ⟨rfl,rfl,rfl⟩))) (.bool _)
    ·subst e3
     exact .pure' g (nG neg t x y _ _ ho e1 e2 (fun op=>iW op t x y _ _ (by simp) (by simp)) (by simp) (by simp) (by simp) (by simp) (tC _ _ false ht (.inr (.inl ⟨rfl,⟨_,_,_,rfl⟩,rfl⟩)))) (.bool _)
    ·subst e3
     exact .pure' g (nG neg t x y _ _ ho e2 e1 (fun op=>iW op t x y _ _ (by simp) (by simp)) (by simp) (by simp) (by simp) (by simp) (tC _ _ false ht (.inr (.inr ⟨rfl,⟨_,_,_,rfl⟩,rfl⟩)))) (.bool _)
 have hleaf:∀k,ty≠.leaf k:=by rintro k rfl;simp at ht
 have hcells:∀k,ty≠.cells k:=by rintro k rfl;simp at ht
 clear ho ht ha hb
 generalize ac.eval x=vx at ra |-
 generalize ac.eval y=vy at rb |-
 unfold Qm at hr
 split at hr<;>first
  |exact absurd rfl (hleaf _)
  |exact absurd rfl (hcells _)
  |(cases hr;done)
  |(simp only[Ad]at ra rb
    simp only[aD]at hr
    subst hr
    first
    |(cases ra;cases rb;simp;done)
    |(cases ra;obtain⟨_,_,_,_,rfl⟩:=rb;simp;done)
    |(cases rb;obtain⟨_,_,_,_,rfl⟩:=ra;simp;done))
theorem y_eqC (g:dK K h w.heap σ ac.tmps) {neg:Bool} {t yt:TypeId} {x y:Operand} {sx sy:SX} {ks:List LK} (ho:o.op = .binOp (if neg then .neq else .eql) t x y yt) (hx:bG x sx) (hy:bG y sy) (hg:P.eqGuardType P.depth t=false)
 (he:∀(w:World) (xs ys:List Value) (cx cy:List IV) (b:Bool) (K:Kx) (H:gC) (h:aN),dE K H h cx xs->dE K H h cy ys->Ideal.eqC ks cx cy=some b->(Op.equalIn Op.maxDepth t (.agg xs.toArray) (.agg ys.toArray)).run P w = .ok b w)
 (ev:aT call opn d (.eq neg (.cells ks) sx sy) (σ,h)=some (sv,s1)):mL P o ac w K h σ sv s1:=by
 simp only[aT,aA]at ev
 obtain⟨a,ha,b,hb,r,hr,ev⟩:=ev
 injection ev with ev;injection ev with e1 e2;subst e1;subst e2
 have ra:=kQ hx g.fr ha
 have rb:=kQ hy g.fr hb
 unfold Qm at hr
 split at hr<;>first|(cases hr;done)|contradiction|skip
 ·rename_i ks' xs ys h1
  cases h1
  simp only[Ad]at ra rb
  obtain⟨_,vx,ex,rx⟩:=bS.agg_iff.1 ra
  obtain⟨_,vy,ey,ry⟩:=bS.agg_iff.1 rb
  refine .pure' g (nG neg t x y _ _ ho ex ey (fun op=>?_) (by simp) (by simp) (by simp) (by simp) (he w vx vy xs ys r K w.heap h rx ry hr)) (.bool _)
  exact run_eqGuard_agg w op t x y _ _ hg
theorem y_cvI (g:dK K h w.heap σ ac.tmps) {src dst:TypeId} {x:Operand} {sx:SX} {k:IntKind} {ds:TypeDesc} (ho:o.op = .convert src dst x) (hx:bG x sx) (hs:P.underlying src=some ds) (hd:P.underlying dst=some (.int k))
 (ev:aT call opn d (.cvI k sx) (σ,h)=some (sv,s1)):mL P o ac w K h σ sv s1:=by
 simp only[aT,aA]at ev
 obtain⟨a,ha,ev⟩:=ev
 have ra:=cD hx g.fr ha
 split at ev
 ·injection ev with ev;injection ev with e1 e2;subst e1;subst e2
  refine .pure' g ?_ (.int _ _)
  simp only[execOp,ho,ra.int_inv,convert,aO,run_underlying hs,run_underlying hd,aH,Conv.intToInt,aU]
 ·cases ev
theorem Wi (g:dK K h w.heap σ ac.tmps) {src dst:TypeId} {x:Operand} {sx:SX} (ho:o.op = .convert src dst x) (hx:bG x sx) (hs:P.underlying src=some .string) (hd:P.underlying dst=some .string)
 (ev:aT call opn d (.cvSS sx) (σ,h)=some (sv,s1)):mL P o ac w K h σ sv s1:=by
 simp only[aT,aA]at ev
 obtain⟨a,ha,ev⟩:=ev
 have ra:=cD hx g.fr ha
 split at ev
 ·injection ev with ev;injection ev with e1 e2;subst e1;subst e2
  obtain⟨b,eb,rfl⟩:=ra.str_inv
  refine .pure' g (x:=.string b) ?_ (.str b)
  simp only[execOp,ho,eb,convert,aO,run_underlying hs,run_underlying hd,aH,aU]
 ·cases ev
theorem Wl (g:dK K h w.heap σ ac.tmps) {src dst:TypeId} {x:Operand} {sx:SX} {k:IntKind} (ho:o.op = .convert src dst x) (hx:bG x sx) (hs:P.underlying src=some (.int k)) (hd:P.underlying dst=some .string)
 (ev:aT call opn d (.cvIS sx) (σ,h)=some (sv,s1)):mL P o ac w K h σ sv s1:=by
 simp only[aT,aA]at ev
 obtain⟨a,ha,ev⟩:=ev
 have ra:=cD hx g.fr ha
 split at ev
 ·rename_i kk n
  injection ev with ev;injection ev with e1 e2;subst e1;subst e2
  refine .pure' g (x:=.string (Utf8.encode n)) ?_ (.str _)
  simp only[execOp,ho,ra.int_inv,convert,aO,run_underlying hs,run_underlying hd,aH,Conv.intToString,aU]
 ·cases ev
theorem y_mkI (g:dK K h w.heap σ ac.tmps) {t:TypeId} {x:Operand} {sx:SX} (ho:o.op = .makeInterface t x) (hx:bG x sx) (hc:P.concrete t=true)
 (ev:aT call opn d (.mkI t sx) (σ,h)=some (sv,s1)):mL P o ac w K h σ sv s1:=by
 simp only[aT,aA]at ev
 obtain⟨a,ha,ev⟩:=ev
 injection ev with ev;injection ev with e1 e2;subst e1;subst e2
 refine .pure' g ?_ (.iface _ _ _ (cD hx g.fr ha))
 simp only[execOp,ho,aO,run_makeInterface w t _ hc,aH,aU]
theorem rK (r:Ae K w.heap h σ ac.tmps) {xs:List Operand} {sxs:List SX} (l:qK xs sxs):∀{vs:List IV},jK σ sxs=some vs->dE K w.heap h vs (xs.map ac.eval):=by
 induction l with
 |nil=>intro vs e;simp only[jK,dM,aD]at e;subst e;exact .nil
 |cons hx hr ih=>
  intro vs e
  simp only[jK,dM,aA]at e
  obtain⟨v,hv,ys,hys,e⟩:=e
  injection e with e;subst e
  exact .cons (cD hx r hv) (ih hys)
theorem y_mkF (g:dK K h w.heap σ ac.tmps) {f:Fn} {a b:Array Operand} {a' b':List SX} (ho:o.op = .makeFunc f a b) (ha:qK a.toList a') (hb:qK b.toList b')
 (ev:aT call opn d (.mkF f a' b') (σ,h)=some (sv,s1)):mL P o ac w K h σ sv s1:=by
 simp only[aT,aA]at ev
 obtain⟨va,hva,vb,hvb,ev⟩:=ev
 injection ev with ev;injection ev with e1 e2;subst e1;subst e2
 refine .pure' g (x:=.func f (a.map ac.eval) (b.map ac.eval)) ?_ (bS.fn_iff.2 ⟨_,_,?_,rK g.fr ha hva,rK g.fr hb hvb⟩)
 ·simp only[execOp,ho,Instr.makeFunc,aO,aU,aH]
 ·have e1:∀l:Array Operand,l.map ac.eval=(l.toList.map ac.eval).toArray:=fun l=>by apply Ji;simp
  rw[<-e1,<-e1]
theorem Wh (g:dK K h w.heap σ ac.tmps) {t:TypeId} {x:Operand} {i:Nat} {sx:SX} {fs:Array Field} {f:Field} {n:Nat} (ho:o.op = .fieldAddr t x i) (hx:bG x sx) (ht:P.underlying t=some (.struct fs)) (hf:fs[i]? = some f) (hs:Aw P f.type n) (hn:n≠0)
 (ev:aT call opn d (.fadr f.offset sx) (σ,h)=some (sv,s1)):mL P o ac w K h σ sv s1:=by
 simp only[aT,aA]at ev
 obtain⟨a,ha,ev⟩:=ev
 have ra:=kQ hx g.fr ha
 have run:∀ad:Addr,ac.eval x = .pointer (some ad)->(execOp ac.eval o).run P w = .ok (.value (.pointer (some (ad.add f.offset)))) w:=by
  intro ad e
  simp only[execOp,ho,Instr.fieldAt,aO,run_underlying ht,aH,hf,e,Instr.sureAddr,aU,fieldPlace,fR hs,hn,if_false]
 have hadd:∀(B a b:Nat),(⟨B,a,none⟩:Addr).add b=⟨B,a+b,none⟩:=fun B a b=>fM
 split at ev
 ·injection ev with ev;injection ev with e1 e2;subst e1;subst e2
  simp only[Ad]at ra
  generalize hy:ac.eval x=y at ra
  cases ra with
  |ptr b tot i o' ad hb hl=>
   refine .pure' g (run ad hy) (.ptr _ _ _ _ _ hb fun k hk=>?_)
   obtain⟨h1,l,h2,rfl⟩:=hl k hk
   exact⟨h1,l,h2,by rw[hadd,eW]⟩
 ·injection ev with ev;injection ev with e1 e2;subst e1;subst e2
  simp only[Ad]at ra
  generalize hy:ac.eval x=y at ra
  cases ra with
  |rptr b e o' B oo cs h1 h2 h3 h4=>
   refine .pure' g (run _ hy) ?_
   rw[hadd,eW]
   exact .rptr _ _ _ B oo cs h1 h2 h3 h4
 ·injection ev with ev;injection ev with e1 e2;subst e1;subst e2
  obtain⟨B,cs,h1,h2,h3⟩:=ra
  refine⟨_,w,K,.inl (run _ h3),rfl,.refl g,?_⟩
  rw[hadd]
  exact⟨B,cs,h1,h2,rfl⟩
 ·cases ev
theorem Fo {K:Kx} {H:gC} {cs:List IV} {vs:List Value} {off:Nat} {n:Option Nat} {v:IV} {t:TypeId} (hone:∀c∈cs,c.one=true) (r:dE K H h cs vs) (hk:Au P t n) (e:Ideal.part cs off n=some v):
 ∃x,(Go.part t vs.toArray off).run P w = .ok x w/\bS K H h v x:=by
 obtain⟨dd,hd,hk⟩:=hk
 unfold Go.part
 simp only[aO,nA hd,aH]
 cases n with
 |none=>
  simp only[Ideal.part]at e
  obtain⟨x,hx,hr⟩:=r.get e
  refine⟨x,?_,hr⟩
  simp only at hk
  simp[hk,hx]
 |some n=>
  simp only[Ideal.part]at e
  split at e
  ·injection e with e;subst e
   obtain⟨h1,h2⟩:=hk
   refine⟨.agg (vs.toArray.extract off (off+n)),?_,bS.agg_iff.2 ⟨fun c hc=>hone c (cU (bN hc)),_,?_,(r.drop off).take n⟩⟩
   ·simp only[h1,if_true,aO,fR h2,aH,aU]
   ·congr 1
    apply Ji
    simp[vE]
  ·cases e
theorem y_fld (g:dK K h w.heap σ ac.tmps) {t:TypeId} {x:Operand} {i:Nat} {sx:SX} {fs:Array Field} {f:Field} {n:Option Nat} (ho:o.op = .field t x i) (hx:bG x sx) (ht:P.underlying t=some (.struct fs)) (hf:fs[i]? = some f) (hk:Au P f.type n)
 (ev:aT call opn d (.fld f.offset n sx) (σ,h)=some (sv,s1)):mL P o ac w K h σ sv s1:=by
 simp only[aT,aA]at ev
 obtain⟨a,ha,ev⟩:=ev
 have ra:=cD hx g.fr ha
 split at ev
 ·simp only[aA]at ev
  obtain⟨v,hv,ev⟩:=ev
  injection ev with ev;injection ev with e1 e2;subst e1;subst e2
  obtain⟨h1,vs,h2,h3⟩:=bS.agg_iff.1 ra
  obtain⟨y,h4,h5⟩:=Fo (P:=P) (w:=w) h1 h3 hk hv
  refine .pure' g (x:=y) ?_ h5
  simp only[execOp,ho,Instr.field,aO,run_underlying ht,aH,hf,h2,asAgg,aU,h4]
 ·cases ev
theorem lT {v:IV} {n:Nat} (e:kB v=some n):∃k,v = .int k (n:Int):=by
 unfold kB at e
 split at e
 ·rename_i k m
  split at e
  ·rename_i hm
   injection e with e;subst e
   exact⟨k,by rw[Int.toNat_of_nonneg hm]⟩
  ·cases e
 ·cases e
theorem We (g:dK K h w.heap σ ac.tmps) {t:TypeId} {x i:Operand} {sx si:SX} {n:Nat} {e:TypeId} {sz:Nat} {ag:Bool} (ho:o.op = .index t x i) (hx:bG x sx) (hi:bG i si) (ht:P.underlying t=some (.array n e)) (hs:Aw P e sz)
 (hk:Au P e (if ag then some sz else none)) (ev:aT call opn d (.idxA n sz ag sx si) (σ,h)=some (sv,s1)):mL P o ac w K h σ sv s1:=by
 simp only[aT,aA]at ev
 obtain⟨a,ha,vi,hvi,m,hm,ev⟩:=ev
 obtain⟨k,rfl⟩:=lT hm
 have ra:=cD hx g.fr ha
 have ri:=(cD hi g.fr hvi).int_inv
 split at ev
 ·split at ev
  ·rename_i hlt
   simp only[aA]at ev
   obtain⟨v,hv,ev⟩:=ev
   injection ev with ev;injection ev with e1 e2;subst e1;subst e2
   obtain⟨h1,vs,h2,h3⟩:=bS.agg_iff.1 ra
   obtain⟨y,h4,h5⟩:=Fo (P:=P) (w:=w) h1 h3 hk hv
   refine .pure' g (x:=y) ?_ h5
   have hb:(0:Int)≤(m:Int)/\(m:Int)<(n:Int):=by omega
   simp only[execOp,ho,Instr.index,ri,asIntOf,aO,aU,aH,run_underlying ht,h2,hb,and_self,if_true,fR hs,aP,h4]
  ·cases ev
 ·cases ev
theorem Wd (g:dK K h w.heap σ ac.tmps) {t:TypeId} {x i:Operand} {sx si:SX} (ho:o.op = .index t x i) (hx:bG x sx) (hi:bG i si) (ht:P.underlying t=some .string)
 (ev:aT call opn d (.idxS sx si) (σ,h)=some (sv,s1)):mL P o ac w K h σ sv s1:=by
 simp only[aT,aA]at ev
 obtain⟨a,ha,vi,hvi,m,hm,ev⟩:=ev
 obtain⟨k,rfl⟩:=lT hm
 have ra:=cD hx g.fr ha
 have ri:=(cD hi g.fr hvi).int_inv
 split at ev
 ·rename_i b
  simp only[aA]at ev
  obtain⟨c,hc,ev⟩:=ev
  injection ev with ev;injection ev with e1 e2;subst e1;subst e2
  obtain⟨bb,eb,rfl⟩:=ra.str_inv
  refine .pure' g (x:=.int .u8 c.toNat) ?_ (.int _ _)
  have hg:bb[m]? = some c:=by
   obtain⟨h1,h2⟩:=aJ.1 hc
   have h1':m<bb.size:=by simpa using h1
   rw[getElem?_pos bb m h1']
   rw[<-h2];rfl
  simp only[execOp,ho,Instr.index,ri,eb,asIntOf,aO,aU,aH,run_underlying ht]
  simp[hg]
 ·cases ev
theorem y_ext (g:dK K h w.heap σ ac.tmps) {x:Operand} {sx:SX} {i:Nat} (ho:o.op = .extract x i) (hx:bG x sx) (ev:aT call opn d (.ext sx i) (σ,h)=some (sv,s1)):mL P o ac w K h σ sv s1:=by
 simp only[aT,aA]at ev
 obtain⟨a,ha,ev⟩:=ev
 have ra:=cD hx g.fr ha
 split at ev
 ·simp only[aA]at ev
  obtain⟨v,hv,ev⟩:=ev
  injection ev with ev;injection ev with e1 e2;subst e1;subst e2
  obtain⟨vs,h2,h3⟩:=bS.tup_iff.1 ra
  obtain⟨y,h4,h5⟩:=h3.get hv
  refine .pure' g (x:=y) ?_ h5
  simp[execOp,ho,Instr.extract,h2,h4]
 ·cases ev
theorem zVal_rel {ag:Bool} {zs:List IV} {z:Value} {v:IV} {H:gC} (hag:if ag then ∃vs,z = .agg vs else z.cells = #[z]) (hzs:Lc zs z.cells.toList) (ho:∀c∈zs,c.one=true) (e:zVal ag zs=some v):bS K H h v z:=by
 unfold zVal at e
 cases ag with
 |true=>
  simp only[if_true,aD]at e hag
  subst e
  obtain⟨vs,rfl⟩:=hag
  exact bS.agg_iff.2 ⟨ho,vs.toList,by simp,hzs K H h⟩
 |false=>
  simp only[aR,if_false]at e hag
  split at e
  ·injection e with e;subst e
   have:=hzs K H h
   rw[hag]at this
   obtain⟨y,h1,h2⟩:=this.get (i:=0) rfl
   simp at h1;subst h1;exact h2
  ·cases e
theorem y_asrt (g:dK K h w.heap σ ac.tmps) {x:Operand} {sx:SX} {xt t:TypeId} {ok ag:Bool} {zs:List IV} {z:Value} (hop:o.op = .typeAssert x xt t ok) (hx:bG x sx) (hd:∃d,P.underlying t=some d/\∀m,d≠.interface m)
 (hz:(P.info? t).bind (·.zero)=some z) (hag:if ag then ∃vs,z = .agg vs else z.cells = #[z]) (hzs:Lc zs z.cells.toList) (ho:∀c∈zs,c.one=true) (ev:aT call opn d (.asrt ok t ag zs sx) (σ,h)=some (sv,s1)):mL P o ac w K h σ sv s1:=by
 simp only[aT,aA]at ev
 obtain⟨a,ha,ev⟩:=ev
 have ra:=cD hx g.fr ha
 obtain⟨d',hd1,hd2⟩:=hd
 have pair:∀{u v:IV} {y z:Value},bS K w.heap h u y->bS K w.heap h v z->bS K w.heap h (.tup [u,v]) (.tuple #[y,z]):=fun h1 h2=>bS.tup_iff.2 ⟨_,rfl,.cons h1 (.cons h2 .nil)⟩
 split at ev
 ·rename_i u v
  obtain⟨y,hy,hv⟩:=bS.iface_iff.1 ra
  split at ev
  ·rename_i hut
   injection ev with ev;injection ev with e1 e2;subst e1;subst e2
   subst hut
   cases ok with
   |true=>
    refine .pure' g (x:=.tuple #[y,.bool true]) ?_ (pair hv (.bool true))
    simp only[execOp,hop,Instr.typeAssert,hy,aO,run_underlying hd1,aH]
    cases d'<;>first|exact absurd rfl (hd2 _)|simp
   |false=>
    refine .pure' g (x:=y) ?_ hv
    simp only[execOp,hop,Instr.typeAssert,hy,aO,run_underlying hd1,aH]
    cases d'<;>first|exact absurd rfl (hd2 _)|simp
  ·rename_i hut
   split at ev
   ·rename_i hok
    subst hok
    simp only[aA]at ev
    obtain⟨zv,hzv,ev⟩:=ev
    injection ev with ev;injection ev with e1 e2;subst e1;subst e2
    refine .pure' g (x:=.tuple #[z,.bool false]) ?_ (pair (zVal_rel hag hzs ho hzv) (.bool false))
    simp only[execOp,hop,Instr.typeAssert,hy,aO,run_underlying hd1,aH]
    cases d'<;>first|exact absurd rfl (hd2 _)|simp[hut,mC hz,aO]
   ·cases ev
 ·split at ev
  ·rename_i hok
   subst hok
   simp only[aA]at ev
   obtain⟨zv,hzv,ev⟩:=ev
   injection ev with ev;injection ev with e1 e2;subst e1;subst e2
   have hy:=ra.nili_inv
   refine .pure' g (x:=.tuple #[z,.bool false]) ?_ (pair (zVal_rel hag hzs ho hzv) (.bool false))
   simp only[execOp,hop,Instr.typeAssert,hy,aO,run_underlying hd1,aH]
   cases d'<;>first|exact absurd rfl (hd2 _)|simp[mC hz,aO]
  ·cases ev
 ·cases ev
theorem run_method {m:String} {t f:Nat} {sel:Option (Nat×Nat)} (L:MLk P m t f sel) {v v':IV} {y:Value} (r:bS K w.heap h v y) (e:selOf sel v=some v') (n:Nat):∃y',(Go.method (n+1) t y m).run P w = .ok (f,y') w/\bS K w.heap h v' y':=by
 obtain⟨i,me,pr,xt,d,h1,h2,h3,h4,h5,h6⟩:=L
 have ti:(typeInfo t).run P w = .ok i w:=by simp[typeInfo,h1]
 have fin:∀z:Value,∀o:Option String,(receiverAt xt (.val z) pr o).run P w = .ok z w:=by
  intro z o
  unfold receiverAt
  simp only[aO,run_underlying h4,aH]
  cases pr with
  |true=>simp only[if_true]at h5;obtain⟨e,rfl⟩:=h5;simp[Place.get]
  |false=>simp only[aR,if_false]at h5;cases d<;>first|exact absurd rfl (h5 _)|simp[Place.get]
 cases sel with
 |none=>
  obtain⟨p1,p2⟩:=h6
  simp only[selOf,aD]at e;subst e;subst p2
  refine⟨y,?_,r⟩
  unfold Go.method
  simp only[aO,ti,aH,h2,p1,follow,aU,h3,fin]
 |some sel=>
  obtain⟨off,n⟩:=sel
  obtain⟨s,fs,fd,p1,p2,p3,p4,p5,p6,p7⟩:=h6
  unfold selOf at e
  split at e
  ·rename_i heq;cases heq
  ·rename_i off' n' cs heq
   injection heq with heq;injection heq with q1 q2;subst q1;subst q2
   obtain⟨b1,vs,b2,b3⟩:=bS.agg_iff.1 r
   subst p6
   obtain⟨y',c1,c2⟩:=Fo (P:=P) (w:=w) b1 b3 p7 e
   refine⟨y',?_,c2⟩
   unfold Go.method
   simp only[aO,ti,aH,h2,p1,follow,run_underlying p3,p4,p2,b2,aR,if_false,p5,c1,aU,h3,fin]
  ·cases e
theorem Wg (g:dK K h w.heap σ ac.tmps) {t:TypeId} {x i:Operand} {sx si:SX} {e:TypeId} {sz:Nat} (ho:o.op = .indexAddr t x i) (hx:bG x sx) (hi:bG i si) (he:qG P t e sz)
 (ev:aT call opn d (.iadr sz sx si) (σ,h)=some (sv,s1)):mL P o ac w K h σ sv s1:=by
 simp only[aT,aA]at ev
 obtain⟨a,ha,vi,hvi,m,hm,ev⟩:=ev
 obtain⟨k,rfl⟩:=lT hm
 have ra:=cD hx g.fr ha
 have ri:=(cD hi g.fr hvi).int_inv
 have run:∀(ad:Addr) (len cap:Nat),ac.eval x = .slice (some ad) len cap->m<len->(execOp ac.eval o).run P w = .ok (.value (.pointer (some (ad.add (m*sz))))) w:=by
  intro ad len cap e hlt
  have hb:(0:Int)≤(m:Int)/\(m:Int)<(len:Int):=by omega
  simp only[execOp,ho,Instr.indexAt,ri,e,asIntOf,aO,aU,aH,run_underlying he.und]
  simp only[hb,and_self,if_true,aO,fR he.siz,aH,aP,aU]
 split at ev
 ·rename_i bor es
  simp only[aA]at ev
  obtain⟨ee,hee,ev⟩:=ev
  split at ev
  ·rename_i hle
   injection ev with ev;injection ev with e1 e2;subst e1;subst e2
   generalize hy:ac.eval x=y at ra
   cases ra with
   |ro bor es ad cap sz' cs hc hsz hone hst hcs hv=>
    obtain⟨hlt,hget⟩:=aJ.1 hee
    have hne:es≠[]:=by rintro rfl;simp at hlt
    obtain⟨hst1,hsp⟩:=hst hne
    have hz:sz'=sz:=by rw[<-hle];exact(hsz ee (aL hee)).symm
    subst hz
    refine .pure' g (run ad _ cap hy hlt) ?_
    obtain⟨B,oo,sp⟩:=ad
    simp only at hsp;subst hsp
    rw[fM]
    subst hget
    have:=bS.rptr (K:=K) (H:=w.heap) (h:=h) bor (es[m]) 0 B (oo+m*sz') (cs m) hst1 (hone _ (bH hlt)) (fun j hj=>hcs m j hlt hj) (fun j hj=>hv m j hlt hj)
    simpa using this
  ·cases ev
 ·rename_i b tot off len cap
  simp only[aA]at ev
  obtain⟨kk,hkk,ev⟩:=ev
  split at ev
  ·rename_i hh
   obtain⟨hz,hlt,hle⟩:=hh
   injection ev with ev;injection ev with e1 e2;subst e1;subst e2
   generalize hy:ac.eval x=y at ra
   cases ra with
   |sl b tot off len cap ad cap' hb hlen hl=>
    obtain⟨q1,q2,q3,q4,l,q5,q6,q7⟩:=hl kk hkk
    refine .pure' g (run ad _ _ hy hlt) (.ptr _ _ _ _ _ hb fun k' hk'=>?_)
    rw[hkk]at hk';injection hk' with hk';subst hk'
    refine⟨by omega,l,q5,?_⟩
    rcases q6 with q6|q6
    ·omega
    ·rw[q6,fM,hz,cJ]
     congr 1;omega
  ·cases ev
 ·cases ev
theorem Sd (g:dK K h w.heap σ ac.tmps) {t:TypeId} {x i:Operand} {sx si:SX} {n:Nat} {e:TypeId} {sz:Nat} (ho:o.op = .indexAddr t x i) (hx:bG x sx) (hi:bG i si) (ht:P.underlying t=some (.array n e)) (hs:Aw P e sz)
 (ev:aT call opn d (.iadrA n sz sx si) (σ,h)=some (sv,s1)):mL P o ac w K h σ sv s1:=by
 simp only[aT,aA]at ev
 obtain⟨a,ha,vi,hvi,m,hm,ev⟩:=ev
 obtain⟨k,rfl⟩:=lT hm
 have ra:=kQ hx g.fr ha
 have ri:=(cD hi g.fr hvi).int_inv
 have run:∀(ad:Addr),ac.eval x = .pointer (some ad)->m<n->(execOp ac.eval o).run P w = .ok (.value (.pointer (some (ad.add (m*sz))))) w:=by
  intro ad e hlt
  have hb:(0:Int)≤(m:Int)/\(m:Int)<(n:Int):=by omega
  simp only[execOp,ho,Instr.indexAt,ri,e,asIntOf,aO,aU,aH,run_underlying ht,Instr.sureAddr]
  simp only[hb,and_self,if_true,aO,fR hs,aH,aP,aU]
 split at ev
 ·rename_i hlt
  split at ev
  ·injection ev with ev;injection ev with e1 e2;subst e1;subst e2
   simp only[Ad]at ra
   generalize hy:ac.eval x=y at ra
   cases ra with
   |rptr b e o' B oo cs h1 h2 h3 h4=>
    refine .pure' g (run _ hy hlt) ?_
    rw[fM,eW]
    exact .rptr _ _ _ B oo cs h1 h2 h3 h4
  ·injection ev with ev;injection ev with e1 e2;subst e1;subst e2
   obtain⟨B,cs,h1,h2,h3⟩:=ra
   refine⟨_,w,K,.inl (run _ h3 hlt),rfl,.refl g,?_⟩
   rw[fM]
   exact⟨B,cs,h1,h2,rfl⟩
  ·rename_i b tot j o'
   simp only[aA]at ev
   obtain⟨kk,hkk,ev⟩:=ev
   simp only[Ad]at ra
   generalize hy:ac.eval x=y at ra
   cases ra with
   |ptr b tot j o' ad hb hl=>
    split at ev
    ·rename_i hh
     obtain⟨e1,e2,rfl,e4⟩:=hh
     injection ev with ev;injection ev with f1 f2;subst f1;subst f2
     refine .pure' g (run ad hy hlt) (.ptr _ _ _ _ _ hb fun k hk=>?_)
     obtain⟨h1,l,h2,rfl⟩:=hl k hk
     rw[hkk]at hk;injection hk with hk;subst hk
     refine⟨by omega,l,h2,?_⟩
     rw[fM,e1,e2]
     congr 1;omega
    ·split at ev
     ·injection ev with ev;injection ev with f1 f2;subst f1;subst f2
      refine .pure' g (run ad hy hlt) (.ptr _ _ _ _ _ hb fun k hk=>?_)
      obtain⟨h1,l,h2,rfl⟩:=hl k hk
      exact⟨h1,l,h2,by rw[fM,eW]⟩
     ·cases ev
  ·cases ev
 ·cases ev
end
end Go.Ideal
namespace Go.Ideal
section
variable {P:Program} {o:Oper} {ac:Act} {w:World} {K:Kx} {h:aN} {σ:Fr} {d:Option Nat} {call:Nat->List IV->aN->Option (IV×aN)} {opn:Nat->Bool} {sv:SV} {s1:St}
def Yh (v:Option Value) (dflt l:Nat):Prop:=(v=none/\l=dflt)\/∃k,v=some (.int k (l:Int))
theorem lP (r:Ae K w.heap h σ ac.tmps) {x:Option Operand} {sx:Option SX} (l:lM x sx) {dflt n:Nat} (e:fQ σ sx dflt=some n):Yh (x.map ac.eval) dflt n:=by
 cases l with
 |none=>simp only[fQ,aD]at e;exact .inl ⟨rfl,e.symm⟩
 |some hx=>
  simp only[fQ,aA]at e
  obtain⟨v,hv,e⟩:=e
  obtain⟨k,rfl⟩:=lT e
  exact .inr ⟨k,by simp[(cD hx r hv).int_inv]⟩
theorem pD {k:IntKind} {l y:Nat} {code:BoundsCode} (hl:l≤y):(Instr.sliceBound (.int k (l:Int)) y code).run P w = .ok l w:=by
 have hb:(0:Int)≤(l:Int)/\(l:Int)≤(y:Int):=by omega
 simp only[Instr.sliceBound,asIntOf,aO,aU,aH,hb,and_self,if_true,aP]
theorem jQ {isS:Bool} {len cap l r m:Nat} {lo hi mx:Option Value} (hlo:Yh lo 0 l) (hhi:Yh hi len r) (hlr:l≤r) (hrm:r≤m) (hm:(mx=none/\m=cap)\/(∃k,mx=some (.int k (m:Int)))/\m≤cap/\hi.isSome=true):
 (Instr.sliceBounds isS len cap lo hi mx).run P w = .ok (l,r,m) w:=by
 unfold Instr.sliceBounds
 rcases hm with ⟨rfl,rfl⟩|⟨⟨k,rfl⟩,hmc,hhs⟩
 ·rcases hhi with ⟨rfl,rfl⟩|⟨k,rfl⟩<;>rcases hlo with ⟨rfl,rfl⟩|⟨k',rfl⟩<;>
   simp only[aO,aU,aH,pD hrm,pD hlr]
 ·rcases hhi with ⟨rfl,rfl⟩|⟨k,rfl⟩
  ·simp at hhs
  ·rcases hlo with ⟨rfl,rfl⟩|⟨k',rfl⟩<;>
    simp only[aO,aU,aH,pD hrm,pD hlr,pD hmc]
theorem y_slS (g:dK K h w.heap σ ac.tmps) {t:TypeId} {x:Operand} {lo hi:Option Operand} {sx:SX} {slo shi:Option SX} (ho:o.op = .slice t x lo hi none) (hx:bG x sx) (hlo:lM lo slo) (hhi:lM hi shi) (ht:P.underlying t=some .string)
 (ev:aT call opn d (.slS sx slo shi) (σ,h)=some (sv,s1)):mL P o ac w K h σ sv s1:=by
 simp only[aT,aA]at ev
 obtain⟨a,ha,ev⟩:=ev
 have ra:=cD hx g.fr ha
 split at ev
 ·simp only[aA]at ev
  obtain⟨l,hl,r,hr,ev⟩:=ev
  split at ev
  ·rename_i hc
   injection ev with ev;injection ev with e1 e2;subst e1;subst e2
   obtain⟨b,eb,rfl⟩:=ra.str_inv
   have hsz:b.data.toList.length=b.size:=by simp
   rw[hsz]at hc hr
   refine .pure' g (x:=.string (b.extract l r)) ?_ (.str' ?_)
   ·have:=jQ (P:=P) (w:=w) (isS:=false) (len:=b.size) (cap:=b.size) (m:=b.size) (mx:=none) (lP g.fr hlo hl) (lP g.fr hhi hr) hc.1 hc.2 (.inl ⟨rfl,rfl⟩)
    simp only[execOp,ho,Instr.sliceAt,Instr.slice,eb,aO,run_underlying ht,aH,Option.map_none]
    simp[this]
   ·simp[vE]
  ·cases ev
 ·cases ev
theorem jF {t e:TypeId} {sz:Nat} (he:qG P t e sz) {x:Operand} {lo hi mx:Option Operand} (ho:o.op = .slice t x lo hi mx) {a:Option Addr} {len cap l r m:Nat} (ha:ac.eval x = .slice a len cap)
 (hb:(Instr.sliceBounds true len cap (lo.map ac.eval) (hi.map ac.eval) (mx.map ac.eval)).run P w = .ok (l,r,m) w):
 (execOp ac.eval o).run P w = .ok (.value (.slice (if m=l then a else a.map (·.add (l*sz))) (r-l) (m-l))) w:=by
 simp only[execOp,ho,Instr.sliceAt,Instr.slice,ha,aO,run_underlying he.und,aH,hb,fR he.siz,aU]
theorem y_slL (g:dK K h w.heap σ ac.tmps) {t:TypeId} {x:Operand} {lo hi mx:Option Operand} {sx:SX} {slo shi smx:Option SX} {e:TypeId} {sz:Nat} (ho:o.op = .slice t x lo hi mx) (hx:bG x sx) (hlo:lM lo slo) (hhi:lM hi shi) (hmx:lM mx smx)
 (he:qG P t e sz) (hh:mx.isSome=true->hi.isSome=true) (ev:aT call opn d (.slL sz sx slo shi smx) (σ,h)=some (sv,s1)):mL P o ac w K h σ sv s1:=by
 simp only[aT,aA]at ev
 obtain⟨a,ha,l,hl,n,hn,r,hr,ev⟩:=ev
 have ra:=cD hx g.fr ha
 have rl:=lP g.fr hlo hl
 have rr:=lP g.fr hhi hr
 have hmax:∀(cap:Nat) (sm:SX) (m:IV),smx=some sm->sm.val σ = some m->kB m=some 0->l=0->r=0->∀len,len=n->(Instr.sliceBounds true len cap (lo.map ac.eval) (hi.map ac.eval) (mx.map ac.eval)).run P w = .ok (0,0,0) w:=by
  intro cap sm m e1 e2 e3 e4 e5 len e6
  subst e4;subst e5;subst e6
  cases hmx with
  |none=>cases e1
  |some hm=>
   injection e1 with e1;subst e1
   obtain⟨k,rfl⟩:=lT e3
   have:=(cD hm g.fr e2).int_inv
   exact jQ rl rr (aK _) (aK _) (.inr ⟨⟨k,by simp[this]⟩,fO _,by simpa using hh rfl⟩)
 have hmax2:∀(cap:Nat) (sm:SX) (m:IV) (mn:Nat),smx=some sm->sm.val σ = some m->kB m=some mn->l≤r->r≤mn->mn≤cap->∀len,len=n->(Instr.sliceBounds true len cap (lo.map ac.eval) (hi.map ac.eval) (mx.map ac.eval)).run P w = .ok (l,r,mn) w:=by
  intro cap sm m mn e1 e2 e3 e4 e5 e7 len e6
  subst e6
  cases hmx with
  |none=>cases e1
  |some hm=>
   injection e1 with e1;subst e1
   obtain⟨k,rfl⟩:=lT e3
   have:=(cD hm g.fr e2).int_inv
   exact jQ rl rr e4 e5 (.inr ⟨⟨k,by simp[this]⟩,e7,by simpa using hh rfl⟩)
 split at ev
 ·
  simp only[lenOf,aD]at hn;subst hn
  split at ev
  ·rename_i hc
   obtain⟨rfl,rfl⟩:=hc
   injection ev with ev;injection ev with e1 e2;subst e1;subst e2
   cases hmx
   have ra':ac.eval x = .slice none 0 0:=by generalize ac.eval x=y at ra;cases ra;rfl
   refine .pure' g (x:=.slice none 0 0) ?_ .nils
   rw[jF he ho ra' (jQ (m:=0) rl rr (aK _) (aK _) (.inl ⟨rfl,rfl⟩))]
   rfl
  ·cases ev
 ·
  simp only[lenOf,aD]at hn;subst hn
  split at ev
  ·rename_i hc
   obtain⟨rfl,rfl⟩:=hc
   injection ev with ev;injection ev with e1 e2;subst e1;subst e2
   cases hmx
   obtain⟨ad,ra'⟩:∃ad,ac.eval x = .slice (some ad) 0 0:=by generalize ac.eval x=y at ra;cases ra;exact⟨_,rfl⟩
   refine .pure' g (x:=.slice (some ad) 0 0) ?_ (.esl _)
   rw[jF he ho ra' (jQ (m:=0) rl rr (aK _) (aK _) (.inl ⟨rfl,rfl⟩))]
   rfl
  ·cases ev
 ·
  rename_i bor es
  simp only[lenOf,aD]at hn;subst hn
  split at ev
  ·rename_i hc
   obtain⟨hc1,hc2,hc3⟩:=hc
   injection ev with ev;injection ev with e1 e2;subst e1;subst e2
   cases hmx
   generalize hy:ac.eval x=y at ra
   cases ra with
   |ro bor es ad cap sz' cs hcp hsz hone hst hcs hv=>
    refine .pure' g (jF he ho hy (jQ (m:=cap) rl rr hc1 (by omega) (.inl ⟨rfl,rfl⟩))) ?_
    have hlen:((es.drop l).take (r-l)).length=r-l:=by simp;omega
    have hall:∀e∈es,e.length=sz:=by simpa using hc3
    by_cases hcl:cap=l
    ·have hnil:(es.drop l).take (r-l)=[]:=dH (by omega)
     rw[if_pos hcl,hnil,show r-l=0 by omega]
     exact bS.ro bor [] ad _ 0 (fun _ _=>undef) (fO _) (by simp) (by simp) (fun h=>absurd rfl h) (fun i j hi=>absurd hi (by simp)) (fun i j hi=>absurd hi (by simp))
    ·rw[if_neg hcl]
     simp only[cK]
     have hmem:∀e∈(es.drop l).take (r-l),e∈es:=fun e he=>cU (bN he)
     have hidx:∀i (hi:i<((es.drop l).take (r-l)).length),∃h':l+i<es.length,((es.drop l).take (r-l))[i]=es[l+i]:=fun i hi=>by
      rw[hlen]at hi
      exact⟨by omega,by simp⟩
     have key:bS K w.heap h (.ro bor ((es.drop l).take (r-l))) (.slice (some (ad.add (l*sz))) ((es.drop l).take (r-l)).length (cap-l)):=by
      by_cases hne:(es.drop l).take (r-l)=[]
      ·rw[hne]
       exact bS.ro bor [] _ _ 0 (fun _ _=>undef) (fO _) (by simp) (by simp) (fun h=>absurd rfl h) (fun i j hi=>absurd hi (by simp)) (fun i j hi=>absurd hi (by simp))
      ·have hes:es≠[]:=by rintro rfl;simp at hne
       obtain⟨h1,h2⟩:=hst hes
       have hz:sz'=sz:=by
        obtain⟨e0,he0⟩:=vF es hes
        rw[<-hsz e0 he0,hall e0 he0]
       subst hz
       obtain⟨B,oo,sp⟩:=ad
       simp only at h2;subst h2
       rw[fM]
       refine .ro bor _ ⟨B,oo+l*sz',none⟩ _ sz' (fun i j=>cs (l+i) j) (by omega) (fun e he=>hsz e (hmem e he)) (fun e he=>hone e (hmem e he)) (fun _=>⟨h1,rfl⟩) (fun i j hi hj=>?_) fun i j hi hj=>?_
       ·obtain⟨h',e'⟩:=hidx i hi
        have hj':j<(es[l+i]).length:=by rw[<-e'];exact hj
        have:=hcs (l+i) j h' hj'
        simp only at this |-
        rw[show oo+l*sz'+i*sz'+j=oo+(l+i)*sz'+j by rw[cJ];omega]
        exact this
       ·obtain⟨h',e'⟩:=hidx i hi
        have hj':j<(es[l+i]).length:=by rw[<-e'];exact hj
        have:=hv (l+i) j h' hj'
        simp only[e']
        exact this
     rw[hlen]at key
     exact key
  ·cases ev
 ·
  rename_i b tot off len cap
  simp only[lenOf,aD]at hn;subst hn
  simp only[aA]at ev
  obtain⟨k,hk,ev⟩:=ev
  split at ev
  ·rename_i hc
   obtain⟨hc1,hc2,hc3⟩:=hc
   injection ev with ev;injection ev with e1 e2;subst e1;subst e2
   cases hmx
   generalize hy:ac.eval x=y at ra
   cases ra with
   |sl b tot off len cap ad cap' hb hlen hl=>
    obtain⟨q1,q2,q3,q4,lc,q5,q6,q7⟩:=hl k hk
    refine .pure' g (jF he ho hy (jQ (m:=cap') rl rr hc1 (by omega) (.inl ⟨rfl,rfl⟩))) ?_
    have e0:(if cap'=l then some ad else Option.map (fun x=>x.add (l*sz)) (some ad))=some (if cap'=l then ad else ad.add (l*sz)):=by split<;>rfl
    rw[e0]
    refine .sl _ _ _ _ _ _ _ hb (by omega) fun k' hk'=>?_
    rw[hk]at hk';injection hk' with hk';subst hk'
    refine⟨by omega,by omega,by omega,fun h=>?_,lc,q5,?_,?_⟩
    ·have:=q4 (by omega);omega
    ·by_cases h0:cap'=l
     ·left;omega
     ·right
      rw[if_neg h0]
      rcases q6 with q6|q6
      ·omega
      ·rw[q6,fM,hc3,cJ];congr 1;omega
    ·rw[show off+l+(cap'-l)=off+cap' by omega];exact q7
  ·cases ev
 ·
  simp only[aA]at ev
  obtain⟨m,hm,mn,hmn,ev⟩:=ev
  split at ev
  ·rename_i hc
   obtain⟨rfl,rfl,rfl⟩:=hc
   injection ev with ev;injection ev with e1 e2;subst e1;subst e2
   generalize hy:ac.eval x=y at ra
   cases ra
   simp only[lenOf,aD]at hn;subst hn
   exact .pure' g (jF he ho hy (hmax _ _ _ rfl hm hmn rfl rfl _ rfl)) .nils
  ·cases ev
 ·
  simp only[aA]at ev
  obtain⟨m,hm,mn,hmn,ev⟩:=ev
  split at ev
  ·rename_i hc
   obtain⟨rfl,rfl,rfl⟩:=hc
   injection ev with ev;injection ev with e1 e2;subst e1;subst e2
   generalize hy:ac.eval x=y at ra
   cases ra
   simp only[lenOf,aD]at hn;subst hn
   exact .pure' g (jF he ho hy (hmax _ _ _ rfl hm hmn rfl rfl _ rfl)) (.esl _)
  ·cases ev
 ·
  rename_i bor es sm
  simp only[lenOf,aD]at hn;subst hn
  simp only[aA]at ev
  obtain⟨m,hm,mn,hmn,ev⟩:=ev
  split at ev
  ·rename_i hc
   obtain⟨rfl,rfl,rfl⟩:=hc
   injection ev with ev;injection ev with e1 e2;subst e1;subst e2
   generalize hy:ac.eval x=y at ra
   cases ra
   exact .pure' g (jF he ho hy (hmax _ _ _ rfl hm hmn rfl rfl _ rfl)) (.esl _)
  ·split at ev
   ·rename_i hc
    obtain⟨hc1,hc2,hc4,hc3⟩:=hc
    injection ev with ev;injection ev with e1 e2;subst e1;subst e2
    generalize hy:ac.eval x=y at ra
    cases ra with
    |ro bor es ad cap sz' cs hcp hsz hone hst hcs hv=>
     refine .pure' g (jF he ho hy (hmax2 cap _ _ mn rfl hm hmn hc1 hc2 (by omega) _ rfl)) ?_
     have hlen:((es.drop l).take (r-l)).length=r-l:=by simp;omega
     have hall:∀e∈es,e.length=sz:=by simpa using hc3
     by_cases hcl:mn=l
     ·have hnil:(es.drop l).take (r-l)=[]:=dH (by omega)
      rw[if_pos hcl,hnil,show r-l=0 by omega]
      exact bS.ro bor [] ad _ 0 (fun _ _=>undef) (fO _) (by simp) (by simp) (fun h=>absurd rfl h) (fun i j hi=>absurd hi (by simp)) (fun i j hi=>absurd hi (by simp))
     ·rw[if_neg hcl]
      simp only[cK]
      have hmem:∀e∈(es.drop l).take (r-l),e∈es:=fun e he=>cU (bN he)
      have hidx:∀i (hi:i<((es.drop l).take (r-l)).length),∃h':l+i<es.length,((es.drop l).take (r-l))[i]=es[l+i]:=fun i hi=>by
       rw[hlen]at hi
       exact⟨by omega,by simp⟩
      have key:bS K w.heap h (.ro bor ((es.drop l).take (r-l))) (.slice (some (ad.add (l*sz))) ((es.drop l).take (r-l)).length (mn-l)):=by
       by_cases hne:(es.drop l).take (r-l)=[]
       ·rw[hne]
        exact bS.ro bor [] _ _ 0 (fun _ _=>undef) (fO _) (by simp) (by simp) (fun h=>absurd rfl h) (fun i j hi=>absurd hi (by simp)) (fun i j hi=>absurd hi (by simp))
       ·have hes:es≠[]:=by rintro rfl;simp at hne
        obtain⟨h1,h2⟩:=hst hes
        have hz:sz'=sz:=by
         obtain⟨e0,he0⟩:=vF es hes
         rw[<-hsz e0 he0,hall e0 he0]
        subst hz
        obtain⟨B,oo,sp⟩:=ad
        simp only at h2;subst h2
        rw[fM]
        refine .ro bor _ ⟨B,oo+l*sz',none⟩ _ sz' (fun i j=>cs (l+i) j) (by omega) (fun e he=>hsz e (hmem e he)) (fun e he=>hone e (hmem e he)) (fun _=>⟨h1,rfl⟩) (fun i j hi hj=>?_) fun i j hi hj=>?_
        ·obtain⟨h',e'⟩:=hidx i hi
         have hj':j<(es[l+i]).length:=by rw[<-e'];exact hj
         have:=hcs (l+i) j h' hj'
         simp only at this |-
         rw[show oo+l*sz'+i*sz'+j=oo+(l+i)*sz'+j by rw[cJ];omega]
         exact this
        ·obtain⟨h',e'⟩:=hidx i hi
         have hj':j<(es[l+i]).length:=by rw[<-e'];exact hj
         have:=hv (l+i) j h' hj'
         simp only[e']
         exact this
      rw[hlen]at key
      exact key
   ·cases ev
 ·
  rename_i b tot off len cap sm
  simp only[lenOf,aD]at hn;subst hn
  simp only[aA]at ev
  obtain⟨m,hm,mn,hmn,ev⟩:=ev
  split at ev
  ·rename_i hc
   obtain⟨rfl,rfl,rfl⟩:=hc
   injection ev with ev;injection ev with e1 e2;subst e1;subst e2
   generalize hy:ac.eval x=y at ra
   cases ra
   exact .pure' g (jF he ho hy (hmax _ _ _ rfl hm hmn rfl rfl _ rfl)) (.esl _)
  ·simp only[aA]at ev
   obtain⟨k,hk,ev⟩:=ev
   split at ev
   ·rename_i hc
    obtain⟨hc1,hc2,hc4,hc3⟩:=hc
    injection ev with ev;injection ev with e1 e2;subst e1;subst e2
    generalize hy:ac.eval x=y at ra
    cases ra with
    |sl b tot off len cap ad cap' hb hlen hl=>
     obtain⟨q1,q2,q3,q4,lc,q5,q6,q7⟩:=hl k hk
     refine .pure' g (jF he ho hy (hmax2 cap' _ _ mn rfl hm hmn hc1 hc2 (by omega) _ rfl)) ?_
     have e0:(if mn=l then some ad else Option.map (fun x=>x.add (l*sz)) (some ad))=some (if mn=l then ad else ad.add (l*sz)):=by split<;>rfl
     rw[e0]
     refine .sl _ _ _ _ _ _ _ hb (by omega) fun k' hk'=>?_
     rw[hk]at hk';injection hk' with hk';subst hk'
     refine⟨by omega,by omega,by omega,fun h=>rfl,lc,q5,?_,?_⟩
     ·by_cases h0:mn=l
      ·left;omega
      ·right
       rw[if_neg h0]
       rcases q6 with q6|q6
       ·omega
       ·rw[q6,fM,hc3,cJ];congr 1;omega
     ·have:(off+l+(mn-l))*k.sz≤(off+cap')*k.sz:=bB _ (by omega)
      omega
   ·cases ev
 ·cases ev
end
end Go.Ideal
namespace Go.Ideal
section
variable {P:Program} {o:Oper} {ac:Act} {w:World} {K:Kx} {h:aN} {σ:Fr} {d:Option Nat} {call:Nat->List IV->aN->Option (IV×aN)} {opn:Nat->Bool} {sv:SV} {s1:St}
theorem y_slA (g:dK K h w.heap σ ac.tmps) {t:TypeId} {x:Operand} {lo hi:Option Operand} {sx:SX} {slo shi:Option SX} {n:Nat} {e:TypeId} {sz:Nat} (ho:o.op = .slice t x lo hi none) (hx:bG x sx) (hlo:lM lo slo) (hhi:lM hi shi)
 (ht:P.underlying t=some (.array n e)) (hs:Aw P e sz) (ev:aT call opn d (.slA n sz sx slo shi) (σ,h)=some (sv,s1)):mL P o ac w K h σ sv s1:=by
 simp only[aT,aA]at ev
 obtain⟨a,ha,l,hl,r,hr,ev⟩:=ev
 have ra:=kQ hx g.fr ha
 have rl:=lP g.fr hlo hl
 have rr:=lP g.fr hhi hr
 have run:∀ad:Addr,ac.eval x = .pointer (some ad)->l≤r->r≤n->(execOp ac.eval o).run P w = .ok (.value (.slice (some (if n=l then ad else ad.add (l*sz))) (r-l) (n-l))) w:=by
  intro ad e h1 h2
  have:=jQ (P:=P) (w:=w) (isS:=false) (len:=n) (cap:=n) (m:=n) (mx:=none) rl rr h1 h2 (.inl ⟨rfl,rfl⟩)
  simp only[execOp,ho,Instr.sliceAt,e,Instr.sureAddr,aO,run_underlying ht,aH,Option.map_none,aU,this,fR hs]
 split at ev
 ·rename_i hc
  obtain⟨hc1,hc2,rfl⟩:=hc
  split at ev
  ·rename_i b ee off
   split at ev
   ·rename_i hle
    injection ev with ev;injection ev with e1 e2;subst e1;subst e2
    simp only[Ad]at ra
    generalize hy:ac.eval x=y at ra
    cases ra with
    |rptr _ _ _ B oo cs h1 h2 h3 h4=>
     refine .pure' g (run _ hy hc1 hc2) ?_
     generalize hes:((((ee.drop off).take n).drop l).take (r-l)).map (fun c=>[c])=es
     have hlen:es.length=r-l:=by subst hes;simp;omega
     have hget:∀i (hi:i<es.length),∃h':off+(l+i)<ee.length,es[i]=[ee[off+(l+i)]]:=fun i hi=>by
      rw[hlen]at hi
      refine⟨by omega,?_⟩
      subst hes;simp
     have key:bS K w.heap h (.ro b es) (.slice (some (if n=l then (⟨B,oo+off,none⟩:Addr) else (⟨B,oo+off,none⟩:Addr).add (l*1))) es.length (n-l)):=by
      have hsp:(if n=l then (⟨B,oo+off,none⟩:Addr) else (⟨B,oo+off,none⟩:Addr).add (l*1))=⟨B,oo+off+(if n=l then 0 else l),none⟩:=by
       split
       ·rfl
       ·rw[fM,Nat.mul_one]
      rw[hsp]
      refine .ro b es _ _ 1 (fun i _=>cs (off+(l+i))) (by omega) (fun e he=>?_) (fun e he c hc=>?_) (fun _=>⟨h1,rfl⟩) (fun i j hi hj=>?_) fun i j hi hj=>?_
      ·obtain⟨i,hi,rfl⟩:=dQ.1 he
       obtain⟨h',e'⟩:=hget i hi
       simp[e']
      ·obtain⟨i,hi,rfl⟩:=dQ.1 he
       obtain⟨h',e'⟩:=hget i hi
       rw[e']at hc
       simp at hc;subst hc
       exact h2 _ (bH _)
      ·obtain⟨h',e'⟩:=hget i hi
       have hj0:j=0:=by rw[e']at hj;simpa using hj
       subst hj0
       have hnl:n≠l:=by omega
       simp only[if_neg hnl]
       rw[<-h3 _ h']
       congr 1;omega
      ·obtain⟨h',e'⟩:=hget i hi
       have hj0:j=0:=by rw[e']at hj;simpa using hj
       subst hj0
       simp only[e']
       exact h4 _ h'
     rw[hlen]at key
     exact key
   ·cases ev
  ·rename_i b tot i off
   simp only[aA]at ev
   obtain⟨k,hk,ev⟩:=ev
   split at ev
   ·rename_i hh
    obtain⟨hz,rfl,htot⟩:=hh
    injection ev with ev;injection ev with e1 e2;subst e1;subst e2
    simp only[Ad]at ra
    generalize hy:ac.eval x=y at ra
    cases ra with
    |ptr _ _ _ _ ad hb hl'=>
     refine .pure' g (run ad hy hc1 hc2) (.sl _ _ _ _ _ _ _ hb (by omega) fun k' hk'=>?_)
     rw[hk]at hk';injection hk' with hk';subst hk'
     obtain⟨g1,lc,g2,rfl⟩:=hl' k hk
     obtain⟨f1,f2⟩:=fJ.1 hk
     obtain⟨_,l0,f3,_,CS,el,fr,f4,f5,f6,f7⟩:=g.inv.blk b k f1
     rw[g2]at f3;injection f3 with f3;subst f3
     refine⟨by omega,by omega,by omega,fun h=>by omega,lc,g2,?_,?_⟩
     ·by_cases h0:n=l
      ·left;omega
      ·right;rw[if_neg h0,fM,hz];congr 1;omega
     ·have:=f7.2.1;rw[f2,hz]at this;rw[hz];omega
   ·cases ev
  ·cases ev
 ·cases ev
theorem rT (g:dK K h w.heap σ ac.tmps) {v:IV} {x:Value} {sz:Nat} {es:List (List IV)} (r:bS K w.heap h v x) (e:fF h sz v=some es):
 (∀e∈es,e.length=sz/\∀c∈e,c.one=true)/\(Builtin.lenOf x).run P w = .ok es.length w/\
   ∀m,m≤es.length->∃vs:List Value,(∀w3:World,w3.heap=w.heap->(Builtin.firstCells sz m x).run P w3 = .ok vs.toArray w3)/\dE K w.heap h (es.take m).flatten vs:=by
 have none_:es=[]->x = .slice none 0 0\/(∃a,x = .slice (some a) 0 0)->(∀e∈es,e.length=sz/\∀c∈e,c.one=true)/\(Builtin.lenOf x).run P w = .ok es.length w/\
  ∀m,m≤es.length->∃vs:List Value,(∀w3:World,w3.heap=w.heap->(Builtin.firstCells sz m x).run P w3 = .ok vs.toArray w3)/\dE K w.heap h (es.take m).flatten vs:=by
  rintro rfl hx
  refine⟨by simp,?_,fun m hm=>?_⟩
  ·rcases hx with rfl|⟨a,rfl⟩<;>simp[Builtin.lenOf]
  ·have:m=0:=by simpa using hm
   subst this
   refine⟨[],fun w3 _=>?_,by simp[dE]⟩
   rcases hx with rfl|⟨a,rfl⟩<;>simp[Builtin.firstCells,loadCells,loadCellsFrom]
 have rows:∀(a:Addr) (len cap:Nat),x = .slice (some a) len cap->es.length=len->(∀e∈es,e.length=sz/\∀c∈e,c.one=true)->
  (∀(i j:Nat) (e:List IV) (c:IV),es[i]? = some e->e[j]? = some c->a.spot=none/\∃v,wU w.heap a.block (a.off+i*sz+j)=some v/\bS K w.heap h c v)->
  (∀e∈es,e.length=sz/\∀c∈e,c.one=true)/\(Builtin.lenOf x).run P w = .ok es.length w/\
  ∀m,m≤es.length->∃vs:List Value,(∀w3:World,w3.heap=w.heap->(Builtin.firstCells sz m x).run P w3 = .ok vs.toArray w3)/\dE K w.heap h (es.take m).flatten vs:=by
  rintro a len cap rfl hlen hall hget
  refine⟨hall,by simp[Builtin.lenOf,hlen],fun m hm=>?_⟩
  have hall':∀e∈es.take m,e.length=sz:=fun e he=>(hall e (bN he)).1
  obtain⟨f1,f2⟩:=gB hall'
  have hl:(es.take m).length=m:=by simp;omega
  have hidx:∀j,j<m*sz->∃v,a.spot=none/\wU w.heap a.block (a.off+j)=some v/\∀c,(es.take m).flatten[j]? = some c->bS K w.heap h c v:=fun j hj=>by
   have hpos:0<sz:=by rcases Nat.eq_zero_or_pos sz with h0|h0;simp[h0]at hj;exact h0
   have hm1:j%sz<sz:=Nat.mod_lt _ hpos
   have hd:j/sz<m:=by rw[Ax hpos];exact hj
   have e1:es[j/sz]? = some (es[j/sz]'(by omega)):=aG (by omega)
   have e2:(es[j/sz]'(by omega))[j%sz]? = some ((es[j/sz]'(by omega))[j%sz]'(by rw[(hall _ (bH _)).1];exact hm1)):=aG _
   obtain⟨h0,v,h1,h2⟩:=hget _ _ _ _ e1 e2
   have e3:=f2 (j/sz) (j%sz) _ _ (by rw[gW,if_pos hd];exact e1) e2
   have e4:j/sz*sz+j%sz=j:=by rw[Af];exact Al j sz
   rw[e4]at e3
   refine⟨v,h0,by rw[<-h1];congr 1;omega,fun c hc=>?_⟩
   rw[e3]at hc;injection hc with hc;subst hc;exact h2
  obtain⟨vs,v1,v2⟩:=rD (m*sz) (fun j v=>a.spot=none/\wU w.heap a.block (a.off+j)=some v/\∀c,(es.take m).flatten[j]? = some c->bS K w.heap h c v) hidx
  refine⟨vs,fun w3 h3=>?_,.mk' (by rw[f1,hl,v1]) fun j c hc=>?_⟩
  ·simp only[Builtin.firstCells]
   by_cases h0:m*sz=0
   ·rw[h0]at v1 |-
    rw[dH v1]
    simp[loadCells,loadCellsFrom]
   ·have hsp:=(v2 0 _ (aG (by omega))).1
    exact Bh (fun j v hv=>by rw[h3];exact(v2 j v hv).2.1) hsp v1
  ·have hj:j<vs.length:=by
    have:=(aJ.1 hc).1
    rw[f1,hl]at this;omega
   exact⟨vs[j],aG hj,(v2 j _ (aG hj)).2.2 c hc⟩
 unfold fF at e
 split at e
 ·injection e with e
  cases r with
  |nils=>exact none_ e.symm (.inl rfl)
 ·injection e with e
  cases r with
  |esl a=>exact none_ e.symm (.inr ⟨a,rfl⟩)
 ·rename_i bor es'
  split at e
  ·rename_i hall
   injection e with e;subst e
   have hall':∀e∈es',e.length=sz:=by simpa using hall
   cases r with
   |ro _ _ a cap sz' cs hc hsz hone hst hcs hv=>
    refine rows a _ cap rfl rfl (fun e he=>⟨hall' e he,hone e he⟩) fun i j e c he hcc=>?_
    obtain⟨hi,rfl⟩:=aJ.1 he
    obtain⟨hj,rfl⟩:=aJ.1 hcc
    have hne:es'≠[]:=by rintro rfl;simp at hi
    have hz:sz'=sz:=by rw[<-hsz _ (bH hi)];exact hall' _ (bH hi)
    subst hz
    exact⟨(hst hne).2,_,hcs i j hi hj,(hv i j hi hj).weak (fun t B hs=>⟨hs,rfl⟩) h⟩
  ·cases e
 ·rename_i es'
  split at e
  ·rename_i hall
   injection e with e;subst e
   have hall':∀e∈es',e.length=sz:=by simpa using hall
   cases r with
   |lit _ a sz' cs hsz hone hst hcs hv ho=>
    refine rows a _ _ rfl rfl (fun e he=>⟨hall' e he,hone e he⟩) fun i j e c he hcc=>?_
    obtain⟨hi,rfl⟩:=aJ.1 he
    obtain⟨hj,rfl⟩:=aJ.1 hcc
    have hz:sz'=sz:=by rw[<-hsz _ (bH hi)];exact hall' _ (bH hi)
    subst hz
    exact⟨hst.2,_,hcs i j hi hj,hv i j hi hj⟩
  ·cases e
 ·rename_i b tot off len cap
  simp only[aA]at e
  obtain⟨k,hk,e⟩:=e
  split at e
  ·rename_i hh
   obtain⟨hz,hle⟩:=hh
   injection e with e;subst e
   obtain⟨g1,g2⟩:=fJ.1 hk
   obtain⟨hpos,lc,g3,_,CS,el,fr,g4,g5,g6,g7,g8,g9⟩:=g.inv.blk b k g1
   cases r with
   |sl _ _ _ _ _ a cap' hb hlen hl=>
    obtain⟨q1,q2,q3,q4,l2,q5,q6,q7⟩:=hl k hk
    rw[g3]at q5;injection q5 with q5;subst q5
    have hlen2:((k.es.drop off).take len).length=len:=by simp;omega
    refine rows a len cap' rfl hlen2 (fun e he=>?_) fun i j e c he hcc=>?_
    ·rw[<-hz];exact g7 e (cU (bN he))
    ·obtain⟨h5,h6⟩:=jD he
     obtain⟨v,h7,h8⟩:=g9 _ j e c h6 hcc
     rcases q6 with q6|q6
     ·omega
     ·subst q6
      refine⟨rfl,v,?_,h8⟩
      simp only
      rw[tF g4,<-hz]
      rw[show lc.s+off*k.sz+i*k.sz+j=lc.s+(off+i)*k.sz+j by rw[cJ];omega]
      exact h7
  ·cases e
 ·rename_i s
  split at e
  ·rename_i hz
   subst hz
   injection e with e;subst e
   obtain⟨b,rfl,rfl⟩:=r.str_inv
   refine⟨fun e he=>?_,by simp[Builtin.lenOf],fun m hm=>?_⟩
   ·simp only[bI]at he
    obtain⟨c,_,rfl⟩:=he
    exact⟨rfl,fun c hc=>by simp at hc;subst hc;rfl⟩
   ·refine⟨(b.data.toList.take m).map fun b=>.int .u8 b.toNat,fun w3 _=>?_,?_⟩
    ·simp only[Builtin.firstCells,aU]
     congr 1
     apply Ji
     simp[vE]
    ·rw[<-List.map_take]
     generalize b.data.toList.take m=l
     induction l with
     |nil=>exact .nil
     |cons c l ih=>exact .cons (.int _ _) ih
  ·cases e
 ·cases e
theorem kJ {c:Call} {b:Builtin} (ho:o.op = .call c) (hc:c.callee = .builtin b):execOp ac.eval o=Go.builtin b c.argTypes o.type (c.args.map fun | .const _=>true|_=>false) (c.args.map ac.eval):=by
 simp only[execOp,ho,resolve,hc,Go.invoke]
 rfl
theorem y_len (g:dK K h w.heap σ ac.tmps) {c:Call} {x:Operand} {sx:SX} {t:TypeId} {dd:TypeDesc} {b:Bool} (ho:o.op = .call c) (hc:c.callee = .builtin .len) (ha:c.args = #[x]) (ht:c.argTypes = #[t]) (hx:bG x sx) (hu:P.underlying t=some dd)
 (hd:(b=true/\dd = .string)\/(b=false/\∃e,dd = .slice e)) (ev:aT call opn d (.len b sx) (σ,h)=some (sv,s1)):mL P o ac w K h σ sv s1:=by
 simp only[aT,aA]at ev
 obtain⟨a,hva,ev⟩:=ev
 have ra:=cD hx g.fr hva
 have main:∀n:Nat,((∃s,ac.eval x = .string s/\s.size=n/\b=true)\/∃a cap,ac.eval x = .slice a n cap/\b=false)->(execOp ac.eval o).run P w = .ok (.value (.int .i64 n)) w:=by
  intro n hv
  rw[kJ ho hc,ha,ht]
  rcases hv with ⟨s,e1,e2,rfl⟩|⟨a,cap,e1,rfl⟩
  ·rcases hd with ⟨_,rfl⟩|⟨h1,_⟩
   ·simp[Go.builtin,Builtin.len_,e1,run_underlying hu,goInt,e2]
   ·cases h1
  ·rcases hd with ⟨h1,_⟩|⟨_,e,rfl⟩
   ·cases h1
   ·simp[Go.builtin,Builtin.len_,e1,run_underlying hu,goInt]
 split at ev
 ·injection ev with ev;injection ev with e1 e2;subst e1;subst e2
  obtain⟨s,e1,rfl⟩:=ra.str_inv
  exact .pure' g (main _ (.inl ⟨s,e1,by simp,rfl⟩)) (.int _ _)
 ·cases ev
 ·rename_i hns
  simp only[aA]at ev
  obtain⟨n,hn,ev⟩:=ev
  injection ev with ev;injection ev with e1 e2;subst e1;subst e2
  refine .pure' g (main n (.inr ?_)) (.int _ _)
  generalize ac.eval x=y at ra
  unfold lenOf at hn
  split at hn<;>first|(cases hn;done)|(injection hn with hn;subst hn;cases ra;first|exact⟨_,_,rfl,rfl⟩|exact absurd rfl (hns _))
 ·cases ev
theorem Wc (g:dK K h w.heap σ ac.tmps) {c:Call} {x:Operand} {t e:TypeId} {n:Nat} (ho:o.op = .call c) (hc:c.callee = .builtin .len) (ha:c.args = #[x]) (ht:c.argTypes = #[t]) (hu:P.underlying t=some (.array n e))
 (ev:aT call opn d (.lenA n) (σ,h)=some (sv,s1)):mL P o ac w K h σ sv s1:=by
 simp only[aT]at ev
 injection ev with ev;injection ev with e1 e2;subst e1;subst e2
 refine .pure' g (x:=.int .i64 n) ?_ (.int _ _)
 rw[kJ ho hc,ha,ht]
 simp[Go.builtin,Builtin.len_,run_underlying hu,goInt]
theorem y_cap (g:dK K h w.heap σ ac.tmps) {c:Call} {x:Operand} {sx:SX} {t e:TypeId} (ho:o.op = .call c) (hc:c.callee = .builtin .cap) (ha:c.args = #[x]) (ht:c.argTypes = #[t]) (hx:bG x sx) (hu:P.underlying t=some (.slice e))
 (ev:aT call opn d (.cap sx) (σ,h)=some (sv,s1)):mL P o ac w K h σ sv s1:=by
 simp only[aT,aA]at ev
 obtain⟨a,hva,ev⟩:=ev
 have ra:=cD hx g.fr hva
 split at ev<;>first|(cases ev;done)|skip
 all_goals
  injection ev with ev;injection ev with e1 e2;subst e1;subst e2
  refine .pure' g (x:=.int .i64 0) ?_ (.int _ _)
  rw[kJ ho hc,ha,ht]
  generalize hy:ac.eval x=y at ra
  cases ra
  simp[Go.builtin,Builtin.cap_,hy,run_underlying hu,goInt]
theorem y_mn (g:dK K h w.heap σ ac.tmps) {c:Call} {x y:Operand} {sx sy:SX} (ho:o.op = .call c) (hc:c.callee = .builtin .min) (ha:c.args = #[x,y]) (hx:bG x sx) (hy:bG y sy)
 (ev:aT call opn d (.mn sx sy) (σ,h)=some (sv,s1)):mL P o ac w K h σ sv s1:=by
 simp only[aT,aA]at ev
 obtain⟨a,hva,b,hvb,ev⟩:=ev
 have ra:=cD hx g.fr hva
 have rb:=cD hy g.fr hvb
 split at ev
 ·injection ev with ev;injection ev with e1 e2;subst e1;subst e2
  refine .pure' g ?_ (.int _ _)
  rw[kJ ho hc,ha]
  simp[Go.builtin,Builtin.min_,Builtin.min2,ra.int_inv,rb.int_inv]
 ·cases ev
theorem y_mx (g:dK K h w.heap σ ac.tmps) {c:Call} {x y:Operand} {sx sy:SX} (ho:o.op = .call c) (hc:c.callee = .builtin .max) (ha:c.args = #[x,y]) (hx:bG x sx) (hy:bG y sy)
 (ev:aT call opn d (.mx sx sy) (σ,h)=some (sv,s1)):mL P o ac w K h σ sv s1:=by
 simp only[aT,aA]at ev
 obtain⟨a,hva,b,hvb,ev⟩:=ev
 have ra:=cD hx g.fr hva
 have rb:=cD hy g.fr hvb
 split at ev
 ·injection ev with ev;injection ev with e1 e2;subst e1;subst e2
  refine .pure' g ?_ (.int _ _)
  rw[kJ ho hc,ha]
  simp[Go.builtin,Builtin.max_,Builtin.max2,ra.int_inv,rb.int_inv]
 ·cases ev
end
end Go.Ideal
namespace Go.Ideal
theorem Gb {K:Kx} {h:aN} {H H1:gC} {σ:Fr} {a:Array Value} (g:dK K h H σ a) {b:Nat} {k:mQ} (hk:h[b]? = some (some k)) {l l1:Uw} (hl:K.φ b=some l) {es:List (List IV)} (hlen:k.es.length<es.length)
 {CS:Array Value} {el:TypeId} {fr:Nat×Nat} (hH:H1[l1.B]? = some (.cells CS el fr)) (hE:CS.size=l1.E) (hf:vW k.sz CS fr) (hs:H.size≤H1.size) (hB:l1.B=l.B\/l1.B=H.size) (hsame:∀B,B<H.size->B≠l1.B->H1[B]? = H[B]?)
 (hr:Ah K H h k.sz es CS l1.s):Step K h H σ a (K.add b l1) (h.set b (some ⟨k.sz,es⟩)) H1 σ:=by
 have hb:b<h.length:=(aJ.1 hk).1
 obtain⟨hpos,l0,e0,hst,CS0,el0,fr0,e1,e2,e3,e4⟩:=g.inv.blk b k hk
 rw[hl]at e0;injection e0 with e0;subst e0
 have hown:own K h l.B:=⟨b,k,l,hk,hl,rfl⟩
 have hlt:=fI e1
 have hφ:∀b',b'≠b->(K.add b l1).φ b'=K.φ b':=fun b' hb'=>by simp only[Kx.add];rw[if_neg hb']
 have hφb:(K.add b l1).φ b=some l1:=by simp[Kx.add]
 have hset:∀b',(h.set b (some ⟨k.sz,es⟩))[b']? = if b=b' then some (some ⟨k.sz,es⟩) else h[b']?:=fun b'=>by
  rw[eQ];split
  ·try rw[if_pos hb]
   try rfl
  ·rfl
 have hstt:∀t x,K.st t x->x≠l1.B/\x<H.size:=fun t x hx=>by
  have hx':K.st true x:=by cases t;exact g.inv.sub x hx;exact hx
  have:=g.inv.lt x hx'
  refine⟨fun e=>?_,this⟩
  rcases hB with hB|hB
  ·exact hst (by rw[<-hB,<-e];exact hx')
  ·omega
 have hown1:∀B,own (K.add b l1) (h.set b (some ⟨k.sz,es⟩)) B->own K h B\/B=H.size:=by
  rintro B ⟨b',k',l',f1,f2,f3⟩
  rw[hset]at f1
  split at f1
  ·rename_i e
   subst e
   rw[hφb]at f2;injection f2 with f2;subst f2
   rcases hB with hB|hB
   ·left;rw[<-f3,hB];exact hown
   ·right;omega
  ·rename_i e
   rw[hφ _ (Ne.symm e)]at f2
   exact .inl ⟨b',k',l',f1,f2,f3⟩
 have E:oF K h H (fZ K h σ a) (K.add b l1) (h.set b (some ⟨k.sz,es⟩)) H1 (fZ (K.add b l1) (h.set b (some ⟨k.sz,es⟩)) σ a):=by
  refine⟨by simp,fun b' k' hb' e=>?_,fun t x hx=>⟨hx,hsame x (hstt t x hx).2 (hstt t x hx).1⟩,fun t x hx _=>hx,hs,fun x hx hm=>?_,fun x hx hm=>?_,fun t x hx=>.inl hx⟩
  ·rw[hset]at e
   split at e
   ·rename_i e'
    subst e'
    injection e with e;injection e with e;subst e
    exact⟨k,hk,by simp only;omega,fun he=>by simp only at he;omega⟩
   ·rename_i e'
    exact⟨k',e,aK _,fun _=>⟨rfl,hφ _ (Ne.symm e')⟩⟩
  ·refine hsame x hx fun e=>?_
   rcases hB with hB|hB
   ·exact hm (.inl (by rw[e,hB];exact hown))
   ·omega
  ·rcases hm with hm|hm
   ·rcases hown1 x hm with h1|h1
    ·exact .inl h1
    ·omega
   ·exact .inr hm
 have hkeep:∀B,fZ K h σ a B->B≠l.B->H1[B]? = H[B]?:=fun B hm hne=>by
  have hBl:=(mU g.inv g.fr hm).1
  refine hsame B hBl fun e=>?_
  rcases hB with hB|hB
  ·exact hne (by rw[e,hB])
  ·omega
 refine⟨E,⟨⟨fun b' k' hk'=>?_,fun b1 b2 k1 k2 l1' l2' f1 f2 f3 f4 f5=>?_,g.inv.sub,fun x hx=>bM (g.inv.lt x hx) hs⟩,⟨fun t v ht hgo=>?_,fun t cs ht=>?_,g.fr.lptr,g.fr.sep⟩⟩⟩
 ·rw[hset]at hk'
  split at hk'
  ·rename_i e
   subst e
   injection hk' with hk';injection hk' with hk';subst hk'
   refine⟨hpos,l1,hφb,fun hs'=>(hstt true _ hs').1 rfl,CS,el,fr,hH,hE,hf,hr.ext E⟩
  ·rename_i e
   obtain⟨hp',l',f1,f2,CS',el',fr',f3,f4,f5,f6⟩:=g.inv.blk b' k' hk'
   have hne:l'.B≠l.B:=fun e'=>e (g.inv.inj b b' k k' l l' hk hk' hl f1 e'.symm)
   exact⟨hp',l',by rw[hφ _ (Ne.symm e)];exact f1,f2,CS',el',fr',(hkeep _ (.inl ⟨b',k',l',hk',f1,rfl⟩) hne).trans f3,f4,f5,f6.ext E⟩
 ·rw[hset]at f1 f2
  have hne:∀{b':Nat} {k':mQ} {l':Uw},b≠b'->h[b']? = some (some k')->K.φ b'=some l'->l'.B≠l1.B:=fun e f1 f3 e'=>by
   have:=(g.inv.own_lt ⟨_,_,_,f1,f3,rfl⟩).1
   rcases hB with hB|hB
   ·exact e (g.inv.inj b _ k _ l _ hk f1 hl f3 (by rw[e',hB]))
   ·omega
  split at f1
  ·rename_i e
   subst e
   rw[hφb]at f3;injection f3 with f3;subst f3
   split at f2
   ·rename_i e';exact e'
   ·rename_i e'
    rw[hφ _ (Ne.symm e')]at f4
    exact absurd f5.symm (hne e' f2 f4)
  ·rename_i e
   rw[hφ _ (Ne.symm e)]at f3
   split at f2
   ·rename_i e'
    subst e'
    rw[hφb]at f4;injection f4 with f4;subst f4
    exact absurd f5 (hne e f1 f3)
   ·rename_i e'
    rw[hφ _ (Ne.symm e')]at f4
    exact g.inv.inj b1 b2 k1 k2 l1' l2' f1 f2 f3 f4 f5
 ·obtain⟨x,h1,h2⟩:=g.fr.val t v ht hgo
  exact⟨x,h1,h2.ext E⟩
 ·obtain⟨B,ob,h1,h2,h4,h5,h6⟩:=g.fr.box t cs ht
  have hB':=fI h2
  refine⟨B,ob,h1,(hkeep B (.inr ⟨t,cs,ht,h1⟩) fun e=>h6 (e▸hown)).trans h2,h4.ext E,h5,fun ho=>?_⟩
  rcases hown1 B ho with h7|h7
  ·exact h6 h7
  ·omega
section
variable {P:Program} {o:Oper} {ac:Act} {w:World} {K:Kx} {h:aN} {σ:Fr} {d:Option Nat} {call:Nat->List IV->aN->Option (IV×aN)} {opn:Nat->Bool} {sv:SV} {s1:St}
theorem Di (g:dK K h w.heap σ ac.tmps) {es:List (List IV)} {sz len cap cap':Nat} {CS:Array Value} {el:TypeId} {fr:Nat×Nat} (hz:0<sz) (hf:vW sz CS fr) (hr:Ah K w.heap h sz es CS 0) (hl:len≤cap) (hc:es.length=cap) (hc':cap≤cap') (hE:cap'*sz≤CS.size):
 ∃K1,Step K h w.heap σ ac.tmps K1 (h++[some ⟨sz,es⟩]) (w.heap.push (.cells CS el fr)) σ/\bS K1 (w.heap.push (.cells CS el fr)) (h++[some ⟨sz,es⟩]) (.sl h.length cap 0 len cap) (.slice (some ⟨w.heap.size,0,none⟩) len cap'):=by
 have S:=yI g (el:=el) hz hf hr
 refine⟨_,S,.sl _ _ _ _ _ _ _ ⟨by simp,fun k hk=>?_⟩ (by omega) fun k hk=>?_⟩
 ·rw[iY,if_pos rfl]at hk
  injection hk with hk;injection hk with hk;subst hk
  simp only;omega
 ·obtain⟨hk,_⟩:=fJ.1 hk
  rw[iY,if_pos rfl]at hk
  injection hk with hk;injection hk with hk;subst hk
  exact⟨by omega,hl,hc',by omega,⟨w.heap.size,0,CS.size⟩,by simp[Kx.add],.inr (by simp),by simpa using hE⟩
theorem Wv (g:dK K h w.heap σ ac.tmps) {es:List (List IV)} {sz cap':Nat} {CS:Array Value} {el:TypeId} {fr:Nat×Nat} (hr:Ah K w.heap h sz es CS 0) (hown:∀e∈es,∀c∈e,c.own=false) (hc':es.length≤cap'):
 Step K h w.heap σ ac.tmps (K.stab w.heap.size) h (w.heap.push (.cells CS el fr)) σ/\bS (K.stab w.heap.size) (w.heap.push (.cells CS el fr)) h (.ro false es) (.slice (some ⟨w.heap.size,0,none⟩) es.length cap'):=by
 have S:=Ka g (.cells CS el fr) ⟨_,_,_,rfl⟩
 refine⟨S,?_⟩
 have hget:∀i j,∃v,∀(hi:i<es.length) (hj:j<(es[i]).length),CS[i*sz+j]? = some v/\bS K w.heap [] (es[i][j]) v:=fun i j=>by
  by_cases hi:i<es.length
  ·by_cases hj:j<(es[i]).length
   ·obtain⟨v,h1,h2⟩:=hr.2.2 i j _ _ (aG hi) (aG hj)
    rw[bV]at h1
    exact⟨v,fun _ _=>⟨h1,h2.of_own (hown _ (bH hi) _ (bH hj))⟩⟩
   ·exact⟨undef,fun _ h=>absurd h hj⟩
  ·exact⟨undef,fun h=>absurd h hi⟩
 obtain⟨cs,hcs⟩:=Classical.axiomOfChoice (fun i=>Classical.axiomOfChoice (hget i))
 refine .ro false es ⟨w.heap.size,0,none⟩ cap' sz cs hc' (fun e he=>(hr.1 e he).1) (fun e he=>(hr.1 e he).2) (fun _=>⟨.inr rfl,rfl⟩) (fun i j hi hj=>?_) fun i j hi hj=>?_
 ·have:=(hcs i j hi hj).1
  simp only[wU]
  rw[jR,if_pos rfl]
  simpa using this
 ·exact(hcs i j hi hj).2.weak S.1.st []
theorem Yq (w:World) (q:Question) {n:Nat} {w':World} (e:(choose q).run P w = .ok n w'):w'.heap=w.heap:=by
 simp only[choose,Sem.run]at e
 split at e<;>(simp only[Sem.run,Result.ok.injEq]at e;rw[<-e.2])
theorem Sm (w:World) (need old:Nat) (e:TypeId) (hn:need<2^63):∃cap w',(choose (.appendCap need old e)).run P w = .ok cap w'/\w'.heap=w.heap/\need≤cap/\((w'.os,w'.tape),w'.output)=((w.os,w.tape),w.output):=by
 refine⟨(Question.appendCap need old e).cut (w.tape w.drawn (.appendCap need old e)),{ w with drawn:=w.drawn+1 },by simp[choose,Sem.run,Question.forced],rfl,?_,rfl⟩
 simp only[Question.cut];omega
theorem Iu {src dst e:TypeId} {d:TypeDesc} {b:ByteArray} (hs:P.underlying src=some d) (hd:P.underlying dst=some (.slice e)) (he:P.underlying e=some (.int .u8)):(convert src dst (.string b)).run P w=(Conv.stringToBytes e b).run P w:=by
 unfold convert
 simp only[aO,run_underlying hs,run_underlying hd,aH]
 cases d<;>simp only[aO,run_underlying he,aH]
theorem Wj (g:dK K h w.heap σ ac.tmps) {src dst e:TypeId} {d0:TypeDesc} {x:Operand} {sx:SX} {own:Bool} (ho:o.op = .convert src dst x) (hx:bG x sx) (hs:P.underlying src=some d0) (hd:P.underlying dst=some (.slice e)) (he:P.underlying e=some (.int .u8))
 (ev:aT call opn d (.cvSB own sx) (σ,h)=some (sv,s1)):mL P o ac w K h σ sv s1:=by
 simp only[aT,aA]at ev
 obtain⟨a,ha,ev⟩:=ev
 have ra:=cD hx g.fr ha
 split at ev
 ·rename_i s
  obtain⟨b,eb,rfl⟩:=ra.str_inv
  split at ev
  ·cases ev
  ·rename_i hbig
   have hbig:b.size<2^63:=by
    have:b.data.toList.length=b.size:=by simp
    rw[this]at hbig
    unfold bY at hbig;omega
   obtain⟨cap,w',hc1,hc2,hc3,hcio⟩:=Sm (P:=P) w b.size 0 e hbig
   generalize hCS:((b.data.map fun b=>Value.int .u8 b.toNat)++Array.replicate (cap-b.size) (.int .u8 0))=CS
   have hsz:CS.size=cap:=by subst hCS;simp;omega
   have hr:(execOp ac.eval o).run P w = .ok (.value (.slice (some ⟨w.heap.size,0,none⟩) b.size cap)) { w' with heap:=w.heap.push (.cells CS e (CS.size,CS.size+1)) }:=by
    simp only[execOp,ho,eb,aO,Iu hs hd he,Conv.stringToBytes,hc1,hCS,aH,aU]
    simp only[newRow,newObj,aO,Sem.run,aU,aH,markStringish,shape,freeze,hc2]
    simp only[World.shape?,Array.getElem?_push_size,aO,Sem.run,aH,World.freeze]
    simp
    congr 1
    apply oB
    intro i
    rw[Ay,Hl,Hl]
    by_cases hi:i=w.heap.size
    ·subst hi;simp
    ·rw[if_neg (Ne.symm hi),if_neg hi,if_neg hi]
   have hf:vW 1 CS (CS.size,CS.size+1):=fun i hi h=>by simp only at h;omega
   have hrel:∀(i j:Nat) (e:List IV) (c:IV),(b.data.toList.map fun b=>[IV.int .u8 b.toNat])[i]? = some e->e[j]? = some c->∃v,CS[0+i*1+j]? = some v/\bS K w.heap h c v:=by
    intro i j e c h1 h2
    rw[Nm]at h1
    simp only[aZ]at h1
    obtain⟨y,hy,rfl⟩:=h1
    have hj:j=0:=by
     have:=(aJ.1 h2).1;simpa using this
    subst hj
    simp at h2;subst h2
    refine⟨.int .u8 y.toNat,?_,.int _ _⟩
    have hi:=(aJ.1 hy).1
    have hy':b.data[i]? = some y:=by simpa using hy
    subst hCS
    rw[jA (by simpa using hi)]
    simp[hy']
   have hE:Ah K w.heap h 1 (b.data.toList.map fun b=>[IV.int .u8 b.toNat]) CS 0:=by
    refine⟨fun e he=>?_,by simp;omega,hrel⟩
    simp only[bI]at he
    obtain⟨y,_,rfl⟩:=he
    exact⟨rfl,fun c hc=>by simp at hc;subst hc;rfl⟩
   have hl:(b.data.toList.map fun b=>[IV.int .u8 b.toNat]).length=b.size:=by simp
   split at ev
   ·injection ev with ev;injection ev with e1 e2;subst e1;subst e2
    obtain⟨K1,S,V⟩:=Di (el:=e) g (Nat.lt_succ_self 0) hf hE (aK b.size) hl hc3 (by omega)
    refine⟨_,_,K1,.inl hr,hcio,?_,?_⟩
    ·simpa using S
    ·have e1:b.data.toList.length=b.size:=by simp
     simp only[Uv,Ad,e1]
     exact V
   ·injection ev with ev;injection ev with e1 e2;subst e1;subst e2
    obtain⟨S,V⟩:=Wv (el:=e) (fr:=(CS.size,CS.size+1)) (cap':=cap) g hE (fun e he c hc=>by
     simp only[bI]at he
     obtain⟨y,_,rfl⟩:=he
     simp at hc;subst hc;rfl) (by rw[hl];exact hc3)
    rw[hl]at V
    exact⟨_,_,_,.inl hr,hcio,S,V⟩
 ·cases ev
theorem Ge {CS:Array Value} {fr:Nat×Nat} (hf:vW 1 CS fr):vW 1 CS (if fr.1==fr.2 then (CS.size,CS.size+1) else (min fr.1 CS.size,max fr.2 (CS.size+1))):=by
 intro i hi h
 have h1:=hf i hi
 split at h
 ·simp only at h;omega
 ·rename_i hne
  simp only[beq_iff_eq]at hne
  by_cases hl:fr.1<CS.size
  ·have h2:=hf fr.1 (.inl hl)
   omega
  ·simp only at h;omega
theorem Wk (g:dK K h w.heap σ ac.tmps) {t e:TypeId} {x:Operand} {sx:SX} (ho:o.op = .convert t t x) (hx:bG x sx) (hs:P.underlying t=some (.slice e)) (he:P.underlying e=some (.int .u8))
 (ev:aT call opn d (.cvLL sx) (σ,h)=some (sv,s1)):mL P o ac w K h σ sv s1:=by
 simp only[aT,aA]at ev
 obtain⟨a,ha,ev⟩:=ev
 have ra:=cD hx g.fr ha
 split at ev
 ·rename_i b tot off len cap
  simp only[aA]at ev
  obtain⟨k,hk,ev⟩:=ev
  split at ev
  ·rename_i hcap
   obtain⟨hcap,hs1⟩:=hcap
   injection ev with ev;injection ev with e1 e2;subst e1;subst e2
   have ra0:=ra
   generalize hy':ac.eval x=y' at ra
   cases ra with
   |sl _ _ _ _ _ ad cap' hb hlen hl=>
   obtain⟨_,q2,q3,_,l,hl1,hl2,_⟩:=hl k hk
   rcases hl2 with hl2|hl2
   ·omega
   subst hl2
   obtain⟨hget1,hlen1⟩:=fJ.1 hk
   obtain⟨hpos,l0,e0,hst,CS,el,fr,f1,f2,f3,f4⟩:=g.inv.blk b k hget1
   rw[hl1]at e0;injection e0 with e0;subst e0
   obtain⟨lo,hi⟩:=fr
   have S:=xR g hget1 hl1 (es:=k.es) rfl (CS1:=CS) f1 rfl (by rw[hs1]at f3 |-;exact Ge f3) (fun e he=>f4.1 e he) (fun i j e c h1 h2=>f4.2.2 i j e c h1 h2)
   have hset:h.set b (some ⟨k.sz,k.es⟩)=h:=by
    obtain⟨hb1,hb2⟩:=aJ.1 hget1
    have:(some ⟨k.sz,k.es⟩:Option mQ)=h[b]:=by rw[hb2]
    rw[this,lG]
   rw[hset]at S
   refine⟨.slice (some ⟨l.B,l.s+off*k.sz,none⟩) len cap',{ w with heap:=jJ w.heap l.B CS el (if lo==hi then (CS.size,CS.size+1) else (min lo CS.size,max hi (CS.size+1))) },K,.inl ?_,rfl,S,?_⟩
   ·simp only[execOp,ho,hy',convert,aO,run_underlying hs,aH,run_underlying he,beq_self_eq_true]
    simp only[markStringish,shape,freeze,aO,Sem.run,aH,World.shape?,f1,World.freeze,aU]
    simp only[Nat.one_ne_zero,if_false,aH,aU,jJ]
    congr 2
    apply oB
    intro i
    rw[Ay,bO]
    by_cases hi2:l.B=i
    ·subst hi2
     rw[if_pos rfl,if_pos rfl,if_pos (fI f1),f1]
     simp only[cK]
    ·simp[hi2]
   ·exact(ra0.ext S.1:_) |> fun h=>by rw[hy']at h;exact h
  ·cases ev
 ·cases ev
theorem Wm (g:dK K h w.heap σ ac.tmps) {src dst e:TypeId} {x:Operand} {sx:SX} (ho:o.op = .convert src dst x) (hx:bG x sx) (hs:P.underlying src=some (.slice e)) (hd:P.underlying dst=some .string) (he:P.underlying e=some (.int .u8)) (hz:Aw P e 1)
 (ev:aT call opn d (.cvBS sx) (σ,h)=some (sv,s1)):mL P o ac w K h σ sv s1:=by
 simp only[aT,aA]at ev
 obtain⟨a,ha,ev⟩:=ev
 have ra:=cD hx g.fr ha
 split at ev
 ·cases ev
 ·rename_i hns
  simp only[aA]at ev
  obtain⟨es,hes,b,hb,ev⟩:=ev
  injection ev with ev;injection ev with e1 e2;subst e1;subst e2
  obtain⟨f1,f2,f3⟩:=rT (P:=P) g ra hes
  obtain⟨vs,v1',v2⟩:=f3 es.length (aK _)
  have v1:=v1' w rfl
  rw[eX]at v2
  have hn:∀(es:List (List IV)) (b:List UInt8) (vs:List Value),dM (fun e=>match e with
   |[.int .u8 n]=>some (UInt8.ofNat n.toNat)
   |_=>none) es=some b->dE K w.heap h es.flatten vs->∃ns:List Int,vs=ns.map (Value.int .u8)/\b=ns.map (fun n=>UInt8.ofNat n.toNat):=by
   intro es
   induction es with
   |nil=>
    intro b vs hb hv
    simp only[dM,aD]at hb;subst hb
    exact⟨[],hv.nil_inv,rfl⟩
   |cons e es ih=>
    intro b vs hb hv
    simp only[dM,aA]at hb
    obtain⟨y,hy,ys,hys,hb⟩:=hb
    injection hb with hb;subst hb
    split at hy
    ·rename_i n
     injection hy with hy;subst hy
     simp only[cB,cN]at hv
     obtain⟨v,r,rfl,hv1,hv2⟩:=hv.cons_inv
     obtain⟨ns,rfl,rfl⟩:=ih _ _ hys hv2
     exact⟨n::ns,by rw[hv1.int_inv];rfl,rfl⟩
    ·cases hy
  obtain⟨ns,rfl,rfl⟩:=hn es b vs hb v2
  have hfold:∀(l:List Int) (r:ByteArray),(l.foldl (fun r n=>r.push (UInt8.ofNat n.toNat)) r).data.toList=r.data.toList++l.map (fun n=>UInt8.ofNat n.toNat):=by
   intro l
   induction l with
   |nil=>intro r;simp
   |cons n l ih=>intro r;rw[kZ,ih];simp[ByteArray.push]
  have hx:(∃c,ac.eval x = .slice none 0 c/\ns=[])\/∃a len cap,ac.eval x = .slice (some a) len cap:=by
   generalize ac.eval x=y at ra v1
   cases ra<;>first
    |exact .inr ⟨_,_,_,rfl⟩
    |(simp only[fF,aD]at hes;subst hes
      simp only[dM,aD]at hb
      exact .inl ⟨0,rfl,by simpa using hb.symm⟩)
    |exact absurd rfl (hns _)
    |(simp[fF]at hes;done)
  rcases hx with ⟨c,hx,rfl⟩|⟨a,len,cap,hx⟩
  ·refine .pure' g (x:=.string .empty) ?_ (.str' rfl)
   simp only[execOp,ho,hx,convert,aO,run_underlying hs,run_underlying hd,aH,run_underlying he,Conv.bytesToString,aU]
  ·refine .pure' g (x:=.string (ns.foldl (fun r n=>r.push (UInt8.ofNat n.toNat)) ByteArray.empty)) ?_ (.str' (by rw[hfold];rfl))
   have hlen:len=es.length:=by
    rw[hx]at f2
    simpa [Builtin.lenOf]using f2
   have:=run_bytesToString (P:=P) w a len cap ns (by rw[hx]at v1;simpa [Builtin.firstCells,hlen]using v1)
   simp only[execOp,ho,hx,convert,aO,run_underlying hs,run_underlying hd,aH,run_underlying he,this,aU]
theorem vP {t:TypeId} {n:Nat} (hh:(P.info? t).map (·.bytes)=some n):∃i,(typeInfo t).run P w = .ok i w/\i.bytes=n:=by
 cases hi:P.info? t with
 |none=>simp[hi]at hh
 |some i=>simp[hi]at hh;exact⟨i,by simp[typeInfo,hi],hh⟩
theorem Og {b:Nat}:∃w',(askRoom b).run P w = .ok () w'/\w'.heap=w.heap/\((w'.os,w'.tape),w'.output)=((w.os,w.tape),w.output):=by
 unfold askRoom
 split
 ·exact⟨w,rfl,rfl,rfl⟩
 ·exact⟨w,rfl,rfl,rfl⟩
theorem yE {K:Kx} {H:gC} {h:aN} {zs:List IV} {z:Array Value} {sz n:Nat} (hz:dE K H h zs z.toList) (hsz:zs.length=sz) (hpos:0<sz):dE K H h (List.replicate n zs).flatten ((Array.range (n*sz)).map (fun i=>z[i%z.size]!)).toList:=by
 have hz':z.size=sz:=by have:=hz.1;simp at this;omega
 have g1:=(gB (es:=List.replicate n zs) (sz:=sz) (by intro e he;rw[cA he];exact hsz))
 refine .mk' (by rw[g1.1];simp) fun i c hcc=>?_
 have hi:i<n*sz:=by
  have:=(aJ.1 hcc).1
  rw[g1.1]at this;simpa using this
 have hm:i%sz<sz:=Nat.mod_lt _ hpos
 have hd:i/sz<n:=by rw[Ax hpos];exact hi
 have e1:zs[i%sz]? = some (zs[i%sz]'(by omega)):=aG (by omega)
 have:=g1.2 (i/sz) (i%sz) zs _ (by rw[kD,if_pos hd]) e1
 rw[show i/sz*sz+i%sz=i by rw[Af];exact Al i sz]at this
 rw[this]at hcc
 injection hcc with hcc;subst hcc
 obtain⟨v,hv,hr⟩:=hz.get e1
 refine⟨v,?_,hr⟩
 have h2:z[i%sz]? = some v:=by simpa using hv
 obtain⟨h3,h4⟩:=dY.1 h2
 simp[hi,hz',getElem!_pos z (i%sz) h3,h4]
theorem y_mks (g:dK K h w.heap σ ac.tmps) {t:TypeId} {l c:Operand} {sl sc:SX} {e:TypeId} {sz:Nat} {z:Value} {zs:List IV} {bytes:Nat} (ho:o.op = .makeSlice t l c) (hl:bG l sl) (hc:bG c sc) (he:qG P t e sz) (hz:(P.info? e).bind (·.zero)=some z)
 (hzs:Lc zs z.cells.toList) (hone:∀c∈zs,c.one=true) (hb:(P.info? e).map (·.bytes)=some bytes) (ev:aT call opn d (.mks sz zs bytes sl sc) (σ,h)=some (sv,s1)):mL P o ac w K h σ sv s1:=by
 simp only[aT,aA]at ev
 obtain⟨vl,hvl,vc,hvc,ev⟩:=ev
 have rl:=cD hl g.fr hvl
 have rc:=cD hc g.fr hvc
 split at ev
 ·rename_i lv cv
  split at ev
  ·rename_i hh
   obtain⟨h0,h1,h2,h3,h4⟩:=hh
   injection ev with ev;injection ev with e1 e2;subst e1;subst e2
   obtain⟨i,hi,hib⟩:=vP (w:=w) hb
   obtain⟨w',hr1,hr2,hrio⟩:=Og (P:=P) (w:=w) (b:=cv.toNat*bytes)
   have hcv:cv=(cv.toNat:Int):=by omega
   have hm:(cv.toNat:Int)*((bytes:Int)+1)≤17592186044416:=by
    rw[<-hcv]
    have:=h2
    unfold bY at this
    simpa using this
   have hm1:cv.toNat*(bytes+1)≤17592186044416:=by
    have:((cv.toNat*(bytes+1):Nat):Int)≤17592186044416:=by rw[Ao];simpa using hm
    omega
   have hm2:cv.toNat≤17592186044416:=cQ (oD _ (by omega)) hm1
   have hm3:cv.toNat*bytes≤17592186044416:=cQ (sH _ (by omega)) hm1
   have hwl:IntKind.i64.wrap lv=lv:=by
    have:IntKind.wrap .i64 lv=lv:=by
     simp only[IntKind.wrap,IntKind.bits,IntKind.signed]
     simp
     omega
    exact this
   have hwc:IntKind.i64.wrap cv=cv:=by
    have:IntKind.wrap .i64 cv=cv:=by
     simp only[IntKind.wrap,IntKind.bits,IntKind.signed]
     simp
     omega
    exact this
   have hbc:(bytes:Int)*cv≤17592186044416:=by
    rw[hcv,Int.mul_comm]
    have:((cv.toNat*bytes:Nat):Int)≤17592186044416:=by omega
    rw[Ao]at this;exact this
   generalize hCS:((Array.range (cv.toNat*sz)).map (fun i=>z.cells[i%z.cells.size]!))=CS
   have hrel:dE K w.heap h (List.replicate cv.toNat zs).flatten CS.toList:=by
    subst hCS
    exact yE (hzs K w.heap h) h4 h3
   have hr:(execOp ac.eval o).run P w = .ok (.value (.slice (some ⟨w.heap.size,0,none⟩) lv.toNat cv.toNat)) { w' with heap:=w.heap.push (.cells CS e) }:=by
    have hcond:¬((decide (cv<0)||decide ((i.bytes:Int)*cv>2^48))=true\/lv<0\/lv>cv):=by
     rw[hib];simp;omega
    simp only[execOp,ho,Instr.makeSlice,rl.int_inv,rc.int_inv,aO,run_underlying he.und,aH,asInt,asIntOf,aU,hi,hwl,hwc]
    have hc1:(decide (cv<0)||decide ((i.bytes:Int)*cv>2^48))=false:=by rw[hib];simp;omega
    simp only[hc1]
    rw[if_neg (by simp;omega)]
    simp only[aO,hib,hr1,aH]
    simp only[fR he.siz,aH]
    by_cases hn:cv.toNat*sz=0
    ·have:CS = #[]:=by subst hCS;simp[hn]
     simp only[hn,if_true,aO,aU,aH]
     simp[newRow,newObj,Sem.run,hr2,this,Array.range_zero']
    ·simp only[hn,if_false,aO,mC hz,aU,aH,hCS]
     simp[newRow,newObj,Sem.run,hr2]
   have hall:∀e∈List.replicate cv.toNat zs,e.length=sz:=fun e he=>by rw[cA he];exact h4
   have hcs:CS.size=cv.toNat*sz:=by subst hCS;simp
   obtain⟨K1,S,V⟩:=Di (el:=e) (fr:=(0,0)) (len:=lv.toNat) (cap:=cv.toNat) (cap':=cv.toNat) g h3 (rB CS) (Et hall (by
    intro c hcc
    obtain⟨l,q1,q2⟩:=eY.1 hcc
    rw[cA q1]at q2
    exact hone c q2) hrel) (by omega) (by simp) (aK _) (by omega)
   exact⟨_,_,K1,.inl hr,hrio,S,V⟩
  ·cases ev
 ·cases ev
theorem y_cpy (g:dK K h w.heap σ ac.tmps) {c:Call} {x y:Operand} {sx sy:SX} {t t2 e:TypeId} {sz:Nat} (ho:o.op = .call c) (hc:c.callee = .builtin .copy) (ha:c.args = #[x,y]) (ht:c.argTypes = #[t,t2]) (hx:bG x sx) (hy:bG y sy) (he:qG P t e sz)
 (ev:aT call opn d (.cpy sz sx sy) (σ,h)=some (sv,s1)):mL P o ac w K h σ sv s1:=by
 simp only[aT,aA]at ev
 obtain⟨va,hva,vb,hvb,r,hr,ev⟩:=ev
 injection ev with ev;injection ev with e1 e2;subst e1;subst e2
 have ra:=cD hx g.fr hva
 have rb:=cD hy g.fr hvb
 simp only[Ideal.copy,aA]at hr
 obtain⟨src,hsrc,hr⟩:=hr
 obtain⟨f1,f2,f3⟩:=rT (P:=P) g rb hsrc
 have run:∀(base:Option Addr) (dLen dCap:Nat) (vs:List Value) (w1:World),ac.eval x = .slice base dLen dCap->(Builtin.firstCells sz (min src.length dLen) (ac.eval y)).run P w = .ok vs.toArray w->
  (∀a,base=some a->(storeCells a vs).run P w = .ok () w1)->(base=none->w1=w)->(execOp ac.eval o).run P w = .ok (.value (.int .i64 (min src.length dLen:Nat))) w1:=by
  intro base dLen dCap vs w1 e1 e2 e3 e4
  rw[kJ ho hc,ha,ht]
  have hmin:src.length.min dLen=min src.length dLen:=rfl
  cases base with
  |none=>rw[e4 rfl];simp[Go.builtin,Builtin.copy_,e1,run_underlying he.und,f2,fR he.siz,hmin,e2,goInt]
  |some a=>simp[Go.builtin,Builtin.copy_,e1,run_underlying he.und,f2,fR he.siz,hmin,e2,goInt,e3 a rfl]
 split at hr
 ·injection hr with hr;subst hr
  generalize hy':ac.eval x=y' at ra
  cases ra
  obtain⟨vs,v1',v2⟩:=f3 0 (fO _)
  have v1:=v1' w rfl
  have:=run none 0 0 vs w hy' (by simpa using v1) (fun a h=>by cases h) (fun _=>rfl)
  refine .pure' g (x:=.int .i64 (0:Nat)) ?_ (.int _ _)
  simpa using this
 ·injection hr with hr;subst hr
  generalize hy':ac.eval x=y' at ra
  cases ra with
  |esl a=>
  obtain⟨vs,v1',v2⟩:=f3 0 (fO _)
  have v1:=v1' w rfl
  have hvs:vs=[]:=v2.nil_inv
  subst hvs
  have:=run (some a) 0 0 [] w hy' (by simpa using v1) (fun a _=>rfl) (fun _=>rfl)
  refine .pure' g (x:=.int .i64 (0:Nat)) ?_ (.int _ _)
  simpa using this
 ·rename_i b tot off len cap
  simp only[aA]at hr
  obtain⟨k,hk,hr⟩:=hr
  split at hr
  ·rename_i hh
   obtain⟨hz,hle,hpos⟩:=hh
   injection hr with hr;subst hr
   generalize hy':ac.eval x=y' at ra
   cases ra with
   |sl _ _ _ _ _ a cap' hb hlen hl=>
    obtain⟨q1,q2,q3,q4,l,q5,q6,q7⟩:=hl k hk
    obtain⟨g1,g2⟩:=fJ.1 hk
    obtain⟨_,l0,g3,_,CS,el,fr,g4,g5,g6,g7,g8,g9⟩:=g.inv.blk b k g1
    rw[q5]at g3;injection g3 with g3;subst g3
    obtain⟨vs,v1',v2⟩:=f3 (min src.length len) (Nat.min_le_left _ _)
    have v1:=v1' w rfl
    generalize hm:min src.length len=m at *
    have hml:m≤len:=by omega
    have hms:m≤src.length:=by omega
    have htl:(src.take m).length=m:=by simp;omega
    have hall:∀e∈src.take m,e.length=sz:=fun e he=>(f1 e (bN he)).1
    obtain⟨fl1,fl2⟩:=gB hall
    have hvl:vs.length=m*sz:=by rw[v2.1,fl1,htl]
    have hsp:k.es.take off++src.take m++k.es.drop (off+m)=k.es.take off++src.take m++k.es.drop (off+(src.take m).length):=by rw[htl]
    by_cases h0:m=0
    ·have hvs:vs=[]:=dH (by rw[hvl,h0,Nj])
     subst hvs
     have:=run (some a) len cap' [] w hy' (by rw[hm];exact v1) (fun a _=>rfl) (fun h=>by cases h)
     rw[hm]at this
     have hes:k.es.take off++src.take m++k.es.drop (off+m)=k.es:=by simp[h0]
     rw[hes]
     have hset:h.set b (some ⟨k.sz,k.es⟩)=h:=by
      apply List.ext_getElem?
      intro i
      rw[eQ]
      split
      ·rename_i e;subst e;rw[g1];split
       ·rfl
       ·rename_i hn;exact absurd (aJ.1 g1).1 hn
      ·rfl
     rw[<-hz,hset]
     exact⟨_,w,K,.inl this,rfl,.refl g,.int _ _⟩
    ·have ha':a=⟨l.B,l.s+off*k.sz,none⟩:=by
      rcases q6 with q6|q6
      ·omega
      ·exact q6
     subst ha'
     have hmul:(off+m)*k.sz≤k.es.length*k.sz:=bB _ (by omega)
     have hb2:l.s+off*k.sz+vs.length≤CS.size:=by rw[hvl,<-hz];rw[cJ]at hmul;omega
     have hone':∀c∈(src.take m).flatten,c.one=true:=fun c hc=>by
      obtain⟨e,e1,e2⟩:=eY.1 hc
      exact(f1 e (bN e1)).2 c e2
     obtain⟨w1,r1,r2,rio⟩:=kO P l.B (l.s+off*k.sz) el fr vs 0 CS w g4 g6 (by simpa using hb2) (v2.one hone')
     have hrun:=run _ len cap' vs w1 hy' (by rw[hm];exact v1) (fun a e=>by injection e with e;subst e;exact r1) (fun h=>by cases h)
     rw[hm]at hrun
     refine⟨_,w1,K,.inl hrun,rio,?_,.int _ _⟩
     rw[r2,<-hz]
     have hspl:off+(src.take m).length≤k.es.length:=by rw[htl];omega
     refine pB g g1 q5 (by rw[hsp,fV hspl]) g4 (iP _ _ _) (fun e he=>?_) fun i j e c he hc=>?_
     ·simp only[aE]at he
      rcases he with (he|he)|he
      ·exact g7 e (bN he)
      ·rw[hz];exact f1 e (bN he)
      ·exact g7 e (cU he)
     ·rw[nW _ _ _ (by simpa using hb2)]
      rw[hsp,kN hspl,htl]at he
      have hjl:e.length=k.sz->j<k.sz:=fun hh=>by rw[<-hh];exact(aJ.1 hc).1
      by_cases hj:off≤i/\i<off+m
      ·rw[if_pos hj]at he
       have hj2:=hjl (by rw[hz];exact hall e (aL he))
       have:=fl2 (i-off) j e c he hc
       obtain⟨v,hv,hrr⟩:=v2.get this
       refine⟨v,?_,hrr⟩
       have hi1:(i-off)*k.sz+k.sz≤m*k.sz:=by rw[<-eF];exact bB _ (by omega)
       have hi2:(i-off)*k.sz+off*k.sz=i*k.sz:=by rw[<-cJ];congr 1;omega
       rw[if_pos (by rw[hvl,<-hz];omega)]
       rw[<-hv,<-hz];congr 1;omega
      ·rw[if_neg hj]at he
       have hj2:=hjl (g7 e (aL he)).1
       have hne:¬(l.s+off*k.sz+0≤l.s+i*k.sz+j/\l.s+i*k.sz+j<l.s+off*k.sz+0+vs.length):=by
        rw[hvl,<-hz]
        intro hh
        rcases iQ i off with h5|h5
        ·have:=bB k.sz (oW h5)
         rw[eF]at this;omega
        ·have h6:off+m≤i:=by omega
         have:=bB k.sz h6
         rw[cJ]at this;omega
       rw[if_neg hne]
       exact g9 i j e c he hc
  ·cases hr
 ·cases hr
theorem Qr {sz:Nat} (P:Program) (g:dK K h w.heap σ ac.tmps) {b tot off len:Nat} {k:mQ} (hk:hget h b tot=some k) (hz:k.sz=sz) (hle:off+len≤tot) {l:Uw} (q5:K.φ b=some l) {src:List (List IV)}
 (f1:∀e∈src,e.length=sz/\∀c∈e,c.one=true) {vs:List Value} (v2:dE K w.heap h src.flatten vs) (hml:src.length≤len):
 ∃w1,(storeCells ⟨l.B,l.s+off*k.sz,none⟩ vs).run P w = .ok () w1/\((w1.os,w1.tape),w1.output)=((w.os,w.tape),w.output)/\Step K h w.heap σ ac.tmps K (h.set b (some ⟨sz,k.es.take off++src++k.es.drop (off+src.length)⟩)) w1.heap σ:=by
 obtain⟨g1,g2⟩:=fJ.1 hk
 obtain⟨_,l0,g3,_,CS,el,fr,g4,g5,g6,g7,g8,g9⟩:=g.inv.blk b k g1
 rw[q5]at g3;injection g3 with g3;subst g3
 have hall:∀e∈src,e.length=sz:=fun e he=>(f1 e he).1
 obtain⟨fl1,fl2⟩:=gB hall
 have hvl:vs.length=src.length*sz:=by rw[v2.1,fl1]
 have hmul:(off+src.length)*k.sz≤k.es.length*k.sz:=bB _ (by omega)
 have hb2:l.s+off*k.sz+vs.length≤CS.size:=by rw[hvl,<-hz];rw[cJ]at hmul;omega
 have hone':∀c∈src.flatten,c.one=true:=fun c hc=>by
  obtain⟨e,e1,e2⟩:=eY.1 hc
  exact(f1 e e1).2 c e2
 obtain⟨w1,r1,r2,rio⟩:=kO P l.B (l.s+off*k.sz) el fr vs 0 CS w g4 g6 (by simpa using hb2) (v2.one hone')
 refine⟨w1,r1,rio,?_⟩
 rw[r2,<-hz]
 have hspl:off+src.length≤k.es.length:=by omega
 refine pB g g1 q5 (by rw[fV hspl]) g4 (iP _ _ _) (fun e he=>?_) fun i j e c he hc=>?_
 ·simp only[aE]at he
  rcases he with (he|he)|he
  ·exact g7 e (bN he)
  ·rw[hz];exact f1 e he
  ·exact g7 e (cU he)
 ·rw[nW _ _ _ (by simpa using hb2)]
  rw[kN hspl]at he
  have hjl:e.length=k.sz->j<k.sz:=fun hh=>by rw[<-hh];exact(aJ.1 hc).1
  by_cases hj:off≤i/\i<off+src.length
  ·rw[if_pos hj]at he
   have hj2:=hjl (by rw[hz];exact hall e (aL he))
   have:=fl2 (i-off) j e c he hc
   obtain⟨v,hv,hrr⟩:=v2.get this
   refine⟨v,?_,hrr⟩
   have hi1:(i-off)*k.sz+k.sz≤src.length*k.sz:=by rw[<-eF];exact bB _ (by omega)
   have hi2:(i-off)*k.sz+off*k.sz=i*k.sz:=by rw[<-cJ];congr 1;omega
   rw[if_pos (by rw[hvl,<-hz];omega)]
   rw[<-hv,<-hz];congr 1;omega
  ·rw[if_neg hj]at he
   have hj2:=hjl (g7 e (aL he)).1
   have hne:¬(l.s+off*k.sz+0≤l.s+i*k.sz+j/\l.s+i*k.sz+j<l.s+off*k.sz+0+vs.length):=by
    rw[hvl,<-hz]
    intro hh
    rcases iQ i off with h5|h5
    ·have:=bB k.sz (oW h5)
     rw[eF]at this;omega
    ·have h6:off+src.length≤i:=by omega
     have:=bB k.sz h6
     rw[cJ]at this;omega
   rw[if_neg hne]
   exact g9 i j e c he hc
theorem y_clr (g:dK K h w.heap σ ac.tmps) {c:Call} {x:Operand} {sx:SX} {t e:TypeId} {sz:Nat} {zs:List IV} {z:Value} (ho:o.op = .call c) (hc:c.callee = .builtin .clear) (ha:c.args = #[x]) (ht:c.argTypes = #[t]) (hx:bG x sx) (he:qG P t e sz)
 (hz:(P.info? e).bind (·.zero)=some z) (hzs:Lc zs z.cells.toList) (hone:∀c∈zs,c.one=true) (ev:aT call opn d (.clr sz zs sx) (σ,h)=some (sv,s1)):mL P o ac w K h σ sv s1:=by
 simp only[aT,aA]at ev
 obtain⟨va,hva,n,hn,ev⟩:=ev
 split at ev
 case isFalse=>cases ev
 rename_i hzl
 simp only[aA]at ev
 obtain⟨r,hr,ev⟩:=ev
 injection ev with ev;injection ev with e1 e2;subst e1;subst e2
 have ra:=cD hx g.fr hva
 have und:=run_underlying (w:=w) he.und
 simp only[Ideal.copy,aA]at hr
 obtain⟨src,hsrc,hr⟩:=hr
 have hs:src=List.replicate n zs:=by
  simp only[fF]at hsrc
  split at hsrc
  ·injection hsrc with hsrc;exact hsrc.symm
  ·cases hsrc
 subst hs
 have empty:∀(a:Option Addr) (cp:Nat),ac.eval x = .slice a 0 cp->(execOp ac.eval o).run P w = .ok (.value (.tuple #[])) w:=fun a cp h=>by
  rw[kJ ho hc,ha,ht]
  cases a<;>simp[Go.builtin,Builtin.clear_,h,run_underlying he.und]
 have tp:bS K w.heap h (.tup []) (.tuple #[]):=bS.tup_iff.2 ⟨[],rfl,.nil⟩
 split at hr
 ·injection hr with hr;subst hr
  generalize hy':ac.eval x=y' at ra
  cases ra
  exact .pure' g (empty _ _ hy') tp
 ·injection hr with hr;subst hr
  generalize hy':ac.eval x=y' at ra
  cases ra
  exact .pure' g (empty _ _ hy') tp
 ·rename_i b tot off len cap
  simp only[aA]at hr
  obtain⟨k,hk,hr⟩:=hr
  split at hr
  ·rename_i hh
   obtain⟨hz',hle,hpos⟩:=hh
   injection hr with hr;subst hr
   simp only[lenOf,aD]at hn
   subst hn
   generalize hy':ac.eval x=y' at ra
   cases ra with
   |sl _ _ _ _ _ a cap' hb hlen hl=>
    obtain⟨q1,q2,q3,q4,l,q5,q6,q7⟩:=hl k hk
    by_cases h0:len=0
    ·subst h0
     have hset:h.set b (some ⟨sz,k.es.take off++(List.replicate 0 zs).take (min (List.replicate 0 zs).length 0)++k.es.drop (off+min (List.replicate 0 zs).length 0)⟩)=h:=by
      simp only[Hi,iL,Nat.min_self,List.take_nil,bA,iR,gR,<-hz']
      obtain⟨hb1,hb2⟩:=aJ.1 (fJ.1 hk).1
      have:(some ⟨k.sz,k.es⟩:Option mQ)=h[b]:=by rw[hb2]
      rw[this,lG]
     simp only[hset]
     exact .pure' g (empty _ _ hy') tp
    ·have ha':a=⟨l.B,l.s+off*k.sz,none⟩:=by
      rcases q6 with q6|q6
      ·omega
      ·exact q6
     subst ha'
     have hrel:dE K w.heap h (List.replicate len zs).flatten ((Array.range (len*sz)).map (fun i=>z.cells[i%z.cells.size]!)).toList:=yE (hzs K w.heap h) hzl hpos
     have hzc:z.cells.size=sz:=by have:=(hzs K w.heap h).1;simp at this;omega
     obtain⟨w1,r1,rio,S⟩:=Qr P g hk hz' hle q5 (src:=List.replicate len zs) (fun e he=>by rw[cA he];exact⟨hzl,hone⟩) hrel (by simp)
     have hrun:(execOp ac.eval o).run P w = .ok (.value (.tuple #[])) w1:=by
      rw[kJ ho hc,ha,ht]
      have hz0:(zeroValue e).run P w = .ok z w:=mC hz
      rw[<-hzc]at r1
      obtain⟨len,rfl⟩:∃m,len=m+1:=⟨len-1,by omega⟩
      simp[Go.builtin,Builtin.clear_,hy',run_underlying he.und,hz0,Builtin.zeroCells]
      have r2:(storeCells ⟨l.B,l.s+off*k.sz,none⟩ (List.map (fun i=>z.cells[i%z.cells.size]!) (List.range ((len+1)*z.cells.size)))).run P w = .ok () w1:=by simpa using r1
      rw[r2];rfl
     refine⟨_,w1,K,.inl hrun,rio,?_,(by simp only[Uv,Ad];exact bS.tup_iff.2 ⟨[],rfl,.nil⟩)⟩
     have hm:min (List.replicate len zs).length len=(List.replicate len zs).length:=by simp
     simp only[hm,eX]
     exact S
  ·cases hr
 ·cases hr
end
end Go.Ideal
