/- Signs as bytes: plain facts. -/
import Derived.Test.YtiiibbnififbpaaJc
import Derived.Test.YtiiibbnififbpaaSb
set_option linter.unusedVariables false
set_option linter.unusedSimpArgs false
set_option maxRecDepth 100000
namespace Go.Ideal.Plain
def encB (r:Int):List UInt8:=(Utf8.encode r).data.toList
def codeOk (r:Int):Bool:=(decide (0≤r)&&decide (r<55296))||(decide (57344≤r)&&decide (r≤1114111))
end Go.Ideal.Plain
namespace Go.Ideal.Seat
open Go.Ideal.Plain
abbrev Cell:=Int×Int×Int×Int
end Go.Ideal.Seat
namespace Go.Ideal.Seat
open Go.Ideal.Plain
end Go.Ideal.Seat
namespace Go.Ideal.Plain
inductive Signs:List UInt8->Prop
 |nil:Signs []
 |cons {c:Int} {r:List UInt8} (hc:codeOk c=true) (h:Signs r):Signs (encB c++r)
end Go.Ideal.Plain
namespace Go.Ideal.Seat
open Go.Ideal.Plain
end Go.Ideal.Seat
namespace Go.Ideal.Seat
open Go.Ideal.Plain
def slice (l:List UInt8) (i n:Nat):List UInt8:=(l.drop i).take n
end Go.Ideal.Seat
namespace Go.Ideal.Plain
end Go.Ideal.Plain
namespace Go.Ideal.Seat
open Go.Ideal.Plain
end Go.Ideal.Seat
namespace Go.Ideal.Seat
open Go.Ideal.Plain
end Go.Ideal.Seat
namespace Go.Ideal.Plain
theorem w64 {x:Int} (h1:-9223372036854775808≤x) (h2:x≤9223372036854775807):IntKind.wrap .i64 x=x:=Go.IntWalk.i64_in _ ⟨h1,h2⟩
section
variable {S X A E:Type}
def upTo (g:Nat->A->A):Nat->A->A
 |0,a=>a
 |n+1,a=>g n (upTo g n a)
theorem countLoop (n:Nat) (mk:A->Int->S) (g:Nat->A->A) (inv:Nat->A->Prop) {fin:A->X} {F:S->Option (S⊕X)} {a:A} (h0:inv 0 a)
 (h1:∀a i,i<n->inv i a->F (mk a i)=some (.inl (mk (g i a) ((i+1:Nat):Int)))/\inv (i+1) (g i a))
 (h2:∀a,inv n a->F (mk a n)=some (.inr (fin a))):cL F (mk a 0)=some (fin (upTo g n a)):=by
 have key:∀m,m≤n->inv m (upTo g m a)/\cL F (mk a 0)=cL F (mk (upTo g m a) (m:Nat)):=by
  intro m
  induction m with
  |zero=>intro _;exact⟨h0,rfl⟩
  |succ m ih=>
   intro hm
   obtain⟨i1,i2⟩:=ih (by omega)
   obtain⟨j1,j2⟩:=h1 _ m (by omega) i1
   exact⟨j2,i2.trans (iN j1)⟩
 obtain⟨i1,i2⟩:=key n (aK _)
 rw[i2,fU (h2 _ i1)]
theorem allLoop {X:Type} {l:List E} (p:E->Bool) {F:Int->Option (Int⊕(Bool⊕X))} {z:X} (h1:∀(i:Nat) e,l[i]? = some e->F i=some (if p e=true then .inl ((i+1:Nat):Int) else .inr (.inl false)))
 (h2:F (l.length:Int)=some (.inr (.inr z))):cL F 0=some (if l.all p=true then .inr z else .inl false):=by
 rw[uC (l:=l) (mk:=fun(_:Unit) i=>i) (step:=fun _ _ e=>if p e=true then some (.inl ()) else some (.inr (.inl false))) (fin:=fun _=>some (.inr z)) (fun _ _=>True) ?_ (fun _ _ _ _ _ _ _=>trivial) ?_ trivial]
 ·have key:∀(r:List E) (i:Nat),sS (A:=Unit) (X:=Bool⊕X) (fun _ _ e=>if p e=true then some (.inl ()) else some (.inr (.inl false))) (fun _=>some (.inr z)) i () r=some (if r.all p=true then .inr z else .inl false):=by
   intro r
   induction r with
   |nil=>intro i;rfl
   |cons c r ih=>
    intro i
    simp only[sS]
    by_cases hc:p c=true
    ·have:(c::r).all p=r.all p:=by rw[gD,hc];rfl
     rw[if_pos hc,this]
     exact ih (i+1)
    ·have:(c::r).all p=false:=by rw[gD,(dT _).mp hc];rfl
     rw[if_neg hc,this];rfl
  exact key l 0
 ·intro _ i c hc _
  rw[h1 i c hc]
  by_cases hk:p c=true
  ·rw[if_pos hk,if_pos hk];rfl
  ·rw[if_neg hk,if_neg hk];rfl
 ·intro _ _;rw[h2];rfl
theorem sameLoop {X:Type} {l m:List E} (hl:l.length=m.length) (p:E->E->Bool) {F:Int->Option (Int⊕(Bool⊕X))} {z:X} (h1:∀(i:Nat) d e,l[i]? = some d->m[i]? = some e->F i=some (if p d e=true then .inl ((i+1:Nat):Int) else .inr (.inl false)))
 (h2:F (l.length:Int)=some (.inr (.inr z))):cL F 0=some (if (l.zip m).all (fun x=>p x.1 x.2)=true then .inr z else .inl false):=by
 refine allLoop (l:=l.zip m) (fun x=>p x.1 x.2) (fun i e he=>?_) ?_
 ·rw[Yu]at he
  exact h1 i e.1 e.2 he.1 he.2
 ·rw[List.length_zip,<-hl,Nat.min_self];exact h2
theorem zip_all_eq {l m:List E} (hl:l.length=m.length) {p:E×E->Bool} (hp:∀x,p x=true↔x.1=x.2):((l.zip m).all p=true)↔l=m:=by
 induction l generalizing m with
 |nil=>cases m<;>simp_all
 |cons a l ih=>
  cases m with
  |nil=>simp at hl
  |cons b m=>
   simp only[List.zip_cons_cons,gD,aF,hp,List.cons.injEq]
   rw[ih (by simpa using hl)]
end
end Go.Ideal.Plain
namespace Go.Ideal.Seat
open Go.Ideal.Plain
abbrev Grd:=Int×Int×List Cell
def sizeOk (r c:Int):Bool:=decide (1≤r/\r≤60/\1≤c/\c≤132)
end Go.Ideal.Seat
namespace Go.Ideal.Seat
open Go.Ideal.Plain
end Go.Ideal.Seat
namespace Go.Ideal.Seat
open Go.Ideal.Plain
def blankC:Cell:=(32,0,0,0)
def grid0 (r c:Int):Grd:=(r,c,List.replicate (r*c).toNat blankC)
def base (g:Grd) (r c:Int):Grd:=if g.1=r/\g.2.1=c then (r,c,g.2.2) else if sizeOk r c=true then grid0 r c else (0,0,[])
end Go.Ideal.Seat
namespace Go.Ideal.Seat
open Go.Ideal.Plain
end Go.Ideal.Seat
namespace Go.Ideal.Seat
open Go.Ideal.Plain
end Go.Ideal.Seat
namespace Go.Ideal.Seat
open Go.Ideal.Plain
end Go.Ideal.Seat
namespace Go.Ideal.Seat
open Go.Ideal.Plain
end Go.Ideal.Seat
namespace Go.Ideal.Seat
open Go.Ideal.Plain
end Go.Ideal.Seat
namespace Go.Ideal.Seat
open Go.Ideal.Plain
end Go.Ideal.Seat
namespace Go.Ideal.Seat
open Go.Ideal.Plain
end Go.Ideal.Seat
namespace Go.Ideal.Plain
def numPre (n:Nat):List Int:=if n<128 then [] else ((n%128+128:Nat):Int)::numPre (n/128)
termination_by n
decreasing_by omega
def numTop (n:Nat):Nat:=if n<128 then n else numTop (n/128)
termination_by n
decreasing_by omega
def numB (n:Nat):List Int:=numPre n++[(numTop n:Int)]
theorem numPre_small {n:Nat} (h:n<128):numPre n=[]:=by rw[numPre,if_pos h]
theorem numTop_small {n:Nat} (h:n<128):numTop n=n:=by rw[numTop,if_pos h]
theorem numPre_big {n:Nat} (h:128≤n):numPre n=((n%128+128:Nat):Int)::numPre (n/128):=by rw[numPre,if_neg (by omega)]
theorem numTop_big {n:Nat} (h:128≤n):numTop n=numTop (n/128):=by rw[numTop,if_neg (by omega)]
theorem numB_small {n:Nat} (h:n<128):numB n=[(n:Int)]:=by unfold numB;rw[numPre_small h,numTop_small h];rfl
theorem numB_big {n:Nat} (h:128≤n):numB n=((n%128+128:Nat):Int)::numB (n/128):=by unfold numB;rw[numPre_big h,numTop_big h];rfl
section
variable {S X Y:Type}
def rdN:Nat->Nat->Int->List Int->List Int×Int×Int
 |0,_,_,l=>(l,5,0)
 |_+1,_,_,[]=>([],4,0)
 |k+1,i,acc,x::r=>if x=0/\0<i then (r,6,0) else if x<128 then (r,0,acc+x*128^i) else rdN k (i+1) (acc+(x-128)*128^i) r
theorem rdLoop (mk:List Int->Int->Int->S) {F:S->Option (S⊕X)} {post:X->Option Y} (out:List Int->Int->Int->Y) (P:List Int->Prop) (hP:∀x r,P (x::r)->P r/\0≤x/\x<256)
 (h1:∀b acc (i:Nat),i<8->0≤acc->acc<128^i->P b->(b=[]->∃x,F (mk b acc i)=some (.inr x)/\post x=some (out [] 4 0))/\∀c r,b=c::r->0≤c->c<256->
   (c=0/\0<i->∃x,F (mk b acc i)=some (.inr x)/\post x=some (out r 6 0))/\(¬(c=0/\0<i)->c<128->∃x,F (mk b acc i)=some (.inr x)/\post x=some (out r 0 (acc+c*128^i)))/\
   (¬c<128->F (mk b acc i)=some (.inl (mk r (acc+(c-128)*128^i) ((i+1:Nat):Int)))))
 (h8:∀b acc,P b->0≤acc->acc<128^8->∃x,F (mk b acc 8)=some (.inr x)/\post x=some (out b 5 0)) {b:List Int} (hb:P b):
 (cL F (mk b 0 0)).bind post=some (out (rdN 8 0 0 b).1 (rdN 8 0 0 b).2.1 (rdN 8 0 0 b).2.2):=by
 have key:∀(k i:Nat) (acc:Int) (b:List Int),k+i=8->0≤acc->acc<128^i->P b->(cL F (mk b acc i)).bind post=some (out (rdN k i acc b).1 (rdN k i acc b).2.1 (rdN k i acc b).2.2):=by
  intro k
  induction k with
  |zero=>
   intro i acc b hk ha ha2 hb
   have:i=8:=by omega
   subst this
   obtain⟨x,e1,e2⟩:=h8 b acc hb ha ha2
   have e1':F (mk b acc ((8:Nat):Int))=some (.inr x):=e1
   rw[fU e1']
   exact e2
  |succ k ih=>
   intro i acc b hk ha ha2 hb
   obtain⟨q1,q2⟩:=h1 b acc i (by omega) ha ha2 hb
   cases b with
   |nil=>
    obtain⟨x,e1,e2⟩:=q1 rfl
    rw[fU e1]
    exact e2
   |cons c r=>
    obtain⟨hr,hc1,hc2⟩:=hP c r hb
    obtain⟨r1,r2,r3⟩:=q2 c r rfl hc1 hc2
    have hp:(0:Int)<128^i:=Int.pow_pos (by decide)
    by_cases h0:c=0/\0<i
    ·obtain⟨x,e1,e2⟩:=r1 h0
     rw[fU e1]
     simp only[rdN,if_pos h0]
     exact e2
    ·by_cases h2:c<128
     ·obtain⟨x,e1,e2⟩:=r2 h0 h2
      rw[fU e1]
      simp only[rdN,if_neg h0,if_pos h2]
      exact e2
     ·rw[iN (r3 h2)]
      simp only[rdN,if_neg h0,if_neg h2]
      have m1:0≤(c-128)*128^i:=Int.mul_nonneg (by omega) (by omega)
      have m2:(c-128)*128^i≤127*128^i:=Int.mul_le_mul_of_nonneg_right (by omega) (by omega)
      exact ih (i+1) _ r (by omega) (by omega) (by rw[Ag];omega) hr
 exact key 8 0 0 b rfl (by decide) (by decide) hb
end
theorem mul_split {acc a b n p:Int} (h:a+128*b=n):acc+a*p+b*(p*128)=acc+n*p:=by
 rw[<-h,Int.add_mul,show b*(p*128)=128*b*p by rw[Int.mul_comm p,<-Int.mul_assoc,Int.mul_comm b]]
 omega
theorem rdN_back:∀(k i:Nat) (acc:Int) (b r:List Int) (v:Int),(∀x∈b,0≤x/\x<256)->rdN k i acc b=(r,0,v)->∃n:Nat,v=acc+n*128^i/\b=numB n++r/\n<128^k/\(0<i->0<n)
 |0,i,acc,b,r,v,hb,h=>by simp[rdN]at h
 |k+1,i,acc,[],r,v,hb,h=>by simp[rdN]at h
 |k+1,i,acc,x::b,r,v,hb,h=>by
  have hx:=hb x (by simp)
  simp only[rdN]at h
  split at h
  ·simp at h
  ·split at h
   ·rename_i h0 h1
    simp only[aM,true_and]at h
    obtain⟨rfl,rfl⟩:=h
    refine⟨x.toNat,by rw[Int.toNat_of_nonneg hx.1],?_,?_,by omega⟩
    ·rw[numB_small (by omega),Int.toNat_of_nonneg hx.1];rfl
    ·have:0<128^k:=Nat.pow_pos (by decide)
     rw[Nat.pow_succ];omega
   ·rename_i h0 h1
    obtain⟨n,e1,e2,e3,e4⟩:=rdN_back k (i+1) _ b r v (fun y hy=>hb y (by simp[hy])) h
    have hn:=e4 (by omega)
    refine⟨(x-128).toNat+128*n,?_,?_,?_,fun _=>by omega⟩
    ·rw[e1,Ag]
     exact mul_split (by omega)
    ·have d1:((x-128).toNat+128*n)%128=(x-128).toNat:=by omega
     have d2:((x-128).toNat+128*n)/128=n:=by omega
     rw[numB_big (by omega),d1,d2,e2]
     simp;omega
    ·rw[Nat.pow_succ];omega
end Go.Ideal.Plain
namespace Go.Ideal.Seat
open Go.Ideal.Plain
theorem w8i {x:Int} (h:0≤x) (h2:x<256):IntKind.wrap .u8 x=x:=Go.IntWalk.u8_in _ ⟨h,by omega⟩
def bytesIn (l:List Int):Prop:=(∀x∈l,0≤x/\x<256)/\l.length≤2^36
theorem bytesIn_cons {x:Int} {r:List Int} (h:bytesIn (x::r)):bytesIn r/\0≤x/\x<256:=⟨⟨fun y hy=>h.1 y (by simp[hy]),by have:=h.2;simp at this;omega⟩,h.1 x (by simp)⟩
theorem take_eq (b:List Int) (n:Nat):O_codec_Reader_take ((b,0),(n:Int))=some (if n≤b.length then ((b.drop n,0),b.take n,true) else ((b,4),[],false)):=by
 unfold O_codec_Reader_take
 by_cases h:n≤b.length
 ·have h1:¬(n:Int)>(b.length:Int):=by omega
  have h2:0≤n/\n≤b.length:=by omega
  have h3:n≤b.length/\b.length≤b.length:=by omega
  have h4:(b.drop n).take (b.length-n)=b.drop n:=by rw[bU (by simp)]
  simp only[bne_self_eq_false,beq_self_eq_true,cond_true,h1,decide_false,aB,cond_false,aY,decide_true,aP,h2,h3,and_self,h,if_true,h4,eO,hJ]
 ·have h1:(n:Int)>(b.length:Int):=by omega
  simp only[bne_self_eq_false,beq_self_eq_true,cond_true,h1,decide_true,aB,if_neg h,O_codec_Reader_Fail]
theorem take_bad (b:List Int) (e n:Int) (he:e≠0):O_codec_Reader_take ((b,e),n)=some ((b,e),[],false):=by
 unfold O_codec_Reader_take O_codec_Reader_Fail
 have h1:(e != 0)=true:=by simpa using he
 have h2:(e==0)=false:=by simpa using he
 simp only[h1,h2,Bool.true_beq,cP,cond_false,aB,cond_true]
theorem or_add {acc y:Nat} (i:Nat) (h:acc<2^(7*i)):acc|||(y*2^(7*i))=acc+y*2^(7*i):=by
 have:=Nat.two_pow_add_eq_or_of_lt h y
 rw[Af,Nat.or_comm,<-this,Nat.add_comm]
theorem and127 (n:Nat):n&&&127=n%128:=Nat.and_two_pow_sub_one_eq_mod n 7
theorem low7 {c:Int} (h:0≤c) (h2:c<256):(BitVec.ofInt (IntKind.bits .u8) c&&&BitVec.ofInt (IntKind.bits .u8) 127).toNat=c.toNat%128:=by
 obtain⟨n,rfl⟩:=fX h
 have e:BitVec.ofInt (IntKind.bits .u8) (n:Int)=BitVec.ofNat 8 n:=by simp[IntKind.bits]
 rw[e]
 show (BitVec.ofNat 8 n&&&BitVec.ofNat 8 127).toNat=_
 rw[BitVec.toNat_and,gY,gY,iU (by omega:n<2^8),iU (by decide:127<2^8),and127]
 rfl
theorem or64 {a b:Nat} (ha:a<2^64) (hb:b<2^64):(BitVec.ofInt (IntKind.bits .i64) (a:Int)|||BitVec.ofInt (IntKind.bits .i64) (b:Int)).toNat=a|||b:=by
 have e:∀n:Nat,BitVec.ofInt (IntKind.bits .i64) (n:Int)=BitVec.ofNat 64 n:=fun n=>by simp[IntKind.bits]
 rw[e,e]
 show (BitVec.ofNat 64 a|||BitVec.ofNat 64 b).toNat=_
 rw[BitVec.toNat_or,gY,gY,iU ha,iU hb]
theorem more_eq {acc c:Int} {i:Nat} (hi:i<8) (h0:0≤acc) (h1:acc<128^i) (hc:0≤c) (hc2:c<256):
 IntKind.wrap .i64 (((BitVec.ofInt (IntKind.bits .i64) acc|||BitVec.ofInt (IntKind.bits .i64) (IntKind.wrap .i64 ((IntKind.wrap .i64 ((IntKind.wrap .u8 (((BitVec.ofInt (IntKind.bits .u8) c&&&BitVec.ofInt (IntKind.bits .u8) 127).toNat:Nat)))))*2^min (Int.toNat (IntKind.wrap .u64 ((IntKind.wrap .i64 (7*(i:Int)))))) (IntKind.bits .i64)))).toNat:Nat))=acc+(c.toNat%128:Nat)*128^i:=by
 have hs:IntKind.wrap .u64 (IntKind.wrap .i64 (7*(i:Int)))=((7*i:Nat):Int):=by
  rw[w64 (by omega) (by omega)]
  exact Go.IntWalk.u64_in _ (by omega)
 have hmin:min (7*i) (IntKind.bits .i64)=7*i:=by unfold IntKind.bits;simp only;omega
 obtain⟨a,rfl⟩:=fX h0
 have hpow:(128:Nat)^i=2^(7*i):=by rw[Nat.pow_mul]
 have hpi:((128:Int)^i)=((2^(7*i):Nat):Int):=by rw[<-hpow];simp
 have ha:a<2^(7*i):=by rw[hpi]at h1;omega
 have hp49:2^(7*i)≤2^49:=Nat.pow_le_pow_right (by decide) (by omega)
 have hy:c.toNat%128<128:=Nat.mod_lt _ (by decide)
 have hmul:(c.toNat%128)*2^(7*i)≤127*2^(7*i):=bB _ (by omega)
 rw[low7 hc hc2,hs,aP,hmin,w8i (x:=((c.toNat%128:Nat):Int)) (by omega) (by omega),w64 (x:=((c.toNat%128:Nat):Int)) (by omega) (by omega)]
 have e1:((c.toNat%128:Nat):Int)*2^(7*i)=(((c.toNat%128)*2^(7*i):Nat):Int):=by simp
 have hor:=or_add (y:=c.toNat%128) i ha
 rw[e1,hpi,<-Ao]
 generalize c.toNat%128*2^(7*i)=z at *
 generalize 2^(7*i)=q at *
 rw[w64 (x:=(z:Int)) (by omega) (by omega),or64 (by omega) (by omega),hor]
 exact w64 (by omega) (by omega)
def pNum (s:List Int×Int):(List Int×Int)×Int:=if s.2=0 then (((rdN 8 0 0 s.1).1,(rdN 8 0 0 s.1).2.1),(rdN 8 0 0 s.1).2.2) else (s,0)
theorem pow_lt8 {acc:Int} {i:Nat} (hi:i<8) (h:acc<128^i):acc<2^50:=by
 have:(128:Nat)^i≤2^49:=by
  rw[show (128:Nat)=2^7 from rfl,<-Nat.pow_mul]
  exact Nat.pow_le_pow_right (by decide) (by omega)
 have h2:((128:Int)^i)=((128^i:Nat):Int):=by simp
 omega
theorem rNum_eq (s:List Int×Int) (hb:bytesIn s.1):O_codec_Reader_Number s=some (pNum s):=by
 obtain⟨b,e⟩:=s
 unfold O_codec_Reader_Number pNum
 by_cases he:e=0
 ·subst he
  simp only[if_true]
  rw[rdLoop (fun b acc i=>(b,(0:Int),acc,i)) (fun r e v=>((r,e),v)) bytesIn (fun x r h=>bytesIn_cons h) (fun b acc i hi h0 h1 hb=>⟨fun hn=>?_,fun c r hcr hc hc2=>⟨fun h=>?_,fun h h'=>?_,fun h=>?_⟩⟩) (fun b acc hb h0 h1=>?_) hb]
  ·have hi':(i:Int)<8:=by omega
   subst hn
   have ht:=take_eq [] 1
   simp only[iL,if_neg (show ¬1≤0 by omega),Int.natCast_one]at ht
   simp only[hi',decide_true,cond_true,ht,aB,eP]
   exact⟨_,rfl,rfl⟩
  all_goals
   first
   |have hi':(i:Int)<8:=by omega
    subst hcr
    have ht:=take_eq (c::r) 1
    simp only[eE,if_pos (show 1≤r.length+1 by omega),Int.natCast_one,List.drop_succ_cons,eO,List.take_succ_cons,Yj]at ht
    have hg:([c]:List Int)[0]? = some c:=rfl
    have hs:¬IntKind.wrap .u64 (IntKind.wrap .i64 (7*(i:Int)))<0:=by
     rw[w64 (by omega) (by omega),Go.IntWalk.u64_in _ (by omega)];omega
    simp only[hi',decide_true,cond_true,ht,aB,cP,cond_false,hg,hs,decide_false,more_eq hi h0 h1 hc hc2]
   |skip
  ·have e1:(c==0)=true:=by simp[h.1]
   have e2:(i:Int)>0:=by omega
   simp only[e1,e2,beq_self_eq_true,cond_true,decide_true,aB,O_codec_Reader_Fail]
   exact⟨_,rfl,rfl⟩
  ·have e1:(bif (c==0)==true then some (decide ((i:Int)>0)) else some false)=some false:=by
    by_cases hc0:c=0
    ·have hi0:i=0:=by omega
     subst hi0
     simp[hc0]
    ·have:(c==0)=false:=by simpa using hc0
     simp[this]
   have e3:c.toNat%128=c.toNat:=by omega
   simp only[e1,aB,cond_false,h',decide_true,cond_true,e3,Int.toNat_of_nonneg hc]
   exact⟨_,rfl,rfl⟩
  ·have e1:(c==0)=false:=by simp;omega
   have e3:((c.toNat%128:Nat):Int)=c-128:=by omega
   simp only[e1,Bool.false_beq,cP,cond_false,aB,h,decide_false,e3,iE (show i<2^62 by omega)]
  ·have h8:¬((8:Int)<8):=by omega
   simp only[h8,decide_false,cond_false,O_codec_Reader_Fail]
   exact⟨_,rfl,rfl⟩
 ·rw[if_neg he]
  rw[fU (x:=Sum.inl (b,e,(0:Int))) ?_]
  ·rfl
  ·have h8:(0:Int)<8:=by decide
   simp only[h8,decide_true,cond_true,take_bad b e 1 he,aB,eP]
end Go.Ideal.Seat
namespace Go.Ideal.Seat
open Go.Ideal.Plain
abbrev Rd (α:Type):=List Int->Except Int (α×List Int)
def Rd.then {α β:Type} (m:Rd α) (f:α->Rd β):Rd β:=fun l=>match m l with
 |.ok p=>f p.1 p.2
 |.error e=>.error e
theorem Rd.then_ok {α β:Type} {m:Rd α} {f:α->Rd β} {l:List Int} {p:α×List Int} (h:m l = .ok p):m.then f l=f p.1 p.2:=by unfold Rd.then;rw[h]
theorem Rd.then_error {α β:Type} {m:Rd α} {f:α->Rd β} {l:List Int} {e:Int} (h:m l = .error e):m.then f l = .error e:=by unfold Rd.then;rw[h]
theorem Rd.then_eq_ok {α β:Type} {m:Rd α} {f:α->Rd β} {l:List Int} {q:β×List Int} (h:m.then f l = .ok q):∃p,m l = .ok p/\f p.1 p.2 = .ok q:=by
 unfold Rd.then at h
 split at h
 ·rename_i p hp;exact⟨p,hp,h⟩
 ·cases h
def rNum:Rd Int:=fun l=>if (rdN 8 0 0 l).2.1=0 then .ok ((rdN 8 0 0 l).2.2,(rdN 8 0 0 l).1) else .error (rdN 8 0 0 l).2.1
theorem rNum_back {l r:List Int} {v:Int} (hl:bytesIn l) (h:rNum l = .ok (v,r)):∃n:Nat,v=n/\n≤72057594037927935/\l=numB n++r:=by
 unfold rNum at h
 split at h
 ·rename_i h0
  injection h with h
  simp only[aM]at h
  obtain⟨n,e1,e2,e3,_⟩:=rdN_back 8 0 0 l r v hl.1 (Prod.ext h.2 (Prod.ext h0 h.1))
  exact⟨n,by simpa using e1,by omega,e2⟩
 ·cases h
theorem numB_pos (n:Nat):1≤(numB n).length:=by unfold numB;simp
theorem bytesIn_right {a b:List Int} (h:bytesIn (a++b)):bytesIn b:=⟨fun x hx=>h.1 x (by simp[hx]),by have:=h.2;simp at this;omega⟩
theorem bytesIn_drop {l:List Int} (h:bytesIn l) (k:Nat):bytesIn (l.drop k):=⟨fun x hx=>h.1 x (cU hx),by have:=h.2;rw[bW];omega⟩
def Short {α:Type} (m:Rd α):Prop:=∀l p,bytesIn l->m l = .ok p->∃a,l=a++p.2/\1≤a.length
theorem rNum_short:Short rNum:=fun l p hl h=>by
 obtain⟨n,_,_,e⟩:=rNum_back hl (v:=p.1) (r:=p.2) h
 exact⟨numB n,e,numB_pos n⟩
structure Runs {α:Type} (O:List Int×Int->Option ((List Int×Int)×α)) (m:Rd α):Prop where
 ok:∀b,bytesIn b->∀p,m b = .ok p->O (b,0)=some ((p.2,0),p.1)
 error:∀b,bytesIn b->∀e,m b = .error e->e≠0/\∃b' v,O (b,0)=some ((b',e),v)
 bad:∀b e,e≠0->∃v,O (b,e)=some ((b,e),v)
theorem pNum_ok {b r:List Int} {v:Int} (h:rNum b = .ok (v,r)):pNum (b,0)=((r,0),v):=by
 unfold rNum at h
 split at h
 ·rename_i h0
  injection h with h
  simp only[aM]at h
  unfold pNum
  simp only[if_true,h0,h.1,h.2]
 ·cases h
theorem pNum_error {b:List Int} {e:Int} (h:rNum b = .error e):e≠0/\∃b' v,pNum (b,0)=((b',e),v):=by
 unfold rNum at h
 split at h
 ·cases h
 ·rename_i h0
  injection h with h
  unfold pNum
  simp only[if_true,h]
  exact⟨by rw[<-h];exact h0,_,_,rfl⟩
theorem rNum_bad (b:List Int) {e:Int} (h:e≠0):O_codec_Reader_Number (b,e)=some ((b,e),0):=by
 unfold O_codec_Reader_Number
 rw[fU (x:=Sum.inl (b,e,(0:Int))) ?_]
 ·rfl
 ·have h8:(0:Int)<8:=by decide
  simp only[h8,decide_true,cond_true,take_bad b e 1 h,aB,eP]
theorem runs_num:Runs O_codec_Reader_Number rNum where
 ok b hb p h:=by rw[rNum_eq _ hb,pNum_ok (v:=p.1) (r:=p.2) h]
 error b hb e h:=by
  obtain⟨h1,b',v,h2⟩:=pNum_error h
  exact⟨h1,b',v,by rw[rNum_eq _ hb,h2]⟩
 bad b e h:=⟨0,rNum_bad b h⟩
theorem runs_map {α β:Type} {O:List Int×Int->Option ((List Int×Int)×α)} {m:Rd α} {O':List Int×Int->Option ((List Int×Int)×β)} {f:α->β} (h:Runs O m) (e:∀s,O' s=(O s).bind fun r=>some (r.1,f r.2)):
 Runs O' (m.then fun x l=>.ok (f x,l)) where
 ok b hb p h':=by
  obtain⟨q,e1,e2⟩:=Rd.then_eq_ok h'
  injection e2 with e2
  rw[e,h.ok b hb q e1,<-e2];rfl
 error b hb e' h':=by
  cases hm:m b with
  |ok q=>rw[Rd.then_ok hm]at h';cases h'
  |error e''=>
   rw[Rd.then_error hm]at h'
   injection h' with h';subst h'
   obtain⟨k1,b',v,k2⟩:=h.error b hb _ hm
   exact⟨k1,b',f v,by rw[e,k2];rfl⟩
 bad b e' he:=by
  obtain⟨v,k⟩:=h.bad b e' he
  exact⟨f v,by rw[e,k];rfl⟩
structure RefR (b:List Int) {α:Type} (F:Int->Option (α×Int×Int)) (m:Rd α):Prop where
 ok:∀k:Nat,k≤b.length->∀p,m (b.drop k) = .ok p->∃j:Nat,j≤b.length/\p.2=b.drop j/\F k=some (p.1,(j:Int),0)
 error:∀k:Nat,k≤b.length->∀e,m (b.drop k) = .error e->e≠0/\∃v j,F k=some (v,j,e)
theorem tmod_high {c:Int} (h:128≤c) (h2:c<256):Int.tmod c 128=c-128:=by
 rw[gG (by omega)];omega
theorem refReadNum_eq (b:List Int) (hb:bytesIn b) (k:Nat) (hk:k≤b.length):F_batonref06_ReadNumber (b,(k:Int))=some ((rdN 8 0 0 (b.drop k)).2.2,((b.length-(rdN 8 0 0 (b.drop k)).1.length:Nat):Int)-(if (rdN 8 0 0 (b.drop k)).2.1=6 then 1 else 0),(rdN 8 0 0 (b.drop k)).2.1):=by
 unfold F_batonref06_ReadNumber
 have hb2:=hb.2
 have e0:((k:Int),(0:Int),(1:Int),(0:Int))=(fun(l:List Int) (acc i:Int)=>(((b.length-l.length:Nat):Int),acc,(128:Int)^i.toNat,i)) (b.drop k) 0 0:=by
  simp only[bW,Int.toNat_zero,Int.pow_zero,aM,and_true]
  omega
 simp only[e0]
 rw[rdLoop (b:=b.drop k) (fun(l:List Int) (acc i:Int)=>(((b.length-l.length:Nat):Int),acc,(128:Int)^i.toNat,i)) (fun r e v=>(v,((b.length-r.length:Nat):Int)-(if e=6 then 1 else 0),e)) (fun l=>∃j,j≤b.length/\l=b.drop j) (fun x r h=>?_) (fun l acc i hi h0 h1 hl=>⟨fun hn=>?_,fun c r hcr hc hc2=>⟨fun h=>?_,fun h h'=>?_,fun h=>?_⟩⟩) (fun l acc hl h0 h1=>?_) ⟨k,hk,rfl⟩]
 ·obtain⟨j,hj,hl⟩:=h
  have hjl:j<b.length:=by
   have:=congrArg List.length hl;simp at this;omega
  rw[gO hjl,List.cons.injEq]at hl
  have hx:=hb.1 b[j] (bH hjl)
  rw[<-hl.1]at hx
  exact⟨⟨j+1,hjl,hl.2⟩,hx⟩
 ·subst hn
  have hi':(i:Int)<8:=by omega
  have hg:((b.length:Nat):Int)≥((b.length:Nat):Int):=by omega
  simp only[iL,hJ,hi',decide_true,cond_true,hg]
  exact⟨_,rfl,by simp⟩
 all_goals
  first
  |subst hcr
   obtain⟨j,hj,hl⟩:=hl
   have hjl:j<b.length:=by
    have:=congrArg List.length hl;simp at this;omega
   have hlen:=congrArg List.length hl
   rw[gO hjl,List.cons.injEq]at hl
   simp only[eE,bW]at hlen
   have hi':(i:Int)<8:=by omega
   have e1:b.length-(r.length+1)=j:=by omega
   have e2:b.length-r.length=j+1:=by omega
   have hge:¬(j:Int)≥(b.length:Int):=by omega
   have hgj:b[j]? = some c:=by rw[aG hjl,hl.1]
   have hwc:IntKind.wrap .i64 c=c:=w64 (by omega) (by omega)
   simp only[eE,e1,hi',decide_true,cond_true,hge,decide_false,cond_false,aY,aP,hgj,aB,hwc]
  |skip
 ·have c1:(c==0)=true:=by simp[h.1]
  have c2:(i:Int)>0:=by omega
  simp only[c1,c2,beq_self_eq_true,cond_true,decide_true,aB]
  refine⟨_,rfl,?_⟩
  simp only[e2,if_true,aD,aM,true_and,and_true]
  omega
 ·have c1:(bif (c==0)==true then some (decide ((i:Int)>0)) else some false)=some false:=by
   by_cases hc0:c=0
   ·have hi0:i=0:=by omega
    subst hi0
    simp[hc0]
   ·have:(c==0)=false:=by simpa using hc0
    simp[this]
  have hp:(128:Int)^i≤2^50:=by
   have:=pow_lt8 (acc:=128^i-1) hi (by omega)
   omega
  have hp0:(0:Int)<128^i:=Int.pow_pos (by decide)
  have m1:0≤c*128^i:=Int.mul_nonneg hc (by omega)
  have m2:c*128^i≤128*128^i:=Int.mul_le_mul_of_nonneg_right (by omega) (by omega)
  have hmod:Int.tmod c 128=c:=Int.tmod_eq_of_lt hc h'
  have hw1:IntKind.wrap .i64 (c*128^i)=c*128^i:=w64 (by omega) (by omega)
  have hw2:IntKind.wrap .i64 (acc+c*128^i)=acc+c*128^i:=w64 (by omega) (by omega)
  simp only[c1,aB,cond_false,h',decide_true,cond_true,hmod,hw1,hw2,iE (show j<2^62 by omega)]
  refine⟨_,rfl,?_⟩
  simp[e2]
 ·have c1:(c==0)=false:=by simp;omega
  have hp:(128:Int)^i≤2^50:=by
   have:=pow_lt8 (acc:=128^i-1) hi (by omega)
   omega
  have hp0:(0:Int)<128^i:=Int.pow_pos (by decide)
  have m1:0≤(c-128)*128^i:=Int.mul_nonneg (by omega) (by omega)
  have m2:(c-128)*128^i≤128*128^i:=Int.mul_le_mul_of_nonneg_right (by omega) (by omega)
  have hmod:Int.tmod c 128=c-128:=tmod_high (by omega) hc2
  have hw1:IntKind.wrap .i64 ((c-128)*128^i)=(c-128)*128^i:=w64 (by omega) (by omega)
  have hw2:IntKind.wrap .i64 (acc+(c-128)*128^i)=acc+(c-128)*128^i:=w64 (by omega) (by omega)
  have hw3:IntKind.wrap .i64 (128^i*128)=(128:Int)^(i+1):=by rw[w64 (by omega) (by omega),Ag]
  simp only[c1,Bool.false_beq,cP,cond_false,aB,h,decide_false,hmod,hw1,hw2,hw3,iE (show j<2^62 by omega),iE (show i<2^62 by omega),e2,aP]
 ·have h8:¬((8:Int)<8):=by omega
  simp only[h8,decide_false,cond_false]
  exact⟨_,rfl,by simp⟩
theorem ref_num (b:List Int) (hb:bytesIn b):RefR b (fun k=>F_batonref06_ReadNumber (b,k)) rNum where
 ok k hk p h:=by
  have h':=h
  unfold rNum at h
  split at h
  ·rename_i h0
   injection h with h
   rw[refReadNum_eq b hb k hk]
   obtain⟨n,e1,e2,e3⟩:=rNum_back (bytesIn_drop hb k) (v:=p.1) (r:=p.2) h'
   have hlen:=congrArg List.length e3
   simp only[aV,bW]at hlen
   refine⟨k+(numB n).length,by omega,?_,?_⟩
   ·rw[<-cM,e3,List.drop_left]
   ·rw[<-h,h0]
    simp only[aM,aD,and_true,true_and]
    have:(rdN 8 0 0 (b.drop k)).1=p.2:=by rw[<-h]
    rw[this]
    have:=numB_pos n
    simp
    omega
  ·cases h
 error k hk e h:=by
  unfold rNum at h
  split at h
  ·cases h
  ·rename_i h0
   injection h with h
   rw[refReadNum_eq b hb k hk,h]
   exact⟨by rw[<-h];exact h0,_,_,rfl⟩
end Go.Ideal.Seat
namespace Go.Ideal.Seat
open Go.Ideal.Plain
def rText (bY:Nat):Rd (List Int):=rNum.then fun n l=>if n>bY then .error 22 else if n>l.length then .error 4 else .ok (l.take n.toNat,l.drop n.toNat)
theorem fail_ok (b:List Int) (e:Int):O_codec_Reader_Fail ((b,0),e)=some (b,e):=by unfold O_codec_Reader_Fail;simp
theorem runs_text (most':Nat) (hm:most'≤2^40):Runs (fun s=>O_codec_Reader_Text (s,(most':Int))) (rText most') where
 ok b hb p h:=by
  unfold rText at h
  obtain⟨q,h1,h2⟩:=Rd.then_eq_ok h
  obtain⟨n,e1,e2,e3⟩:=rNum_back hb (v:=q.1) (r:=q.2) h1
  rw[e1]at h2
  split at h2
  ·cases h2
  ·split at h2
   ·cases h2
   ·rename_i c1 c2
    injection h2 with h2
    have hr:=runs_num.ok b hb q h1
    rw[e1]at hr
    unfold O_codec_Reader_Text
    have c1':¬(n:Int)>(most':Int):=c1
    have ht:=take_eq q.2 n
    rw[if_pos (by omega)]at ht
    have hl:q.2.length≤2^36:=by have:=congrArg List.length e3;have:=hb.2;simp at *;omega
    have hmm:(([]:List Int).length+(q.2.take n).length)*(1+1)≤bY:=by unfold bY;simp;omega
    simp only[hr,aB,beq_self_eq_true,cond_true,c1',decide_false,cond_false,ht,cP,hmm,decide_true,bZ]
    rw[<-h2];rfl
 error b hb e h:=by
  unfold rText at h
  cases h1:rNum b with
  |ok q=>
   rw[Rd.then_ok h1]at h
   obtain⟨n,e1,e2,e3⟩:=rNum_back hb (v:=q.1) (r:=q.2) h1
   rw[e1]at h
   have hr:=runs_num.ok b hb q h1
   rw[e1]at hr
   unfold O_codec_Reader_Text
   split at h
   ·rename_i c1
    injection h with h
    have c1':(n:Int)>(most':Int):=c1
    have hb':=take_bad q.2 22 (n:Int) (by decide)
    simp only[hr,aB,beq_self_eq_true,cond_true,c1',decide_true,fail_ok,hb',eP]
    exact⟨by rw[<-h];decide,_,_,by rw[h]⟩
   ·split at h
    ·rename_i c1 c2
     injection h with h
     have c1':¬(n:Int)>(most':Int):=c1
     have ht:=take_eq q.2 n
     rw[if_neg (by omega)]at ht
     simp only[hr,aB,beq_self_eq_true,cond_true,c1',decide_false,cond_false,ht,eP]
     exact⟨by rw[<-h];decide,_,_,by rw[h]⟩
    ·cases h
  |error e'=>
   rw[Rd.then_error h1]at h
   injection h with h;subst h
   obtain⟨k1,b',v,k2⟩:=runs_num.error b hb _ h1
   have e1:(e'==0)=false:=by simpa using k1
   unfold O_codec_Reader_Text
   simp only[k2,aB,e1,Bool.false_beq,cP,cond_false,take_bad b' e' v k1,eP,cond_true]
   exact⟨k1,_,_,rfl⟩
 bad b e he:=by
  have e1:(e==0)=false:=by simpa using he
  unfold O_codec_Reader_Text
  simp only[rNum_bad b he,aB,e1,Bool.false_beq,cP,cond_false,take_bad b e 0 he,eP,cond_true]
  exact⟨_,rfl⟩
theorem newReader_eq (b:List Int) (h:b.length≤2^36):O_codec_NewReader b=some (b,0):=by
 unfold O_codec_NewReader
 have hm:(([]:List Int).length+b.length)*(1+1)≤bY:=by unfold bY;simp;omega
 simp only[hm,decide_true,cond_true,bZ]
theorem done_eq (b:List Int) (e:Int):O_codec_Reader_Done (b,e)=some ((b,e),if e=0 then (if b=[] then 0 else 5) else e):=by
 unfold O_codec_Reader_Done
 by_cases he:e=0
 ·subst he
  cases b with
  |nil=>rfl
  |cons x r=>
   have:((((x::r).length:Nat):Int)>0):=by simp only[eE];omega
   simp[this]
 ·have:(e==0)=false:=by simpa using he
  simp[this,he]
theorem ref_text (b:List Int) (hb:bytesIn b) (most':Nat) (hm:most'≤2^40):RefR b (fun k=>F_batonref06_ReadText (b,k,(most':Int))) (rText most') where
 ok k hk p h:=by
  unfold rText at h
  obtain⟨q,h1,h2⟩:=Rd.then_eq_ok h
  obtain⟨n,e1,e2,e3⟩:=rNum_back (bytesIn_drop hb k) (v:=q.1) (r:=q.2) h1
  obtain⟨j,hj,f1,f2⟩:=(ref_num b hb).ok k hk q h1
  rw[e1]at h2 f2
  have hb2:=hb.2
  split at h2
  ·cases h2
  ·split at h2
   ·cases h2
   ·rename_i c1 c2
    injection h2 with h2
    have c1':¬(n:Int)>(most':Int):=c1
    have hlen:q.2.length=b.length-j:=by rw[f1];simp
    have hw:IntKind.wrap .i64 ((b.length:Int)-(j:Int))=((b.length-j:Nat):Int):=by rw[w64 (by omega) (by omega)];omega
    have c2':¬(n:Int)>((b.length-j:Nat):Int):=by omega
    have hw2:IntKind.wrap .i64 ((j:Int)+(n:Int))=((j+n:Nat):Int):=by rw[w64 (by omega) (by omega)];omega
    have c3:j≤j+n/\j+n≤b.length:=by omega
    have c4:j+n-j=n:=by omega
    refine⟨j+n,by omega,?_,?_⟩
    ·rw[<-h2,f1];simp[Nat.add_comm]
    ·unfold F_batonref06_ReadText
     simp only[f2,aB,bne_self_eq_false,cond_false,c1',decide_false,hw,c2',aY,decide_true,cond_true,hw2,aP,c3,and_self,c4]
     rw[<-h2,f1]
     rfl
 error k hk e h:=by
  unfold rText at h
  have hb2:=hb.2
  cases h1:rNum (b.drop k) with
  |ok q=>
   rw[Rd.then_ok h1]at h
   obtain⟨n,e1,e2,e3⟩:=rNum_back (bytesIn_drop hb k) (v:=q.1) (r:=q.2) h1
   obtain⟨j,hj,f1,f2⟩:=(ref_num b hb).ok k hk q h1
   rw[e1]at h f2
   unfold F_batonref06_ReadText
   split at h
   ·rename_i c1
    injection h with h
    have c1':(n:Int)>(most':Int):=c1
    simp only[f2,aB,bne_self_eq_false,cond_false,c1',decide_true,cond_true]
    exact⟨by rw[<-h];decide,_,_,by rw[h]⟩
   ·split at h
    ·rename_i c1 c2
     injection h with h
     have c1':¬(n:Int)>(most':Int):=c1
     have hlen:q.2.length=b.length-j:=by rw[f1];simp
     have hw:IntKind.wrap .i64 ((b.length:Int)-(j:Int))=((b.length-j:Nat):Int):=by rw[w64 (by omega) (by omega)];omega
     have c2':(n:Int)>((b.length-j:Nat):Int):=by omega
     simp only[f2,aB,bne_self_eq_false,cond_false,c1',decide_false,hw,c2',decide_true,cond_true]
     exact⟨by rw[<-h];decide,_,_,by rw[h]⟩
    ·cases h
  |error e'=>
   rw[Rd.then_error h1]at h
   injection h with h;subst h
   obtain⟨k1,v,j,k2⟩:=(ref_num b hb).error k hk _ h1
   have he:(e' != 0)=true:=by simpa using k1
   unfold F_batonref06_ReadText
   simp only[k2,aB,he,cond_true]
   exact⟨k1,_,_,rfl⟩
end Go.Ideal.Seat
namespace Go.Ideal.Seat
open Go.Ideal.Plain
theorem condSome {α:Type} (c:Bool) (x y:α):(bif c then some x else some y)=some (bif c then x else y):=by cases c<;>rfl
theorem anyLoop {X E:Type} {l:List E} (p:E->Bool) {F:Int->Option (Int⊕(Bool⊕X))} {z:X} (h1:∀(i:Nat) e,l[i]? = some e->F i=some (if p e=true then .inr (.inl true) else .inl ((i+1:Nat):Int)))
 (h2:F (l.length:Int)=some (.inr (.inr z))):cL F 0=some (if l.any p=true then .inl true else .inr z):=by
 have key:∀(k i:Nat),i+k=l.length->cL F (i:Int)=some (if (l.drop i).any p=true then .inl true else .inr z):=by
  intro k
  induction k with
  |zero=>
   intro i hi
   have:i=l.length:=by omega
   subst this
   rw[fU h2];simp
  |succ k ih=>
   intro i hi
   have hlt:i<l.length:=by omega
   have hh:=h1 i _ (aG hlt)
   have hd:l.drop i=l[i]::l.drop (i+1):=gO hlt
   rw[hd,List.any_cons]
   by_cases hp:p l[i]=true
   ·rw[if_pos hp]at hh
    rw[fU hh,hp];rfl
   ·rw[if_neg hp]at hh
    rw[iN hh,ih (i+1) (by omega),(dT _).mp hp,lA]
 have:=key l.length 0 (by omega)
 simpa using this
theorem bdI (a b:Int):(a==b)=decide (a=b):=rfl
theorem pk_control (k:Int):F_packet_Control k=some (decide (7≤k/\k≤9)):=by
 unfold F_packet_Control
 by_cases h1:k≥7<;>by_cases h2:k≤9<;>simp[h1,h2]<;>omega
theorem pk_has (l:List Int) (f:Int) (h:l.length<100):F_batonref19_has (l,f)=some (l.any (· ==f)):=by
 unfold F_batonref19_has
 simp only[]
 rw[anyLoop (l:=l) (· ==f) (z:=((l.length:Int),false)) (fun i e he=>?_) ?_]
 ·by_cases hl:l.any (· ==f)=true
  ·rw[if_pos hl];simp[hl]
  ·rw[if_neg hl];simp[(dT _).mp hl]
 ·simp
 ·have hi:=gU he
  have w:IntKind.wrap .i64 ((i:Int)+1)=((i+1:Nat):Int):=by rw[w64 (by omega) (by omega)];omega
  have d1:decide ((i:Int)<(l.length:Int))=true:=by simp;omega
  have d2:decide ((0:Int)≤(i:Int))=true:=by simp
  simp only[d1,d2,cond_true,aP,he,aB,w]
  by_cases hp:(e==f)=true
  ·simp[hp]
  ·simp[hp]
def fieldsOf (x:Int):List Int:=
 bif x==1 then [0,1,2,3,100,4] else bif x==2 then [0,1,2,4] else bif x==3 then [0,1,2,5,6,100,7] else bif x==4 then [0,1,2,7] else bif x==5 then [0,1,2,8,9,10,4] else bif x==6 then [0,1,2,11,12,13] else bif x==7 then [0,1,2,11,14,101,9,10] else bif x==8 then [0,1,2,11,9,10] else bif x==9 then [0,1,2,11,15,16,14,101] else []
theorem pk_fields (x:Int):F_batonref19_Fields x=some (fieldsOf x):=by
 unfold F_batonref19_Fields fieldsOf
 simp only[condSome]
theorem fieldsOf_len (x:Int):(fieldsOf x).length<100:=by
 unfold fieldsOf
 simp only[qI]
 repeat' split
 all_goals decide
def leastOf (k f:Int):Int:=if (f=1/\k<7)\/f=2\/f=6\/f=8\/f=9\/f=10\/f=11\/(f=14/\k=7) then 1 else if f=12 then -1 else 0
theorem pk_least (k f:Int):F_batonref19_least (k,f)=some (leastOf k f):=by
 unfold F_batonref19_least leastOf
 by_cases f1:f=1
 ·subst f1;rcases Int.lt_or_le k 7 with k7|k7
  ·have k9:¬7≤k:=Int.not_le.mpr k7
   have k8:¬k=7:=by omega
   simp[bdI,k7,k8,k9]
  ·have k9:¬k<7:=Int.not_lt.mpr k7
   by_cases k8:k=7
   ·subst k8;rfl
   ·simp[bdI,k7,k8,k9]
 by_cases f2:f=2
 ·subst f2;rcases Int.lt_or_le k 7 with k7|k7
  ·have k9:¬7≤k:=Int.not_le.mpr k7
   have k8:¬k=7:=by omega
   simp[bdI,k7,k8,k9]
  ·have k9:¬k<7:=Int.not_lt.mpr k7
   by_cases k8:k=7
   ·subst k8;rfl
   ·simp[bdI,k7,k8,k9]
 by_cases f6:f=6
 ·subst f6;rcases Int.lt_or_le k 7 with k7|k7
  ·have k9:¬7≤k:=Int.not_le.mpr k7
   have k8:¬k=7:=by omega
   simp[bdI,k7,k8,k9]
  ·have k9:¬k<7:=Int.not_lt.mpr k7
   by_cases k8:k=7
   ·subst k8;rfl
   ·simp[bdI,k7,k8,k9]
 by_cases f8:f=8
 ·subst f8;rcases Int.lt_or_le k 7 with k7|k7
  ·have k9:¬7≤k:=Int.not_le.mpr k7
   have k8:¬k=7:=by omega
   simp[bdI,k7,k8,k9]
  ·have k9:¬k<7:=Int.not_lt.mpr k7
   by_cases k8:k=7
   ·subst k8;rfl
   ·simp[bdI,k7,k8,k9]
 by_cases f9:f=9
 ·subst f9;rcases Int.lt_or_le k 7 with k7|k7
  ·have k9:¬7≤k:=Int.not_le.mpr k7
   have k8:¬k=7:=by omega
   simp[bdI,k7,k8,k9]
  ·have k9:¬k<7:=Int.not_lt.mpr k7
   by_cases k8:k=7
   ·subst k8;rfl
   ·simp[bdI,k7,k8,k9]
 by_cases f10:f=10
 ·subst f10;rcases Int.lt_or_le k 7 with k7|k7
  ·have k9:¬7≤k:=Int.not_le.mpr k7
   have k8:¬k=7:=by omega
   simp[bdI,k7,k8,k9]
  ·have k9:¬k<7:=Int.not_lt.mpr k7
   by_cases k8:k=7
   ·subst k8;rfl
   ·simp[bdI,k7,k8,k9]
 by_cases f11:f=11
 ·subst f11;rcases Int.lt_or_le k 7 with k7|k7
  ·have k9:¬7≤k:=Int.not_le.mpr k7
   have k8:¬k=7:=by omega
   simp[bdI,k7,k8,k9]
  ·have k9:¬k<7:=Int.not_lt.mpr k7
   by_cases k8:k=7
   ·subst k8;rfl
   ·simp[bdI,k7,k8,k9]
 by_cases f14:f=14
 ·subst f14;rcases Int.lt_or_le k 7 with k7|k7
  ·have k9:¬7≤k:=Int.not_le.mpr k7
   have k8:¬k=7:=by omega
   simp[bdI,k7,k8,k9]
  ·have k9:¬k<7:=Int.not_lt.mpr k7
   by_cases k8:k=7
   ·subst k8;rfl
   ·simp[bdI,k7,k8,k9]
 by_cases f12:f=12
 ·subst f12;rcases Int.lt_or_le k 7 with k7|k7
  ·have k9:¬7≤k:=Int.not_le.mpr k7
   have k8:¬k=7:=by omega
   simp[bdI,k7,k8,k9]
  ·have k9:¬k<7:=Int.not_lt.mpr k7
   by_cases k8:k=7
   ·subst k8;rfl
   ·simp[bdI,k7,k8,k9]
 simp[bdI,f1,f2,f6,f8,f9,f10,f11,f14,f12]
def mostOf (k f:Int):Int:=if f=0\/f=12 then 15 else if f=1/\k≥7 then 0 else if f=1\/f=16 then 1099511627776 else if f=9 then 60 else if f=10 then 132 else if f=15 then 63 else 281474976710656
theorem pk_most (k f:Int):F_batonref19_most (k,f)=some (mostOf k f):=by
 unfold F_batonref19_most mostOf
 by_cases f0:f=0
 ·subst f0;rcases Int.lt_or_le k 7 with k7|k7
  ·have k9:¬7≤k:=Int.not_le.mpr k7
   have k8:¬k=7:=by omega
   simp[bdI,k7,k8,k9]
  ·have k9:¬k<7:=Int.not_lt.mpr k7
   by_cases k8:k=7
   ·subst k8;rfl
   ·simp[bdI,k7,k8,k9]
 by_cases f1:f=1
 ·subst f1;rcases Int.lt_or_le k 7 with k7|k7
  ·have k9:¬7≤k:=Int.not_le.mpr k7
   have k8:¬k=7:=by omega
   simp[bdI,k7,k8,k9]
  ·have k9:¬k<7:=Int.not_lt.mpr k7
   by_cases k8:k=7
   ·subst k8;rfl
   ·simp[bdI,k7,k8,k9]
 by_cases f9:f=9
 ·subst f9;rcases Int.lt_or_le k 7 with k7|k7
  ·have k9:¬7≤k:=Int.not_le.mpr k7
   have k8:¬k=7:=by omega
   simp[bdI,k7,k8,k9]
  ·have k9:¬k<7:=Int.not_lt.mpr k7
   by_cases k8:k=7
   ·subst k8;rfl
   ·simp[bdI,k7,k8,k9]
 by_cases f10:f=10
 ·subst f10;rcases Int.lt_or_le k 7 with k7|k7
  ·have k9:¬7≤k:=Int.not_le.mpr k7
   have k8:¬k=7:=by omega
   simp[bdI,k7,k8,k9]
  ·have k9:¬k<7:=Int.not_lt.mpr k7
   by_cases k8:k=7
   ·subst k8;rfl
   ·simp[bdI,k7,k8,k9]
 by_cases f12:f=12
 ·subst f12;rcases Int.lt_or_le k 7 with k7|k7
  ·have k9:¬7≤k:=Int.not_le.mpr k7
   have k8:¬k=7:=by omega
   simp[bdI,k7,k8,k9]
  ·have k9:¬k<7:=Int.not_lt.mpr k7
   by_cases k8:k=7
   ·subst k8;rfl
   ·simp[bdI,k7,k8,k9]
 by_cases f15:f=15
 ·subst f15;rcases Int.lt_or_le k 7 with k7|k7
  ·have k9:¬7≤k:=Int.not_le.mpr k7
   have k8:¬k=7:=by omega
   simp[bdI,k7,k8,k9]
  ·have k9:¬k<7:=Int.not_lt.mpr k7
   by_cases k8:k=7
   ·subst k8;rfl
   ·simp[bdI,k7,k8,k9]
 by_cases f16:f=16
 ·subst f16;rcases Int.lt_or_le k 7 with k7|k7
  ·have k9:¬7≤k:=Int.not_le.mpr k7
   have k8:¬k=7:=by omega
   simp[bdI,k7,k8,k9]
  ·have k9:¬k<7:=Int.not_lt.mpr k7
   by_cases k8:k=7
   ·subst k8;rfl
   ·simp[bdI,k7,k8,k9]
 simp[bdI,f0,f1,f9,f10,f12,f15,f16]
def zeros32:List Int:=[0,0,0,0,0,0,0,0,0,0,0,0,0,0,0,0,0,0,0,0,0,0,0,0,0,0,0,0,0,0,0,0]
def xJ (k:Int) (nums:List Int) (f:Nat):Bool:=
 if (fieldsOf k).any (· ==(f:Int))=true then decide (leastOf k f≤nums.getD f 0)&&decide (nums.getD f 0≤mostOf k f) else nums.getD f 0==0
def rightOf (k:Int) (nums data id:List Int):Bool:=
 !(fieldsOf k).isEmpty&&((List.range 18).all (xJ k nums)&&(((fieldsOf k).any (· ==101)||id==zeros32)&&
   (if k=1 then decide (1≤data.length)&&decide (data.length≤16) else if k=3 then decide (data.length≤131072) else data.isEmpty)))
theorem tail (k:Int) (data:List Int):(bif k==1 then (bif ((decide (((data.length:Nat):Int)≥1))==true) then (some (decide (((data.length:Nat):Int)≤16))) else (some false)) else (bif k==3 then (some (decide (((data.length:Nat):Int)≤131072))) else (some (((data.length:Nat):Int)==0)))) =
 some (true&&(true&&(if k=1 then decide (1≤data.length)&&decide (data.length≤16) else if k=3 then decide (data.length≤131072) else data.isEmpty))):=by
 simp only[Bool.true_and]
 by_cases k1:k=1
 ·subst k1
  have e1:(decide (((data.length:Nat):Int)≥1))=decide (1≤data.length):=by rw[decide_eq_decide];omega
  have e2:(decide (((data.length:Nat):Int)≤16))=decide (data.length≤16):=by rw[decide_eq_decide];omega
  rw[e1,e2]
  cases decide (1≤data.length)<;>rfl
 ·by_cases k3:k=3
  ·subst k3
   have e2:(decide (((data.length:Nat):Int)≤131072))=decide (data.length≤131072):=by rw[decide_eq_decide];omega
   rw[e2];rfl
  ·have e1:(k==1)=false:=by simpa using k1
   have e2:(k==3)=false:=by simpa using k3
   rw[e1,e2,if_neg k1,if_neg k3]
   cases data with
   |nil=>rfl
   |cons c l=>simp;omega
theorem fieldStep {X:Type} (b:Bool) (n L M z:Int):((bif (!b)==true then (bif (n != 0)==false then (bif b==true then (bif decide (n<L)==false then some (decide (n>M)) else some true) else some false) else some true) else (bif b==true then (bif decide (n<L)==false then some (decide (n>M)) else some true) else some false)).bind
 fun v=>bif v then some (Sum.inr (Sum.inl false)) else some (Sum.inl z))=(some (if (if b=true then decide (L≤n)&&decide (n≤M) else n==0)=true then Sum.inl z else Sum.inr (Sum.inl false)):Option (Int⊕(Bool⊕X))):=by
 cases b
 ·by_cases a1:n=0
  ·subst a1;rfl
  ·have a2:(n==0)=false:=by simpa using a1
   have a3:(n != 0)=true:=by simpa using a1
   simp[a2,a3]
 ·rcases Int.lt_or_le n L with a1|a1
  ·have a2:¬L≤n:=Int.not_le.mpr a1
   simp[a1,a2]
  ·have a2:¬n<L:=Int.not_lt.mpr a1
   rcases Int.lt_or_le M n with a3|a3
   ·have a4:¬n≤M:=Int.not_le.mpr a3
    simp[a1,a2,a3,a4]
   ·have a4:¬M<n:=Int.not_lt.mpr a3
    simp[a1,a2,a3,a4]
theorem pk_refRight (k:Int) (nums data id:List Int) (hn:nums.length=18):F_batonref19_Right (k,nums,data,id)=some (rightOf k nums data id):=by
 unfold F_batonref19_Right rightOf
 simp only[pk_fields,aB]
 by_cases he:(fieldsOf k).isEmpty=true
 ·have:fieldsOf k=[]:=by simpa using he
  simp[this]
 have hne:(((fieldsOf k).length:Int)==0)=false:=by
  simp only[Rq]at he
  simp[he]
 rw[hne,(dT _).mp he]
 simp only[cond_false,eP,Bool.true_and]
 rw[allLoop (l:=List.range 18) (xJ k nums) (z:=(18,false)) (fun i e hi=>?_) ?_]
 ·simp only[aB]
  by_cases ha:(List.range 18).all (xJ k nums)=true
  ·rw[if_pos ha,ha]
   simp only[pk_has _ _ (fieldsOf_len k),aB,Bool.true_and]
   by_cases h1:(fieldsOf k).any (· ==101)=true
   ·rw[h1]
    exact tail k data
   ·rw[(dT _).mp h1]
    by_cases h2:id=zeros32
    ·have h3:(id==zeros32)=true:=by simpa using h2
     have h4:(id==[0,0,0,0,0,0,0,0,0,0,0,0,0,0,0,0,0,0,0,0,0,0,0,0,0,0,0,0,0,0,0,0])=true:=h3
     rw[h3,h4]
     exact tail k data
    ·have h3:(id==zeros32)=false:=by simpa using h2
     have h5:(id==[0,0,0,0,0,0,0,0,0,0,0,0,0,0,0,0,0,0,0,0,0,0,0,0,0,0,0,0,0,0,0,0])=false:=h3
     rw[h3,h5]
     rfl
  ·rw[if_neg ha,(dT _).mp ha];rfl
 ·simp
 ·have hi2:=gU hi
  simp only[List.length_range]at hi2
  have:e=i:=by simpa [List.getElem?_range hi2]using hi.symm
  subst this
  have w:IntKind.wrap .i64 ((e:Int)+1)=((e+1:Nat):Int):=by rw[w64 (by omega) (by omega)];omega
  have d1:decide ((e:Int)<18)=true:=by simp;omega
  have d2:decide ((0:Int)≤(e:Int))=true:=by simp
  have d3:decide ((e:Int).toNat<18)=true:=by simp;omega
  have d4:nums[e]? = some (nums.getD e 0):=by
   rw[aX,aG (by omega)];rfl
  have d5:decide (e<18)=true:=by simp;omega
  simp only[d1,d2,d3,d5,cond_true,aP,d4,aB,pk_has _ _ (fieldsOf_len k),pk_least,pk_most,w,xJ]
  exact fieldStep _ _ _ _ _
end Go.Ideal.Seat
namespace Go.Ideal.Seat
open Go.Ideal.Plain
theorem condAnd (c x:Bool):(bif c==true then some x else some false)=some (c&&x):=by cases c<;>rfl
theorem condNot (c x:Bool):(bif !c then some false else some x)=some (c&&x):=by cases c<;>rfl
def u8s (l:List Int):List UInt8:=l.map fun n=>UInt8.ofNat (Int.toNat n)
theorem pk_same (k k':Int) (dev ep no fi se ba to ta ch ro co rq fo un ti cd gr:Int) (da id:List Int) (dev' ep' no' fi' se' ba' to' ta' ch' ro' co' rq' fo' un' ti' cd' gr':Int) (da' id':List Int):F_packet_Same ((k,dev,ep,no,fi,da,se,ba,to,ta,ch,ro,co,rq,fo,un,ti,id,cd,gr),(k',dev',ep',no',fi',da',se',ba',to',ta',ch',ro',co',rq',fo',un',ti',id',cd',gr')) =
 some (decide (u8s da=u8s da'/\k=k'/\dev=dev'/\ep=ep'/\no=no'/\fi=fi'/\se=se'/\ba=ba'/\to=to'/\ta=ta'/\ch=ch'/\ro=ro'/\co=co'/\rq=rq'/\fo=fo'/\un=un'/\ti=ti'/\id=id'/\cd=cd'/\gr=gr')):=by
 unfold F_packet_Same F_packet_alike
 simp only[condAnd,aB,aD]
 rw[Bool.eq_iff_iff]
 simp only[aF,beq_iff_eq,decide_eq_true_eq,and_true,Hm,u8s]
 exact decide_eq_true_iff.symm
theorem u8s_nil (l:List Int):(u8s l=u8s [])↔l.length=0:=by
 cases l<;>simp[u8s]
theorem range18 (p:Nat->Bool):(List.range 18).all p=(p 0&&(p 1&&(p 2&&(p 3&&(p 4&&(p 5&&(p 6&&(p 7&&(p 8&&(p 9&&(p 10&&(p 11&&(p 12&&(p 13&&(p 14&&(p 15&&(p 16&&p 17))))))))))))))))):=by
 show (p 0&&(p 1&&(p 2&&(p 3&&(p 4&&(p 5&&(p 6&&(p 7&&(p 8&&(p 9&&(p 10&&(p 11&&(p 12&&(p 13&&(p 14&&(p 15&&(p 16&&(p 17&&true))))))))))))))))))=_
 rw[Hm]
theorem pk_right1 (dev ep no fi se ba to ta ch ro co rq fo un ti cd gr:Int) (da id:List Int):F_packet_Right (1,dev,ep,no,fi,da,se,ba,to,ta,ch,ro,co,rq,fo,un,ti,id,cd,gr)=some (rightOf 1 [dev,ep,no,fi,se,ba,to,ta,ch,ro,co,rq,fo,un,ti,cd,gr,0] da id):=by
 have e:(List.range 18).all (xJ 1 [dev,ep,no,fi,se,ba,to,ta,ch,ro,co,rq,fo,un,ti,cd,gr,0])=((decide ((0:Int)≤dev)&&decide (dev≤15))&&((decide ((1:Int)≤ep)&&decide (ep≤1099511627776))&&((decide ((1:Int)≤no)&&decide (no≤281474976710656))&&((decide ((0:Int)≤fi)&&decide (fi≤281474976710656))&&((decide ((0:Int)≤se)&&decide (se≤281474976710656))&&((ba==(0:Int))&&((to==(0:Int))&&((ta==(0:Int))&&((ch==(0:Int))&&((ro==(0:Int))&&((co==(0:Int))&&((rq==(0:Int))&&((fo==(0:Int))&&((un==(0:Int))&&((ti==(0:Int))&&((cd==(0:Int))&&((gr==(0:Int))&&(((0:Int)==0))))))))))))))))))):=by rw[range18];rfl
 unfold F_packet_Right rightOf
 rw[e]
 have e2:(!(fieldsOf 1).isEmpty)=true:=rfl
 have e3:(fieldsOf 1).any (· ==101)=false:=rfl
 have ek:F_packet_kept (1,(dev,ep,no,fi,da,se,ba,to,ta,ch,ro,co,rq,fo,un,ti,id,cd,gr))=some (1,dev,ep,no,fi,da,se,0,0,0,0,0,0,0,0,0,0,zeros32,0,0):=rfl
 have ec:F_packet_Control 1=some false:=rfl
 rw[e2,e3]
 simp only[Int.reduceBEq,beq_self_eq_true,cond_true,cond_false,decide_true,ec,ek,aB,pk_same,condAnd,condNot,aD]
 rw[Bool.eq_iff_iff]
 simp only[aF,cV,beq_iff_eq,decide_eq_true_eq,u8s_nil,List.isEmpty_iff_length_eq_zero,qI,Int.reduceLE,Int.reduceEq,and_self,and_false,false_and,if_true,if_false,decide_true,decide_false,aR,true_and,and_true,false_or,true_or,ge_iff_le]
 by_cases hz:id=zeros32
 ·have hz:(id=zeros32)=True:=eq_true hz
  simp only[hz,and_true,true_and]
  constructor
  ·intro h;omega
  ·intro h;omega
 ·have hz:(id=zeros32)=False:=eq_false hz
  simp only[hz,and_false,false_and]
theorem pk_right2 (dev ep no fi se ba to ta ch ro co rq fo un ti cd gr:Int) (da id:List Int):F_packet_Right (2,dev,ep,no,fi,da,se,ba,to,ta,ch,ro,co,rq,fo,un,ti,id,cd,gr)=some (rightOf 2 [dev,ep,no,fi,se,ba,to,ta,ch,ro,co,rq,fo,un,ti,cd,gr,0] da id):=by
 have e:(List.range 18).all (xJ 2 [dev,ep,no,fi,se,ba,to,ta,ch,ro,co,rq,fo,un,ti,cd,gr,0])=((decide ((0:Int)≤dev)&&decide (dev≤15))&&((decide ((1:Int)≤ep)&&decide (ep≤1099511627776))&&((decide ((1:Int)≤no)&&decide (no≤281474976710656))&&((fi==(0:Int))&&((decide ((0:Int)≤se)&&decide (se≤281474976710656))&&((ba==(0:Int))&&((to==(0:Int))&&((ta==(0:Int))&&((ch==(0:Int))&&((ro==(0:Int))&&((co==(0:Int))&&((rq==(0:Int))&&((fo==(0:Int))&&((un==(0:Int))&&((ti==(0:Int))&&((cd==(0:Int))&&((gr==(0:Int))&&(((0:Int)==0))))))))))))))))))):=by rw[range18];rfl
 unfold F_packet_Right rightOf
 rw[e]
 have e2:(!(fieldsOf 2).isEmpty)=true:=rfl
 have e3:(fieldsOf 2).any (· ==101)=false:=rfl
 have ek:F_packet_kept (2,(dev,ep,no,fi,da,se,ba,to,ta,ch,ro,co,rq,fo,un,ti,id,cd,gr))=some (2,dev,ep,no,0,[],se,0,0,0,0,0,0,0,0,0,0,zeros32,0,0):=rfl
 have ec:F_packet_Control 2=some false:=rfl
 rw[e2,e3]
 simp only[Int.reduceBEq,beq_self_eq_true,cond_true,cond_false,decide_true,ec,ek,aB,pk_same,condAnd,condNot,aD]
 rw[Bool.eq_iff_iff]
 simp only[aF,cV,beq_iff_eq,decide_eq_true_eq,u8s_nil,List.isEmpty_iff_length_eq_zero,qI,Int.reduceLE,Int.reduceEq,and_self,and_false,false_and,if_true,if_false,decide_true,decide_false,aR,true_and,and_true,false_or,true_or,ge_iff_le]
 by_cases hz:id=zeros32
 ·have hz:(id=zeros32)=True:=eq_true hz
  simp only[hz,and_true,true_and]
  constructor
  ·intro h;omega
  ·intro h;omega
 ·have hz:(id=zeros32)=False:=eq_false hz
  simp only[hz,and_false,false_and]
theorem pk_right3 (dev ep no fi se ba to ta ch ro co rq fo un ti cd gr:Int) (da id:List Int):F_packet_Right (3,dev,ep,no,fi,da,se,ba,to,ta,ch,ro,co,rq,fo,un,ti,id,cd,gr)=some (rightOf 3 [dev,ep,no,fi,se,ba,to,ta,ch,ro,co,rq,fo,un,ti,cd,gr,0] da id):=by
 have e:(List.range 18).all (xJ 3 [dev,ep,no,fi,se,ba,to,ta,ch,ro,co,rq,fo,un,ti,cd,gr,0])=((decide ((0:Int)≤dev)&&decide (dev≤15))&&((decide ((1:Int)≤ep)&&decide (ep≤1099511627776))&&((decide ((1:Int)≤no)&&decide (no≤281474976710656))&&((fi==(0:Int))&&((se==(0:Int))&&((decide ((0:Int)≤ba)&&decide (ba≤281474976710656))&&((decide ((1:Int)≤to)&&decide (to≤281474976710656))&&((decide ((0:Int)≤ta)&&decide (ta≤281474976710656))&&((ch==(0:Int))&&((ro==(0:Int))&&((co==(0:Int))&&((rq==(0:Int))&&((fo==(0:Int))&&((un==(0:Int))&&((ti==(0:Int))&&((cd==(0:Int))&&((gr==(0:Int))&&(((0:Int)==0))))))))))))))))))):=by rw[range18];rfl
 unfold F_packet_Right rightOf
 rw[e]
 have e2:(!(fieldsOf 3).isEmpty)=true:=rfl
 have e3:(fieldsOf 3).any (· ==101)=false:=rfl
 have ek:F_packet_kept (3,(dev,ep,no,fi,da,se,ba,to,ta,ch,ro,co,rq,fo,un,ti,id,cd,gr))=some (3,dev,ep,no,0,da,0,ba,to,ta,0,0,0,0,0,0,0,zeros32,0,0):=rfl
 have ec:F_packet_Control 3=some false:=rfl
 rw[e2,e3]
 simp only[Int.reduceBEq,beq_self_eq_true,cond_true,cond_false,decide_true,ec,ek,aB,pk_same,condAnd,condNot,aD]
 rw[Bool.eq_iff_iff]
 simp only[aF,cV,beq_iff_eq,decide_eq_true_eq,u8s_nil,List.isEmpty_iff_length_eq_zero,qI,Int.reduceLE,Int.reduceEq,and_self,and_false,false_and,if_true,if_false,decide_true,decide_false,aR,true_and,and_true,false_or,true_or,ge_iff_le]
 by_cases hz:id=zeros32
 ·have hz:(id=zeros32)=True:=eq_true hz
  simp only[hz,and_true,true_and]
  constructor
  ·intro h;omega
  ·intro h;omega
 ·have hz:(id=zeros32)=False:=eq_false hz
  simp only[hz,and_false,false_and]
theorem pk_right4 (dev ep no fi se ba to ta ch ro co rq fo un ti cd gr:Int) (da id:List Int):F_packet_Right (4,dev,ep,no,fi,da,se,ba,to,ta,ch,ro,co,rq,fo,un,ti,id,cd,gr)=some (rightOf 4 [dev,ep,no,fi,se,ba,to,ta,ch,ro,co,rq,fo,un,ti,cd,gr,0] da id):=by
 have e:(List.range 18).all (xJ 4 [dev,ep,no,fi,se,ba,to,ta,ch,ro,co,rq,fo,un,ti,cd,gr,0])=((decide ((0:Int)≤dev)&&decide (dev≤15))&&((decide ((1:Int)≤ep)&&decide (ep≤1099511627776))&&((decide ((1:Int)≤no)&&decide (no≤281474976710656))&&((fi==(0:Int))&&((se==(0:Int))&&((ba==(0:Int))&&((to==(0:Int))&&((decide ((0:Int)≤ta)&&decide (ta≤281474976710656))&&((ch==(0:Int))&&((ro==(0:Int))&&((co==(0:Int))&&((rq==(0:Int))&&((fo==(0:Int))&&((un==(0:Int))&&((ti==(0:Int))&&((cd==(0:Int))&&((gr==(0:Int))&&(((0:Int)==0))))))))))))))))))):=by rw[range18];rfl
 unfold F_packet_Right rightOf
 rw[e]
 have e2:(!(fieldsOf 4).isEmpty)=true:=rfl
 have e3:(fieldsOf 4).any (· ==101)=false:=rfl
 have ek:F_packet_kept (4,(dev,ep,no,fi,da,se,ba,to,ta,ch,ro,co,rq,fo,un,ti,id,cd,gr))=some (4,dev,ep,no,0,[],0,0,0,ta,0,0,0,0,0,0,0,zeros32,0,0):=rfl
 have ec:F_packet_Control 4=some false:=rfl
 rw[e2,e3]
 simp only[Int.reduceBEq,beq_self_eq_true,cond_true,cond_false,decide_true,ec,ek,aB,pk_same,condAnd,condNot,aD]
 rw[Bool.eq_iff_iff]
 simp only[aF,cV,beq_iff_eq,decide_eq_true_eq,u8s_nil,List.isEmpty_iff_length_eq_zero,qI,Int.reduceLE,Int.reduceEq,and_self,and_false,false_and,if_true,if_false,decide_true,decide_false,aR,true_and,and_true,false_or,true_or,ge_iff_le]
 by_cases hz:id=zeros32
 ·have hz:(id=zeros32)=True:=eq_true hz
  simp only[hz,and_true,true_and]
  constructor
  ·intro h;omega
  ·intro h;omega
 ·have hz:(id=zeros32)=False:=eq_false hz
  simp only[hz,and_false,false_and]
theorem pk_right5 (dev ep no fi se ba to ta ch ro co rq fo un ti cd gr:Int) (da id:List Int):F_packet_Right (5,dev,ep,no,fi,da,se,ba,to,ta,ch,ro,co,rq,fo,un,ti,id,cd,gr)=some (rightOf 5 [dev,ep,no,fi,se,ba,to,ta,ch,ro,co,rq,fo,un,ti,cd,gr,0] da id):=by
 have e:(List.range 18).all (xJ 5 [dev,ep,no,fi,se,ba,to,ta,ch,ro,co,rq,fo,un,ti,cd,gr,0])=((decide ((0:Int)≤dev)&&decide (dev≤15))&&((decide ((1:Int)≤ep)&&decide (ep≤1099511627776))&&((decide ((1:Int)≤no)&&decide (no≤281474976710656))&&((fi==(0:Int))&&((decide ((0:Int)≤se)&&decide (se≤281474976710656))&&((ba==(0:Int))&&((to==(0:Int))&&((ta==(0:Int))&&((decide ((1:Int)≤ch)&&decide (ch≤281474976710656))&&((decide ((1:Int)≤ro)&&decide (ro≤60))&&((decide ((1:Int)≤co)&&decide (co≤132))&&((rq==(0:Int))&&((fo==(0:Int))&&((un==(0:Int))&&((ti==(0:Int))&&((cd==(0:Int))&&((gr==(0:Int))&&(((0:Int)==0))))))))))))))))))):=by rw[range18];rfl
 unfold F_packet_Right rightOf
 rw[e]
 have e2:(!(fieldsOf 5).isEmpty)=true:=rfl
 have e3:(fieldsOf 5).any (· ==101)=false:=rfl
 have ek:F_packet_kept (5,(dev,ep,no,fi,da,se,ba,to,ta,ch,ro,co,rq,fo,un,ti,id,cd,gr))=some (5,dev,ep,no,0,[],se,0,0,0,ch,ro,co,0,0,0,0,zeros32,0,0):=rfl
 have ec:F_packet_Control 5=some false:=rfl
 rw[e2,e3]
 simp only[Int.reduceBEq,beq_self_eq_true,cond_true,cond_false,decide_true,ec,ek,aB,pk_same,condAnd,condNot,aD]
 rw[Bool.eq_iff_iff]
 simp only[aF,cV,beq_iff_eq,decide_eq_true_eq,u8s_nil,List.isEmpty_iff_length_eq_zero,qI,Int.reduceLE,Int.reduceEq,and_self,and_false,false_and,if_true,if_false,decide_true,decide_false,aR,true_and,and_true,false_or,true_or,ge_iff_le]
 by_cases hz:id=zeros32
 ·have hz:(id=zeros32)=True:=eq_true hz
  simp only[hz,and_true,true_and]
  constructor
  ·intro h;omega
  ·intro h;omega
 ·have hz:(id=zeros32)=False:=eq_false hz
  simp only[hz,and_false,false_and]
theorem pk_right6 (dev ep no fi se ba to ta ch ro co rq fo un ti cd gr:Int) (da id:List Int):F_packet_Right (6,dev,ep,no,fi,da,se,ba,to,ta,ch,ro,co,rq,fo,un,ti,id,cd,gr)=some (rightOf 6 [dev,ep,no,fi,se,ba,to,ta,ch,ro,co,rq,fo,un,ti,cd,gr,0] da id):=by
 have e:(List.range 18).all (xJ 6 [dev,ep,no,fi,se,ba,to,ta,ch,ro,co,rq,fo,un,ti,cd,gr,0])=((decide ((0:Int)≤dev)&&decide (dev≤15))&&((decide ((1:Int)≤ep)&&decide (ep≤1099511627776))&&((decide ((1:Int)≤no)&&decide (no≤281474976710656))&&((fi==(0:Int))&&((se==(0:Int))&&((ba==(0:Int))&&((to==(0:Int))&&((ta==(0:Int))&&((ch==(0:Int))&&((ro==(0:Int))&&((co==(0:Int))&&((decide ((1:Int)≤rq)&&decide (rq≤281474976710656))&&((decide ((-1:Int)≤fo)&&decide (fo≤15))&&((decide ((0:Int)≤un)&&decide (un≤281474976710656))&&((ti==(0:Int))&&((cd==(0:Int))&&((gr==(0:Int))&&(((0:Int)==0))))))))))))))))))):=by rw[range18];rfl
 unfold F_packet_Right rightOf
 rw[e]
 have e2:(!(fieldsOf 6).isEmpty)=true:=rfl
 have e3:(fieldsOf 6).any (· ==101)=false:=rfl
 have ek:F_packet_kept (6,(dev,ep,no,fi,da,se,ba,to,ta,ch,ro,co,rq,fo,un,ti,id,cd,gr))=some (6,dev,ep,no,0,[],0,0,0,0,0,0,0,rq,fo,un,0,zeros32,0,0):=rfl
 have ec:F_packet_Control 6=some false:=rfl
 rw[e2,e3]
 simp only[Int.reduceBEq,beq_self_eq_true,cond_true,cond_false,decide_true,ec,ek,aB,pk_same,condAnd,condNot,aD]
 rw[Bool.eq_iff_iff]
 simp only[aF,cV,beq_iff_eq,decide_eq_true_eq,u8s_nil,List.isEmpty_iff_length_eq_zero,qI,Int.reduceLE,Int.reduceEq,and_self,and_false,false_and,if_true,if_false,decide_true,decide_false,aR,true_and,and_true,false_or,true_or,ge_iff_le]
 by_cases hz:id=zeros32
 ·have hz:(id=zeros32)=True:=eq_true hz
  simp only[hz,and_true,true_and]
  constructor
  ·intro h;omega
  ·intro h;omega
 ·have hz:(id=zeros32)=False:=eq_false hz
  simp only[hz,and_false,false_and]
theorem pk_right7 (dev ep no fi se ba to ta ch ro co rq fo un ti cd gr:Int) (da id:List Int):F_packet_Right (7,dev,ep,no,fi,da,se,ba,to,ta,ch,ro,co,rq,fo,un,ti,id,cd,gr)=some (rightOf 7 [dev,ep,no,fi,se,ba,to,ta,ch,ro,co,rq,fo,un,ti,cd,gr,0] da id):=by
 have e:(List.range 18).all (xJ 7 [dev,ep,no,fi,se,ba,to,ta,ch,ro,co,rq,fo,un,ti,cd,gr,0])=((decide ((0:Int)≤dev)&&decide (dev≤15))&&((decide ((0:Int)≤ep)&&decide (ep≤0))&&((decide ((1:Int)≤no)&&decide (no≤281474976710656))&&((fi==(0:Int))&&((se==(0:Int))&&((ba==(0:Int))&&((to==(0:Int))&&((ta==(0:Int))&&((ch==(0:Int))&&((decide ((1:Int)≤ro)&&decide (ro≤60))&&((decide ((1:Int)≤co)&&decide (co≤132))&&((decide ((1:Int)≤rq)&&decide (rq≤281474976710656))&&((fo==(0:Int))&&((un==(0:Int))&&((decide ((1:Int)≤ti)&&decide (ti≤281474976710656))&&((cd==(0:Int))&&((gr==(0:Int))&&(((0:Int)==0))))))))))))))))))):=by rw[range18];rfl
 unfold F_packet_Right rightOf
 rw[e]
 have e2:(!(fieldsOf 7).isEmpty)=true:=rfl
 have e3:(fieldsOf 7).any (· ==101)=true:=rfl
 have ek:F_packet_kept (7,(dev,ep,no,fi,da,se,ba,to,ta,ch,ro,co,rq,fo,un,ti,id,cd,gr))=some (7,dev,ep,no,0,[],0,0,0,0,0,ro,co,rq,0,0,ti,id,0,0):=rfl
 have ec:F_packet_Control 7=some true:=rfl
 rw[e2,e3]
 simp only[Int.reduceBEq,beq_self_eq_true,cond_true,cond_false,decide_true,ec,ek,aB,pk_same,condAnd,condNot,aD]
 rw[Bool.eq_iff_iff]
 simp only[aF,cV,beq_iff_eq,decide_eq_true_eq,u8s_nil,List.isEmpty_iff_length_eq_zero,qI,Int.reduceLE,Int.reduceEq,and_self,and_false,false_and,if_true,if_false,decide_true,decide_false,aR,true_and,and_true,false_or,true_or,ge_iff_le]
 constructor
 ·intro h;omega
 ·intro h;omega
theorem pk_right8 (dev ep no fi se ba to ta ch ro co rq fo un ti cd gr:Int) (da id:List Int):F_packet_Right (8,dev,ep,no,fi,da,se,ba,to,ta,ch,ro,co,rq,fo,un,ti,id,cd,gr)=some (rightOf 8 [dev,ep,no,fi,se,ba,to,ta,ch,ro,co,rq,fo,un,ti,cd,gr,0] da id):=by
 have e:(List.range 18).all (xJ 8 [dev,ep,no,fi,se,ba,to,ta,ch,ro,co,rq,fo,un,ti,cd,gr,0])=((decide ((0:Int)≤dev)&&decide (dev≤15))&&((decide ((0:Int)≤ep)&&decide (ep≤0))&&((decide ((1:Int)≤no)&&decide (no≤281474976710656))&&((fi==(0:Int))&&((se==(0:Int))&&((ba==(0:Int))&&((to==(0:Int))&&((ta==(0:Int))&&((ch==(0:Int))&&((decide ((1:Int)≤ro)&&decide (ro≤60))&&((decide ((1:Int)≤co)&&decide (co≤132))&&((decide ((1:Int)≤rq)&&decide (rq≤281474976710656))&&((fo==(0:Int))&&((un==(0:Int))&&((ti==(0:Int))&&((cd==(0:Int))&&((gr==(0:Int))&&(((0:Int)==0))))))))))))))))))):=by rw[range18];rfl
 unfold F_packet_Right rightOf
 rw[e]
 have e2:(!(fieldsOf 8).isEmpty)=true:=rfl
 have e3:(fieldsOf 8).any (· ==101)=false:=rfl
 have ek:F_packet_kept (8,(dev,ep,no,fi,da,se,ba,to,ta,ch,ro,co,rq,fo,un,ti,id,cd,gr))=some (8,dev,ep,no,0,[],0,0,0,0,0,ro,co,rq,0,0,0,zeros32,0,0):=rfl
 have ec:F_packet_Control 8=some true:=rfl
 rw[e2,e3]
 simp only[Int.reduceBEq,beq_self_eq_true,cond_true,cond_false,decide_true,ec,ek,aB,pk_same,condAnd,condNot,aD]
 rw[Bool.eq_iff_iff]
 simp only[aF,cV,beq_iff_eq,decide_eq_true_eq,u8s_nil,List.isEmpty_iff_length_eq_zero,qI,Int.reduceLE,Int.reduceEq,and_self,and_false,false_and,if_true,if_false,decide_true,decide_false,aR,true_and,and_true,false_or,true_or,ge_iff_le]
 by_cases hz:id=zeros32
 ·have hz:(id=zeros32)=True:=eq_true hz
  simp only[hz,and_true,true_and]
  constructor
  ·intro h;omega
  ·intro h;omega
 ·have hz:(id=zeros32)=False:=eq_false hz
  simp only[hz,and_false,false_and]
theorem pk_right9 (dev ep no fi se ba to ta ch ro co rq fo un ti cd gr:Int) (da id:List Int):F_packet_Right (9,dev,ep,no,fi,da,se,ba,to,ta,ch,ro,co,rq,fo,un,ti,id,cd,gr)=some (rightOf 9 [dev,ep,no,fi,se,ba,to,ta,ch,ro,co,rq,fo,un,ti,cd,gr,0] da id):=by
 have e:(List.range 18).all (xJ 9 [dev,ep,no,fi,se,ba,to,ta,ch,ro,co,rq,fo,un,ti,cd,gr,0])=((decide ((0:Int)≤dev)&&decide (dev≤15))&&((decide ((0:Int)≤ep)&&decide (ep≤0))&&((decide ((1:Int)≤no)&&decide (no≤281474976710656))&&((fi==(0:Int))&&((se==(0:Int))&&((ba==(0:Int))&&((to==(0:Int))&&((ta==(0:Int))&&((ch==(0:Int))&&((ro==(0:Int))&&((co==(0:Int))&&((decide ((1:Int)≤rq)&&decide (rq≤281474976710656))&&((fo==(0:Int))&&((un==(0:Int))&&((decide ((0:Int)≤ti)&&decide (ti≤281474976710656))&&((decide ((0:Int)≤cd)&&decide (cd≤63))&&((decide ((0:Int)≤gr)&&decide (gr≤1099511627776))&&(((0:Int)==0))))))))))))))))))):=by rw[range18];rfl
 unfold F_packet_Right rightOf
 rw[e]
 have e2:(!(fieldsOf 9).isEmpty)=true:=rfl
 have e3:(fieldsOf 9).any (· ==101)=true:=rfl
 have ek:F_packet_kept (9,(dev,ep,no,fi,da,se,ba,to,ta,ch,ro,co,rq,fo,un,ti,id,cd,gr))=some (9,dev,ep,no,0,[],0,0,0,0,0,0,0,rq,0,0,ti,id,cd,gr):=rfl
 have ec:F_packet_Control 9=some true:=rfl
 rw[e2,e3]
 simp only[Int.reduceBEq,beq_self_eq_true,cond_true,cond_false,decide_true,ec,ek,aB,pk_same,condAnd,condNot,aD]
 rw[Bool.eq_iff_iff]
 simp only[aF,cV,beq_iff_eq,decide_eq_true_eq,u8s_nil,List.isEmpty_iff_length_eq_zero,qI,Int.reduceLE,Int.reduceEq,and_self,and_false,false_and,if_true,if_false,decide_true,decide_false,aR,true_and,and_true,false_or,true_or,ge_iff_le]
 constructor
 ·intro h;omega
 ·intro h;omega
end Go.Ideal.Seat
namespace Go.Ideal.Seat
open Go.Ideal.Plain
theorem pk_none (k:Int) (dev ep no fi se ba to ta ch ro co rq fo un ti cd gr:Int) (da id:List Int) (h:¬(1≤k/\k≤9)):F_packet_Right (k,dev,ep,no,fi,da,se,ba,to,ta,ch,ro,co,rq,fo,un,ti,id,cd,gr)=some false:=by
 unfold F_packet_Right
 have e1:(k==1)=false:=by simp;omega
 have e2:(k==2)=false:=by simp;omega
 have e3:(k==3)=false:=by simp;omega
 have e4:(k==4)=false:=by simp;omega
 have e5:(k==5)=false:=by simp;omega
 have e6:(k==6)=false:=by simp;omega
 have e7:(k==7)=false:=by simp;omega
 have e8:(k==8)=false:=by simp;omega
 have e9:(k==9)=false:=by simp;omega
 simp only[e1,e2,e3,e4,e5,e6,e7,e8,e9,cond_false]
theorem pk_right (k:Int) (dev ep no fi se ba to ta ch ro co rq fo un ti cd gr:Int) (da id:List Int):F_packet_Right (k,dev,ep,no,fi,da,se,ba,to,ta,ch,ro,co,rq,fo,un,ti,id,cd,gr)=some (rightOf k [dev,ep,no,fi,se,ba,to,ta,ch,ro,co,rq,fo,un,ti,cd,gr,0] da id):=by
 by_cases h:1≤k/\k≤9
 ·have:k=1\/k=2\/k=3\/k=4\/k=5\/k=6\/k=7\/k=8\/k=9:=by omega
  rcases this with rfl|rfl|rfl|rfl|rfl|rfl|rfl|rfl|rfl
  ·exact pk_right1 dev ep no fi se ba to ta ch ro co rq fo un ti cd gr da id
  ·exact pk_right2 dev ep no fi se ba to ta ch ro co rq fo un ti cd gr da id
  ·exact pk_right3 dev ep no fi se ba to ta ch ro co rq fo un ti cd gr da id
  ·exact pk_right4 dev ep no fi se ba to ta ch ro co rq fo un ti cd gr da id
  ·exact pk_right5 dev ep no fi se ba to ta ch ro co rq fo un ti cd gr da id
  ·exact pk_right6 dev ep no fi se ba to ta ch ro co rq fo un ti cd gr da id
  ·exact pk_right7 dev ep no fi se ba to ta ch ro co rq fo un ti cd gr da id
  ·exact pk_right8 dev ep no fi se ba to ta ch ro co rq fo un ti cd gr da id
  ·exact pk_right9 dev ep no fi se ba to ta ch ro co rq fo un ti cd gr da id
 ·rw[pk_none k dev ep no fi se ba to ta ch ro co rq fo un ti cd gr da id h]
  have e:fieldsOf k=[]:=by
   unfold fieldsOf
   have e1:(k==1)=false:=by simp;omega
   have e2:(k==2)=false:=by simp;omega
   have e3:(k==3)=false:=by simp;omega
   have e4:(k==4)=false:=by simp;omega
   have e5:(k==5)=false:=by simp;omega
   have e6:(k==6)=false:=by simp;omega
   have e7:(k==7)=false:=by simp;omega
   have e8:(k==8)=false:=by simp;omega
   have e9:(k==9)=false:=by simp;omega
   simp only[e1,e2,e3,e4,e5,e6,e7,e8,e9,cond_false]
  unfold rightOf
  rw[e];rfl
theorem pk_refSame (k k':Int) (nu nu' da da' id id':List Int) (hl:da.length<2^60):F_batonref19_Same ((k,nu,da,id),(k',nu',da',id'))=some (decide (k=k'/\nu=nu'/\id=id'/\da=da')):=by
 unfold F_batonref19_Same
 simp only[]
 by_cases h1:¬k=k'
 ·have:(k != k')=true:=by simpa using h1
  rw[this];simp[h1]
 have h1:=Classical.not_not.1 h1
 by_cases h2:¬nu=nu'
 ·have e1:(k != k')=false:=by simpa using h1
  have e2:(nu==nu')=false:=by simpa using h2
  rw[e1,e2];simp[h2]
 have h2:=Classical.not_not.1 h2
 by_cases h3:¬id=id'
 ·have e1:(k != k')=false:=by simpa using h1
  have e2:(nu==nu')=true:=by simpa using h2
  have e3:(id==id')=false:=by simpa using h3
  rw[e1,e2,e3];simp[h3]
 have h3:=Classical.not_not.1 h3
 by_cases h4:¬da.length=da'.length
 ·have e1:(k != k')=false:=by simpa using h1
  have e2:(nu==nu')=true:=by simpa using h2
  have e3:(id==id')=true:=by simpa using h3
  have e4:((da.length:Int) != (da'.length:Int))=true:=by simp;omega
  have h5:¬da=da':=fun h=>h4 (by rw[h])
  rw[e1,e2,e3,e4];simp[h5]
 have h4:=Classical.not_not.1 h4
 have e1:(k != k')=false:=by simpa using h1
 have e2:(nu==nu')=true:=by simpa using h2
 have e3:(id==id')=true:=by simpa using h3
 have e4:((da.length:Int) != (da'.length:Int))=false:=by simp;omega
 rw[e1,e2,e3,e4]
 simp only[beq_self_eq_true,cond_true,Hm,cP,aB,cond_false]
 rw[sameLoop (l:=da) (m:=da') h4 (fun a b=>a==b) (z:=()) (fun i d e hd he=>?_) ?_]
 ·by_cases h5:da=da'
  ·rw[if_pos ((zip_all_eq h4 (fun x=>by simp)).2 h5)]
   simp[h1,h2,h3,h5]
  ·rw[if_neg (fun h=>h5 ((zip_all_eq h4 (fun x=>by simp)).1 h))]
   simp[h1,h2,h3,h5]
 ·simp
 ·have hi:=gU hd
  have d1:decide ((i:Int)<(da.length:Int))=true:=by simp;omega
  have d2:decide ((0:Int)≤(i:Int))=true:=by simp
  have w:IntKind.wrap .i64 ((i:Int)+1)=((i+1:Nat):Int):=by rw[w64 (by omega) (by omega)];omega
  simp only[d1,d2,cond_true,aP,hd,he,aB,w]
  by_cases hp:d=e
  ·subst hp;simp
  ·have:(d != e)=true:=by simpa using hp
   rw[this];simp[hp]
end Go.Ideal.Seat
