/- Cells are read by both sides. -/
import Derived.Test.YthhcpaffhbmoaaaPlga
set_option linter.unusedVariables false
set_option linter.unusedSimpArgs false
namespace Go.Ideal.Seat
open Go.Ideal.Plain
end Go.Ideal.Seat
set_option linter.unusedVariables false
set_option linter.unusedSimpArgs false
namespace Go.Ideal.Seat
open Go.Ideal.Plain
end Go.Ideal.Seat
set_option linter.unusedVariables false
set_option linter.unusedSimpArgs false
namespace Go.Ideal.Seat
open Go.Ideal.Plain
end Go.Ideal.Seat
set_option linter.unusedVariables false
set_option linter.unusedSimpArgs false
namespace Go.Ideal.Seat
open Go.Ideal.Plain
end Go.Ideal.Seat
set_option linter.unusedVariables false
set_option linter.unusedSimpArgs false
namespace Go.Ideal.Seat
open Go.Ideal.Plain
end Go.Ideal.Seat
set_option linter.unusedVariables false
set_option linter.unusedSimpArgs false
namespace Go.Ideal.Seat
open Go.Ideal.Plain
end Go.Ideal.Seat
set_option linter.unusedVariables false
set_option linter.unusedSimpArgs false
namespace Go.Ideal.Seat
open Go.Ideal.Plain
def zeroI:Img:=(0,0,[],0,0,false,[],0)
theorem img_small {x:Img} (h:imageOk x=true):x.2.2.1.length≤7920∧x.2.2.2.2.2.2.1.length≤64:=by
 obtain⟨R,C,_,_,_,_,_,_,h1,h2,_⟩:=img_nat h
 unfold imageOk titleOk at h
 simp only[Bool.and_eq_true,decide_eq_true_eq]at h
 exact⟨by omega,h.1.2.1.1⟩
end Go.Ideal.Seat
set_option linter.unusedVariables false
set_option linter.unusedSimpArgs false
namespace Go.Ideal.Seat
open Go.Ideal.Plain
abbrev Mir:=Int×Int×Int×List Cell×Int×Int×Bool×List UInt8×Int×Bool×Int×Int×Int×List Cell×Int×Int×Bool×List UInt8×Int
def mkM (no:Int) (b:Img) (s:Bool) (t:Int) (i:Img):Mir:=(no,b.1,b.2.1,b.2.2.1,b.2.2.2.1,b.2.2.2.2.1,b.2.2.2.2.2.1,b.2.2.2.2.2.2.1,b.2.2.2.2.2.2.2,s,t,i)
theorem mkM_all (m:Mir):∃no b s t i,m=mkM no b s t i:=by
 obtain⟨no,b1,b2,b3,b4,b5,b6,b7,b8,s,t,i⟩:=m
 exact⟨no,(b1,b2,b3,b4,b5,b6,b7,b8),s,t,i,rfl⟩
theorem mkM_inj {no no':Int} {b b':Img} {s s':Bool} {t t':Int} {i i':Img}:mkM no b s t i=mkM no' b' s' t' i'↔no=no'∧b=b'∧s=s'∧t=t'∧i=i':=by
 obtain⟨b1,b2,b3,b4,b5,b6,b7,b8⟩:=b
 obtain⟨c1,c2,c3,c4,c5,c6,c7,c8⟩:=b'
 simp only[mkM,Prod.mk.injEq]
 constructor
 ·rintro⟨a,d1,d2,d3,d4,d5,d6,d7,d8,e,f,g⟩
  exact⟨a,⟨d1,d2,d3,d4,d5,d6,d7,d8⟩,e,f,g⟩
 ·rintro⟨a,⟨d1,d2,d3,d4,d5,d6,d7,d8⟩,e,f,g⟩
  exact⟨a,d1,d2,d3,d4,d5,d6,d7,d8,e,f,g⟩
open Classical in
theorem imgSame_eq (x y:Img) (h:x.2.2.1.length≤2^60):F_batonref16_Same (x,y)=some (decide (x=y)):=by
 unfold F_batonref16_Same F_batonref10_Same
 have bq:∀{α:Type} [BEq α] [LawfulBEq α] (a b:α),(a==b)=decide (a=b):=fun a b=>by rw[Bool.eq_iff_iff];simp
 have hc:=cells_same x.2.2.1 y.2.2.1 h
 obtain⟨x1,x2,x3,x4,x5,x6,x7,x8⟩:=x
 obtain⟨y1,y2,y3,y4,y5,y6,y7,y8⟩:=y
 simp only at hc
 simp only[hc,Option.bind_some,bq,Prod.mk.injEq]
 by_cases a:x1=y1<;>by_cases b:x2=y2<;>by_cases c:x3=y3<;>by_cases d:x4=y4<;>by_cases e:x5=y5<;>by_cases f:x6=y6<;>by_cases g:x7=y7<;>by_cases k:x8=y8<;>simp[a,b,c,d,e,f,g,k]
theorem paintSame_ref (x y:Img):F_paint_Same (x,y)=F_batonref16_Same (x,y):=rfl
open Classical in
noncomputable def mirOk (no:Int) (b:Img) (s:Bool) (t:Int) (i:Img):Bool:=decide (0≤no∧no≤281474976710656)&&imageOk b&&(if s=true then decide (no<281474976710656∧t=no+1)&&imageOk i else decide (t=0∧i=zeroI))
def smallI (x:Img):Prop:=x.2.2.1.length≤2^36∧x.2.2.2.2.2.2.1.length≤2^36
theorem img_smallI {x:Img} (h:imageOk x=true):smallI x:=by
 have:=img_small h
 exact⟨by omega,by omega⟩
theorem mirRight_eq (no:Int) (b:Img) (s:Bool) (t:Int) (i:Img) (hb:smallI b) (hi:smallI i):F_mirror_Right (mkM no b s t i)=some (mirOk no b s t i):=by
 unfold F_mirror_Right mirOk mkM
 obtain⟨h1,h2⟩:=hb
 obtain⟨h3,h4⟩:=hi
 have hpb:=paintRight_eq b (by omega) (by omega)
 have hpi:=paintRight_eq i (by omega) (by omega)
 have hs:=(paintSame_ref i zeroI).trans (imgSame_eq i zeroI (by omega))
 unfold zeroI at hs ⊢
 obtain⟨b1,b2,b3,b4,b5,b6,b7,b8⟩:=b
 simp only[hpb,hpi,hs,Option.bind_some]
 by_cases a1:no<0
 ·have:¬(0≤no∧no≤281474976710656):=by omega
  simp[a1,this]
 ·by_cases a2:no>281474976710656
  ·have:¬(0≤no∧no≤281474976710656):=by omega
   simp[a1,a2,this]
  ·have a3:0≤no∧no≤281474976710656:=by omega
   have hw:IntKind.wrap .i64 (no+1)=no+1:=w64 (by omega) (by omega)
   simp only[a1,a2,a3,hw,decide_false,decide_true,and_self,beq_self_eq_true,cond_true,Option.bind_some,Bool.true_and]
   cases imageOk (b1,b2,b3,b4,b5,b6,b7,b8) with
   |false=>rfl
   |true=>
    cases s with
    |false=>
     by_cases c:t=0
     ·simp[c]
     ·have:(t==0)=false:=by simpa using c
      simp[c,this]
    |true=>
     by_cases c:no<281474976710656
     ·by_cases d:t=no+1
      ·simp[c,d]
      ·have:(t==no+1)=false:=by simpa using d
       simp[c,d,this]
     ·simp[c]
theorem refMirRight_eq (no:Int) (b:Img) (s:Bool) (t:Int) (i:Img) (hb:smallI b) (hi:smallI i) (hr:runesIn b.2.2.1) (hri:runesIn i.2.2.1):F_batonref34_Right (mkM no b s t i)=some (mirOk no b s t i):=by
 unfold F_batonref34_Right mirOk mkM
 obtain⟨h1,h2⟩:=hb
 obtain⟨h3,h4⟩:=hi
 have hpb:=refImage_eq b (by omega) (by omega) hr
 have hpi:=refImage_eq i (by omega) (by omega) hri
 have hs:=imgSame_eq i zeroI (by omega)
 unfold zeroI at hs ⊢
 obtain⟨b1,b2,b3,b4,b5,b6,b7,b8⟩:=b
 simp only[hpb,hpi,hs,Option.bind_some]
 by_cases a1:no<0
 ·have:¬(0≤no∧no≤281474976710656):=by omega
  simp[a1,this]
 ·by_cases a2:no>281474976710656
  ·have:¬(0≤no∧no≤281474976710656):=by omega
   simp[a1,a2,this]
  ·have a3:0≤no∧no≤281474976710656:=by omega
   have hw:IntKind.wrap .i64 (no+1)=no+1:=w64 (by omega) (by omega)
   simp only[a1,a2,a3,hw,decide_false,decide_true,and_self,beq_self_eq_true,cond_true,Option.bind_some,Bool.true_and]
   cases imageOk (b1,b2,b3,b4,b5,b6,b7,b8) with
   |false=>rfl
   |true=>
    cases s with
    |false=>
     by_cases c:t=0
     ·simp[c]
     ·have:(t==0)=false:=by simpa using c
      simp[c,this]
    |true=>
     by_cases c:no<281474976710656
     ·by_cases d:t=no+1
      ·simp[c,d]
      ·have:(t==no+1)=false:=by simpa using d
       simp[c,d,this]
     ·simp[c]
theorem mirSame_ref (a b:Mir):F_mirror_Same (a,b)=F_batonref34_Same (a,b):=rfl
open Classical in
theorem mirSame_eq (no no':Int) (b b':Img) (s s':Bool) (t t':Int) (i i':Img) (h:smallI b) (hi:smallI i):F_batonref34_Same (mkM no b s t i,mkM no' b' s' t' i')=some (decide (mkM no b s t i=mkM no' b' s' t' i')):=by
 unfold F_batonref34_Same
 have h1:=imgSame_eq b b' (by have:=h.1;omega)
 have h2:=imgSame_eq i i' (by have:=hi.1;omega)
 have bq:∀{α:Type} [BEq α] [LawfulBEq α] (a b:α),(a==b)=decide (a=b):=fun a b=>by rw[Bool.eq_iff_iff];simp
 have e:∀b:Img,(b.1,b.2.1,b.2.2.1,b.2.2.2.1,b.2.2.2.2.1,b.2.2.2.2.2.1,b.2.2.2.2.2.2.1,b.2.2.2.2.2.2.2)=b:=fun b=>rfl
 have hd:decide (mkM no b s t i=mkM no' b' s' t' i')=decide (no=no'∧b=b'∧s=s'∧t=t'∧i=i'):=by rw[decide_eq_decide];exact mkM_inj
 rw[hd]
 simp only[mkM,e,h1,h2,bq,Option.bind_some]
 by_cases a:no=no'<;>by_cases c:b=b'<;>by_cases d:s=s'<;>by_cases f:t=t'<;>by_cases g:i=i'<;>simp[a,c,d,f,g]
theorem refMir_eq (m:Mir):O_batonlaw34_Ref m=some m:=rfl
noncomputable def ackM (no:Int) (b:Img) (s:Bool) (t:Int) (i:Img) (n:Int):Mir×Int:=
 if s=true∧n=t then (mkM t i false 0 zeroI,0) else if n<0∨n>no then (mkM no b s t i,20) else (mkM no b s t i,0)
theorem ack_eq (no:Int) (b:Img) (s:Bool) (t:Int) (i:Img) (n:Int):O_mirror_Ack (mkM no b s t i,n)=some (ackM no b s t i n):=by
 unfold mkM O_mirror_Ack ackM
 have key:(bif ((decide (n<0))==false) then (some (decide (n>no))) else (some true))=some (decide (n<0∨n>no)):=by
  by_cases a:n<0<;>by_cases c:n>no<;>simp[a,c]
 cases s with
 |false=>
  simp only[Bool.false_beq,Bool.not_true,cond_false,Option.bind_some,key,Bool.false_eq_true,false_and,if_false]
  by_cases a:n<0∨n>no
  ·simp only[a,decide_true,cond_true,if_true];rfl
  ·simp only[a,decide_false,cond_false,if_false];rfl
 |true=>
  by_cases c:n=t
  ·simp only[beq_self_eq_true,cond_true,c,Option.bind_some,and_self,if_true]
   rfl
  ·have:(n==t)=false:=by simpa using c
   simp only[beq_self_eq_true,cond_true,this,Option.bind_some,cond_false,key,c,and_false,if_false]
   by_cases a:n<0∨n>no
   ·simp only[a,decide_true,cond_true,if_true];rfl
   ·simp only[a,decide_false,cond_false,if_false];rfl
theorem refAck_eq (m:Mir) (n:Int):O_batonref34_Ack (m,n)=O_mirror_Ack (m,n):=rfl
theorem few34_eq (no:Int) (b:Img) (s:Bool) (t:Int) (i:Img):F_batonlaw34_few (mkM no b s t i)=some ((decide (b.2.2.1.length≤200)&&decide (b.2.2.2.2.2.2.1.length≤200))&&(decide (i.2.2.1.length≤200)&&decide (i.2.2.2.2.2.2.1.length≤200))):=by
 unfold F_batonlaw34_few mkM
 simp only[few_eq,Option.bind_some]
 cases (decide (b.2.2.1.length≤200)&&decide (b.2.2.2.2.2.2.1.length≤200))<;>rfl
theorem ackM_ok {no:Int} {b:Img} {s:Bool} {t:Int} {i:Img} (n:Int) (h:mirOk no b s t i=true):∃no' b' s' t' i',(ackM no b s t i n).1=mkM no' b' s' t' i'∧mirOk no' b' s' t' i'=true:=by
 unfold ackM
 split
 ·rename_i hc
  refine⟨t,i,false,0,zeroI,rfl,?_⟩
  unfold mirOk at h ⊢
  rw[hc.1]at h
  simp only[if_true,Bool.and_eq_true,decide_eq_true_eq]at h
  simp only[Bool.false_eq_true,if_false,and_self,decide_true,Bool.and_true,Bool.and_eq_true,decide_eq_true_eq]
  exact⟨by omega,h.2.2⟩
 ·split
  ·exact⟨_,_,_,_,_,rfl,h⟩
  ·exact⟨_,_,_,_,_,rfl,h⟩
theorem mirOk_small {no:Int} {b:Img} {s:Bool} {t:Int} {i:Img} (h:mirOk no b s t i=true):smallI b∧smallI i:=by
 unfold mirOk at h
 simp only[Bool.and_eq_true,decide_eq_true_eq]at h
 refine⟨img_smallI h.1.2,?_⟩
 cases s with
 |true=>simp only[if_true,Bool.and_eq_true]at h;exact img_smallI h.2.2
 |false=>
  simp only[Bool.false_eq_true,if_false,decide_eq_true_eq]at h
  rw[h.2.2]
  exact⟨by simp[zeroI],by simp[zeroI]⟩
def runesM (m:Mir):Prop:=runesIn m.2.2.2.1∧runesIn m.2.2.2.2.2.2.2.2.2.2.2.2.2.1
theorem mirror_acks_law (x:Mir×Mir×Int) (hr:runesM x.1):F_batonlaw34_MirrorAcks x=some true:=by
 obtain⟨m,o,n⟩:=x
 obtain⟨no,b,s,t,i,rfl⟩:=mkM_all m
 obtain⟨no',b',s',t',i',rfl⟩:=mkM_all o
 obtain⟨hr1,hr2⟩:=hr
 have hr1:runesIn b.2.2.1:=hr1
 have hr2:runesIn i.2.2.1:=hr2
 unfold F_batonlaw34_MirrorAcks F_batonlaw34_awake
 simp only[few34_eq,Option.bind_some,Bool.not_true,cond_false,refMir_eq]
 cases hfa:((decide (b.2.2.1.length≤200)&&decide (b.2.2.2.2.2.2.1.length≤200))&&(decide (i.2.2.1.length≤200)&&decide (i.2.2.2.2.2.2.1.length≤200))) with
 |false=>rfl
 |true=>
  cases hfb:((decide (b'.2.2.1.length≤200)&&decide (b'.2.2.2.2.2.2.1.length≤200))&&(decide (i'.2.2.1.length≤200)&&decide (i'.2.2.2.2.2.2.1.length≤200))) with
  |false=>rfl
  |true=>
   simp only[Bool.and_eq_true,decide_eq_true_eq]at hfa
   have sb:smallI b:=⟨by omega,by omega⟩
   have si:smallI i:=⟨by omega,by omega⟩
   simp only[Bool.not_true,beq_self_eq_true,cond_true,refMirRight_eq no b s t i sb si hr1 hr2,Option.bind_some]
   cases hok:mirOk no b s t i with
   |false=>rfl
   |true=>
    simp only[Bool.not_true,cond_false,refAck_eq,ack_eq,Option.bind_some,beq_self_eq_true,cond_true,mirSame_ref]
    obtain⟨no1,b1,s1,t1,i1,e1,e2⟩:=ackM_ok n hok
    obtain⟨z1,z2⟩:=mirOk_small e2
    rw[e1]
    rw[mirSame_eq no1 no1 b1 b1 s1 s1 t1 t1 i1 i1 z1 z2,mirRight_eq no1 b1 s1 t1 i1 z1 z2,mirSame_eq no no' b b' s s' t t' i i' sb si]
    simp only[decide_true,Option.bind_some,beq_self_eq_true,cond_true,e2]
end Go.Ideal.Seat
