/- States made of data. -/
import Derived.Test.YtiiibbnififbpaaJb
import Derived.KernelRfl
import Derived.IntWalk
set_option linter.unusedVariables false
set_option linter.unusedSimpArgs false
set_option linter.unusedSectionVars false
namespace Go.Ideal
theorem Jf.va {p Z h} {t:Ty} {x:List t.den} {iv:IV} {mb:Option Nat} (f:Jf p Z h t x iv mb) {c:Cf} {B:Nat} {hp ln:Bool} (hB:c.H[B]? = some (.arr true hp ln t x)) (hm:c.m B=mb):Va c (.own B) iv:=by
 simp only[Va]
 refine⟨?_,.inr ⟨_,_,_,_,_,hB,by rw[hm];exact f.1⟩⟩
 have:=f.1
 unfold fC at this
 split at this
 ·rcases this with rfl|rfl<;>rfl
 ·subst this;rfl
section
variable {p:Bool} {Z:Nat->Prop} {h:aN} {rt ro:Nat->Option Nat}
theorem Jf.inv {t:Ty} {x:List t.den} {iv:IV} {mb:Option Nat} (f:Jf p Z h t x iv mb) {H:eB}:tM p Z h rt ro H ([.own H.length],H++[.arr true (!t.flat) (!t.flat) t x]) [iv] [(mb,[])]:=by
 refine .one rfl (fun c k1 k2 k3 k4=>?_) (fun c k1 k2 k3=>?_)
 ·simp only[BR,true_and]
  have:=f.2
  cases mb with
  |none=>exact this
  |some b=>
   obtain⟨es,h1,h2⟩:=this
   exact⟨es,by rw[k3];exact h1,by rw[k1,k2,k3];exact h2.imp fun a b h=>TR.nf h⟩
 ·have hv:=f.va (c:=c) (B:=H.length) k1 k2
  exact(eT rfl).2 ⟨iv,rfl,yN rfl hv,hv⟩
theorem rP:∀{cs:List SC} {x:DL (cs.map SC.hole)} {ivs:List IV} {L:Lo} {H:eB},CF p Z h rt cs x ivs L->tM p Z h rt ro H (Ds ro cs x H) ivs L
 |[],x,ivs,L,H,f=>by
  obtain⟨rfl,rfl⟩:=f
  exact⟨by simp[Ds],fun i _=>rfl,fun j mb hj=>by simp at hj,fun c3 _=>by simp[Ds,dB]⟩
 |.ty hp ln t::r,x,ivs,L,H,f=>by
  obtain⟨u,v,rfl,h1,h2⟩:=f
  exact(tM.pure h1).app (rP (H:=H) h2)
 |.mark::r,x,ivs,L,H,f=>by
  obtain⟨v,rfl,h2⟩:=f
  have h1:tM p Z h rt ro H ([.mark],H) [.mark] []:=⟨by simp,fun _ _=>rfl,by simp,fun c3 a3=>by rw[dB.single];simp[Ca]⟩
  exact h1.app (rP (H:=H) h2)
 |.own t::r,x,ivs,L,H,f=>by
  obtain⟨iv,v,mb,L',rfl,rfl,h1,h2⟩:=f
  exact(h1.inv (H:=H)).app (rP h2)
 |.ow k t::r,x,ivs,L,H,f=>by
  obtain⟨u,v,M,N,rfl,rfl,h1,h2⟩:=f
  exact(lY (ro:=ro) (H:=H) h1).app (rP h2)
variable {σ:Fr} {base:Nat->Option dP} {fk:dP->Option SV->Prop}
def ObjF (p:Bool) (Z:Nat->Prop) (h:aN) (rt ro:Nat->Option Nat) (lo:Nat) (H:eB) (L:Lo) (B b:Nat):Prop:=
 ∃cs e,H[B]? = some (.obj true cs)/\h[b]? = some (some ⟨e.length,[e]⟩)/\∀c3,Hn p Z h rt ro c3 lo H L->dB c3 cs e
structure Yv (p:Bool) (Z:Nat->Prop) (h:aN) (rt ro:Nat->Option Nat) (H H':eB) (L:Lo) (O:Oo):Prop where
 len:H'.length=H.length+L.length
 old:∀i,i<H.length->i∉O.map Prod.fst->H'[i]? = H[i]?
 new:∀j q,L[j]? = some q->Ni p Z h rt (H'[H.length+j]?) q
 obj:∀q∈O,ObjF p Z h rt ro H.length H' L q.1 q.2
theorem Yv.of {H:eB} {y:List AV×eB} {ivs:List IV} {L:Lo} (a:tM p Z h rt ro H y ivs L):Yv p Z h rt ro H y.2 L []:=⟨a.len,fun i hi _=>a.old i hi,a.new,by simp⟩
theorem Yv.set {H:eB} {y:List AV×eB} {e:List IV} {L:Lo} {B b:Nat} (a:tM p Z h rt ro H y e L) (hBl:B<H.length) (h2:h[b]? = some (some ⟨e.length,[e]⟩)):Yv p Z h rt ro H (y.2.set B (.obj true y.1)) L [(B,b)]:=by
 have q1:=a.len
 refine⟨by simp only[eV];exact q1,fun i hi hn=>?_,fun j mb hj=>?_,fun q hq=>?_⟩
 ·simp at hn
  rw[bX hn];exact a.old i hi
 ·rw[bX (by omega)];exact a.new j mb hj
 ·simp at hq;subst hq
  refine⟨y.1,e,by rw[eQ,if_pos rfl,if_pos (by omega)],h2,fun c3 a3=>a.cas c3 ⟨a3.p,a3.Z,a3.h,a3.rt,a3.ro,fun i hi hl=>?_,a3.m⟩⟩
  rw[a3.H i hi (by simpa using hl)]
  rw[bX (by omega)]
def Yp:SK->Bool
 |.groot _=>true
 |_=>false
theorem Tv {t:Nat} {k:SK} {x:DL k.hs} {L:Lo} {O:Oo} {H:eB} {y:Option dP×eB} (f:KF p Z h rt σ base fk t k x L O) (e:zA ro base t k x H=some y) (hO:∀q∈O,q.1<H.length):
 Yv p Z h rt ro H y.2 L O/\(y.1=none->Yp k=true)/\
  ∀TI c3 a,y.1=some a->Hn p Z h rt ro c3 H.length y.2 L->(∀a v,fk a v->FR TI c3 (some a) v)->(∀q∈O,(∃cs,c3.H[q.1]? = some (.obj true cs))/\c3.m q.1=some q.2)->FR TI c3 (some a) (σ.get t):=by
 cases k with
 |keep=>
  obtain⟨f,rfl,rfl⟩:=f
  simp only[zA]at e
  obtain⟨a,e1,e⟩:=aA.1 e
  simp at e;subst e
  exact⟨⟨by simp,fun i _ _=>rfl,by simp,by simp⟩,by simp,fun TI c3 a ha a3 hfk _=>by simp at ha;subst ha;exact hfk _ _ (f _ e1)⟩
 |val hp ln v=>
  obtain⟨⟨iv,h1,h2⟩,rfl,rfl⟩:=f
  simp only[zA]at e
  obtain⟨a,e1,e⟩:=aA.1 e
  simp at e;subst e
  refine⟨⟨by simp,fun i _ _=>rfl,by simp,by simp⟩,by simp,fun TI c3 a ha a3 hfk _=>?_⟩
  simp at ha;subst ha
  exact⟨_,h1,Pl (c:=c3) e1 (by rw[a3.p,a3.Z,a3.h];exact h2)⟩
 |own u=>
  obtain⟨iv,mb,h1,h2,rfl,rfl⟩:=f
  simp only[zA,aD]at e;subst e
  have hi:=h2.inv (rt:=rt) (ro:=ro) (H:=H)
  refine⟨.of hi,by simp,fun TI c3 a ha a3 hfk _=>?_⟩
  simp at ha;subst ha
  obtain⟨iv',q1,_,q2⟩:=(eT rfl).1 (dB.single.1 (hi.cas c3 a3))
  simp at q1;subst q1
  exact⟨_,h1,q2⟩
 |box cs=>
  obtain⟨ivs,h1,h2,rfl⟩:=f
  simp only[zA,aD]at e;subst e
  have hi:=rP (ro:=ro) (H:=H) h2
  refine⟨.of hi,by simp,fun TI c3 a ha a3 hfk _=>?_⟩
  simp at ha;subst ha
  exact⟨_,h1,hi.cas c3 a3⟩
 |obj cs=>
  obtain⟨B,b,ee,hb,h1,h2,h3,rfl⟩:=f
  simp only[zA,hb,aD]at e;subst e
  have hi:=rP (ro:=ro) (H:=H) h3
  refine⟨.set hi (hO (B,b) (by simp)) h2,by simp,fun TI c3 a ha a3 hfk ho=>?_⟩
  simp at ha;subst ha
  obtain⟨⟨cs',ho1⟩,ho2⟩:=ho (B,b) (by simp)
  exact⟨_,h1,by simp only[cY,Va];exact⟨rfl,lV.mk (o:=.st 0) ho1 ho2⟩⟩
 |root u=>
  obtain⟨B,b,ee,hb,h1,h2,h3,rfl⟩:=f
  simp only[zA,hb,aD]at e;subst e
  have hi:=lY (ro:=ro) (H:=H) h3
  refine⟨.set hi (hO (B,b) (by simp)) h2,by simp,fun TI c3 a ha a3 hfk ho=>?_⟩
  simp at ha;subst ha
  obtain⟨⟨cs',ho1⟩,ho2⟩:=ho (B,b) (by simp)
  exact⟨_,h1,by simp only[cY,Va];exact⟨rfl,lV.mk (o:=.st 0) ho1 ho2⟩⟩
 |groot u=>
  obtain⟨B,b,ee,hb,h2,h3,rfl⟩:=f
  simp only[zA,hb,aD]at e;subst e
  have hi:=lY (ro:=ro) (H:=H) h3
  exact⟨.set hi (hO (B,b) (by simp)) h2,fun _=>rfl,fun TI c3 a ha=>by simp at ha⟩
 |agw u=>
  obtain⟨ivs,h1,h2,rfl⟩:=f
  simp only[zA,aD]at e;subst e
  have hi:=lY (ro:=ro) (H:=H) h2
  refine⟨.of hi,by simp,fun TI c3 a' ha' a3 hfk _=>?_⟩
  simp at ha';subst ha'
  exact⟨_,h1,by simp only[cY,Va];exact⟨_,rfl,hi.cas c3 a3⟩⟩
 |ow k u=>
  obtain⟨iv,h1,h2,rfl⟩:=f
  simp only[zA]at e
  have hi:=lY (ro:=ro) (H:=H) h2
  split at e
  ·rename_i a ha
   simp only[aD]at e;subst e
   refine⟨.of hi,by simp,fun TI c3 a' ha' a3 hfk _=>?_⟩
   simp at ha';subst ha'
   have:=hi.cas c3 a3
   rw[ha,dB.single]at this
   have ho:a.one=true:=by
    have hl:=(Ca.len this).1
    have h1:=(Ca.len this).2
    cases k<;>simp only[jO]at ha
    ·split at ha<;>(simp at ha;subst ha;rfl)
    ·simp at ha;subst ha;rfl
    ·simp at ha;subst ha;rfl
    ·split at ha<;>(simp at ha;subst ha;rfl)
   obtain⟨iv',q1,_,q2⟩:=(eT ho).1 this
   simp at q1;subst q1
   exact⟨_,h1,q2⟩
  ·cases e
theorem xI:∀{sh:nY} {x:DL sh.hs} {L:Lo} {O:Oo} {H:eB} {y:gJ},SF p Z h rt σ base fk sh x L O->Dr ro base sh x H=some y->(∀q∈O,q.1<H.length)->(O.map Prod.fst).Nodup->
 Yv p Z h rt ro H y.H L O/\
  ∀TI c3,Hn p Z h rt ro c3 H.length y.H L->(∀a v,fk a v->FR TI c3 (some a) v)->(∀q∈O,(∃cs,c3.H[q.1]? = some (.obj true cs))/\c3.m q.1=some q.2)->
   ∀t,(FR TI c3 (y.fr.get t) (σ.get t))\/(y.fr.get t=none/\∀q∈sh,q.1=t->Yp q.2=true)
 |[],x,L,O,H,y,f,e,hO,hn=>by
  obtain⟨rfl,rfl⟩:=f
  simp[Dr]at e;subst e
  exact⟨⟨by simp,fun i _ _=>rfl,by simp,by simp⟩,fun TI c3 a3 hfk _ t=>.inr ⟨rfl,by simp⟩⟩
 |(t0,k)::r,x,L,O,H,y,f,e,hO,hn=>by
  obtain⟨L1,L2,O1,O2,rfl,rfl,f1,f2⟩:=f
  simp only[Dr]at e
  obtain⟨y1,e1,e⟩:=aA.1 e
  obtain⟨z,e2,e⟩:=aA.1 e
  simp only[aD]at e;subst e
  obtain⟨⟨q1,q2,q3,q4⟩,qg,q5⟩:=Tv f1 e1 (fun q hq=>hO q (by simp[hq]))
  rw[Am,fD]at hn
  obtain⟨n1,n2,n3⟩:=hn
  have hO2:∀q∈O2,q.1<H.length:=fun q hq=>hO q (by simp[hq])
  obtain⟨⟨p1,p2,p3,p4⟩,p5⟩:=xI f2 e2 (fun q hq=>by have:=hO2 q hq;omega) n2
  have hmem:∀{i},i∈O2.map Prod.fst->i<H.length:=fun hi=>by obtain⟨q,hq,rfl⟩:=bI.1 hi;exact hO2 q hq
  have hsame:∀i,H.length≤i->i<y1.2.length->z.H[i]? = y1.2[i]?:=fun i hi hl=>p2 i hl (fun hm=>by have:=hmem hm;omega)
  have mono:∀{c3},Hn p Z h rt ro c3 H.length z.H (L1++L2)->Hn p Z h rt ro c3 H.length y1.2 L1:=fun a3=>a3.left q1 hsame (by rw[p1];omega)
  have mono2:∀{c3},Hn p Z h rt ro c3 H.length z.H (L1++L2)->Hn p Z h rt ro c3 y1.2.length z.H L2:=fun a3=>a3.right q1
  refine⟨⟨by simp only[aV];rw[p1,q1];omega,fun i hi hn=>?_,fun j mb hj=>?_,fun q hq=>?_⟩,fun TI c3 a3 hfk ho t=>?_⟩
  ·simp only[Am,aE,not_or]at hn
   rw[p2 i (by omega) hn.2,q2 i hi hn.1]
  ·rw[eR]at hj
   split at hj
   ·rename_i hl
    simp only
    rw[hsame _ (by omega) (by omega)];exact q3 j mb hj
   ·rename_i hl
    have:=p3 _ mb hj
    rw[q1,show H.length+L1.length+(j-L1.length)=H.length+j by omega]at this
    exact this
  ·rcases aE.1 hq with hq|hq
   ·obtain⟨cs,ee,w1,w2,w3⟩:=q4 q hq
    refine⟨cs,ee,?_,w2,fun c3 a3=>w3 c3 (mono a3)⟩
    have hlt:=hO q (by simp[hq])
    rw[p2 q.1 (by omega) (fun hm=>n3 q.1 (bI.2 ⟨q,hq,rfl⟩) q.1 hm rfl)];exact w1
   ·obtain⟨cs,ee,w1,w2,w3⟩:=p4 q hq
    exact⟨cs,ee,w1,w2,fun c3 a3=>w3 c3 (mono2 a3)⟩
  ·have rest:=p5 TI c3 (mono2 a3) hfk (fun q hq=>ho q (by simp[hq])) t
   cases ha:y1.1 with
   |none=>
    simp only[Wx]
    rcases rest with w|⟨w1,w2⟩
    ·exact .inl w
    ·refine .inr ⟨w1,fun q hq=>?_⟩
     rcases aQ.1 hq with rfl|hq
     ·intro _;exact qg ha
     ·exact w2 q hq
   |some a=>
    simp only[Wx,gZ.get]
    split
    ·rename_i ht;subst ht
     exact .inl (q5 TI c3 a ha (mono a3) hfk (fun q hq=>ho q (by simp[hq])))
    ·rename_i hne
     rcases rest with w|⟨w1,w2⟩
     ·exact .inl w
     ·refine .inr ⟨w1,fun q hq=>?_⟩
      rcases aQ.1 hq with rfl|hq
      ·exact fun h=>(hne h).elim
      ·exact w2 q hq
end
end Go.Ideal
namespace Go.Ideal
theorem sU (x:jY):(Bj x).wr=false:=by cases x<;>rfl
theorem Rx {c:Cf} {x:jY} {m:Option Nat} {f:List Nat} (h:BR c x m f):BR c (Bj x) m f:=by
 cases x with
 |gone=>trivial
 |arr=>simpa only[Bj,BR]using h
 |obj=>simpa only[Bj,BR]using h
 |arr2 wr t l op=>cases op<;>simpa only[Bj,BR]using h
 |fold=>simpa only[Bj,BR]using h
 |kns=>simpa only[Bj,BR]using h
 |rt=>exact h
theorem Cl (m:Option Nat) (x:jY):Bj x = .gone\/eD m x (Bj x):=by cases x<;>simp[Bj,eD]
def wY:jY->Bool
 |.obj _ _=>true
 |.fold _ _ _=>true
 |_=>false
section
variable {Rt:lL} {c:Cf} {H0:eB} {Z3:Nat->Prop} {h3:aN} {rt3:Nat->Option Nat} {σ:Fr} {base:Nat->Option dP} {fk:dP->Option SV->Prop} {sh:nY} {x:DL sh.hs} {L:Lo} {O:Oo} {y:gJ}
structure Rsh (Rt:lL) (c:Cf) (H0:eB) (Z3:Nat->Prop) (h3:aN) (rt3:Nat->Option Nat) (L:Lo) (O:Oo):Prop where
 len:H0.length=c.H.length
 br:xB c
 p:c.p=Rt.p
 rt:∀i b,c.rt i=some b->rt3 i=some b
 kept:∀(i:Nat) x',H0[i]? = some x'->i∉O.map Prod.fst->x' = .gone\/∃x,c.H[i]? = some x/\(x'=x\/x'=Bj x)/\∀b,b∈c.ft i->h3[b]? = c.h[b]?/\b<h3.length/\
  (x'.wr=true->(Rt.O0 b\/Rt.N≤b)/\¬Z3 b/\b∉cS L/\∀q∈O,q.2≠b)/\(x'.wr=false->b<Rt.N/\¬Rt.O0 b)
 inj:∀(B B':Nat) x x' b,H0[B]? = some x->H0[B']? = some x'->x.wr=true->x'.wr=true->b∈c.ft B->b∈c.ft B'->B=B'
 nd:∀(B:Nat) x,H0[B]? = some x->x.wr=true->(c.ft B).Nodup
 obj:∀q∈O,c.m q.1=some q.2/\(∃x0,c.H[q.1]? = some x0/\wY x0=true)/\(Rt.O0 q.2\/Rt.N≤q.2)/\¬Z3 q.2/\q.2∉cS L/\q.2<h3.length
 rtd:∀i b,rt3 i=some b->∃(j:Nat) (B:Nat),H0[j]? = some (.rt i B)
 rtO:∀q∈O,∀i B,H0[q.1]?≠some (.rt i B)
 objN:(O.map Prod.fst).Nodup
 objI:∀q∈O,∀q'∈O,q.2=q'.2->q.1=q'.1
 own:∀b∈cS L,(Rt.O0 b\/Rt.N≤b)/\¬Z3 b/\b<h3.length
 ownN:(cS L).Nodup
 zle:Ns c.Z Z3 c.h h3
 zb:∀b,Z3 b->b<h3.length/\(Rt.Z0 b\/Rt.O0 b\/Rt.N≤b)
 z0:∀b,Rt.Z0 b->Z3 b
 base:Rt.N≤h3.length/\∀b,b<Rt.N->¬Rt.O0 b->h3[b]? = Rt.h0[b]?
theorem On {x:jY} {i B:Nat} (h:Bj x = .rt i B):x = .rt i B:=by cases x<;>simp[Bj]at h;simp[h]
theorem De (q:Rsh Rt c H0 Z3 h3 rt3 L O) (f:SF c.p Z3 h3 rt3 σ base fk sh x L O) (e:Dr (gP H0) base sh x H0=some y):
 ∃c3,c3 = { p:=c.p,H:=y.H,m:=vQ c L,Z:=Z3,h:=h3,f:=oI c L (O.map Prod.fst),rt:=rt3 }/\GH Rt c3/\Le c c3/\
  ∀TI,(∀a v,fk a v->FR TI c3 (some a) v)->∀t,(FR TI c3 (y.fr.get t) (σ.get t))\/(y.fr.get t=none/\∀q∈sh,q.1=t->Yp q.2=true):=by
 have hOlt:∀z∈O,z.1<H0.length:=fun z hz=>by
  obtain⟨_,⟨x0,h,_⟩,_⟩:=q.obj z hz
  rw[q.len];exact cF h
 obtain⟨⟨r1,r2,r3,r4⟩,r5⟩:=xI f e hOlt q.objN
 generalize hc3:({ p:=c.p,H:=y.H,m:=vQ c L,Z:=Z3,h:=h3,f:=oI c L (O.map Prod.fst),rt:=rt3 }:Cf)=c3
 have c3p:c3.p=c.p:=by rw[<-hc3]
 have c3H:c3.H=y.H:=by rw[<-hc3]
 have c3Z:c3.Z=Z3:=by rw[<-hc3]
 have c3h:c3.h=h3:=by rw[<-hc3]
 have c3rt:c3.rt=rt3:=by rw[<-hc3]
 have hn:∀i,i<c.H.length->c3.m i=c.m i:=fun i hi=>by rw[<-hc3];simp[vQ,hi]
 have hf:∀i,i<c.H.length->i∉O.map Prod.fst->c3.f i=c.f i:=fun i hi hne=>by rw[<-hc3];simp only[oI,if_neg hne,if_pos hi]
 have hfO:∀i,i∈O.map Prod.fst->c3.f i=[]:=fun i hi=>by rw[<-hc3];simp only[oI,if_pos hi]
 have mnew:∀j z,L[j]? = some z->c3.m (c.H.length+j)=z.1/\c3.f (c.H.length+j)=z.2:=fun j z hj=>by
  have h1:¬(c.H.length+j<c.H.length):=by omega
  have h0:c.H.length+j∉O.map Prod.fst:=fun h=>by
   obtain⟨z,hz,h2⟩:=bI.1 h
   have:=hOlt z hz
   rw[q.len]at this;omega
  rw[<-hc3]
  simp only[vQ,oI,if_neg h0,if_neg h1,show c.H.length+j-c.H.length=j by omega,hj,cK,kC,and_self]
 have ftk:∀i,i<c.H.length->i∉O.map Prod.fst->c3.ft i=c.ft i:=fun i hi hne=>by simp only[Cf.ft,hn i hi,hf i hi hne]
 have ftO:∀z∈O,c3.ft z.1=[z.2]:=fun z hz=>by
  obtain⟨h1,⟨x0,h2,_⟩,_⟩:=q.obj z hz
  simp[Cf.ft,hn z.1 (cF h2),h1,hfO z.1 (bI.2 ⟨z,hz,rfl⟩)]
 have ftn:∀j z,L[j]? = some z->c3.ft (c.H.length+j)=z.1.toList++z.2:=fun j z hj=>by simp only[Cf.ft,(mnew j z hj).1,(mnew j z hj).2]
 have old:∀(i:Nat),i<c.H.length->(∃b,(i,b)∈O)\/(i∉O.map Prod.fst/\y.H[i]? = H0[i]?):=fun i hi=>by
  by_cases hm:i∈O.map Prod.fst
  ·obtain⟨z,hz,rfl⟩:=bI.1 hm
   exact .inl ⟨z.2,hz⟩
  ·exact .inr ⟨hm,r2 i (by rw[q.len];exact hi) hm⟩
 have le:Le c c3:=by
  refine⟨c3p,fun B xx hB=>?_,by rw[c3Z,c3h];exact q.zle,fun i b h=>by rw[c3rt];exact q.rt i b h⟩
  have hl:=cF hB
  refine⟨hn B hl,?_⟩
  rw[c3H]
  rcases old B hl with ⟨b,hb⟩|⟨hm,hh⟩
  ·obtain⟨cs,ee,w1,_⟩:=r4 _ hb
   obtain⟨h0,⟨x0,h1,hx0⟩,_⟩:=q.obj _ hb
   simp only at h1 w1 h0
   rw[hB]at h1;injection h1 with h1;subst h1
   refine⟨_,w1,.inr ?_⟩
   cases xx<;>simp only[wY]at hx0<;>first|(cases hx0;done)|skip
   ·trivial
   ·simp only[eD,h0];simp
  ·rw[hh]
   have:∃x',H0[B]? = some x':=⟨_,aG (by rw[q.len];exact hl)⟩
   obtain⟨x',hx'⟩:=this
   refine⟨x',hx',?_⟩
   rcases q.kept B x' hx' hm with rfl|⟨x0,h1,h2,_⟩
   ·exact .inl rfl
   ·rw[hB]at h1;injection h1 with h1;subst h1
    rcases h2 with rfl|rfl
    ·exact eD.rfl' _ x'
    ·exact Cl _ xx
 have at3:Hn c.p Z3 h3 rt3 (gP H0) c3 H0.length y.H L:=by
  refine⟨c3p,c3Z,c3h,c3rt,fun i B hro=>?_,fun i _ _=>by rw[c3H],fun j z hj=>by rw[q.len];exact mnew j z hj⟩
  obtain⟨j,hj⟩:=tQ hro
  have hjO:j∉O.map Prod.fst\/j∈O.map Prod.fst:=(Classical.em _).symm
  have hcj:c.H[j]? = some (.rt i B):=by
   by_cases hm:j∈O.map Prod.fst
   ·obtain⟨z,hz,rfl⟩:=bI.1 hm
    exact(q.rtO z hz _ _ hj).elim
   ·rcases q.kept j _ hj hm with h|⟨x0,h1,h2,_⟩
    ·cases h
    ·rcases h2 with rfl|h2
     ·exact h1
     ·rw[On h2.symm]at h1;exact h1
  have br:=q.br j _ hcj
  simp only[BR]at br
  obtain⟨_,_,k1,k2,z,k3,k4⟩:=br
  obtain⟨b,hb⟩:=tK.1 k2
  refine⟨by rw[c3rt,q.rt i b hb,hn B (cF k3),<-k1,hb],by rw[c3rt,q.rt i b hb];simp,?_⟩
  obtain⟨_,w,hw,hzw⟩:=le.H B z k3
  refine⟨w,hw,?_⟩
  rcases hzw with rfl|hzw
  ·trivial
  ·cases z<;>simp only at k4<;>cases w<;>simp only[eD]at hzw |-
 have ent:∀(B:Nat) z,y.H[B]? = some z->(B<c.H.length/\∃b cs ee,(B,b)∈O/\z = .obj true cs/\h3[b]? = some (some ⟨ee.length,[ee]⟩)/\dB c3 cs ee)\/
  (B<c.H.length/\B∉O.map Prod.fst/\H0[B]? = some z)\/(∃j w,B=c.H.length+j/\L[j]? = some w/\Ni c.p Z3 h3 rt3 (some z) w):=by
  intro B z hz
  by_cases hl:B<c.H.length
  ·rcases old B hl with ⟨b,hb⟩|⟨hm,hh⟩
   ·obtain⟨cs,ee,w1,w2,w3⟩:=r4 _ hb
    simp only at w1
    rw[hz]at w1;injection w1 with w1
    exact .inl ⟨hl,b,cs,ee,hb,w1,w2,w3 _ at3⟩
   ·exact .inr (.inl ⟨hl,hm,by rw[<-hh];exact hz⟩)
  ·have h1:=cF hz
   rw[r1,q.len]at h1
   obtain⟨mb,hmb⟩:∃mb,L[B-c.H.length]? = some mb:=⟨_,aG (by omega)⟩
   have h2:=r3 _ mb hmb
   rw[q.len,show c.H.length+(B-c.H.length)=B by omega,hz]at h2
   exact .inr (.inr ⟨_,mb,by omega,hmb,h2⟩)
 refine⟨c3,rfl,⟨c3p.trans q.p,?_,?_,?_,?_,?_,?_,by rw[c3h];exact q.base,by rw[c3Z,c3h];exact q.zb,by rw[c3Z];exact q.z0,fun i b h=>?_⟩,le,fun TI hfk t=>r5 TI _ at3 hfk (fun z hz=>?_) t⟩
 ·intro B z hz
  rw[c3H]at hz
  rcases ent B z hz with ⟨hl,b,cs,ee,hb,rfl,w2,w3⟩|⟨hl,hm,hh⟩|⟨j,w,rfl,hj,z',w1,_,w2⟩
  ·simp only[BR]
   refine⟨hfO B (bI.2 ⟨_,hb,rfl⟩),b,by rw[hn B hl];exact(q.obj _ hb).1,ee,by rw[c3h];exact w2,w3⟩
  ·rw[hn B hl,hf B hl hm]
   rcases q.kept B z hh hm with rfl|⟨x0,h1,h2,h4⟩
   ·trivial
   ·have:=(q.br B x0 h1).le le (fun i hi=>by rw[c3h];exact(h4 i (Cf.ft_iff.2 hi)).1)
    rcases h2 with rfl|rfl
    ·exact this
    ·exact Rx this
  ·injection w1 with w1;subst w1
   rw[(mnew j w hj).1,(mnew j w hj).2]
   exact w2 c3 c3p c3Z c3h c3rt
 ·intro B B' z z' b hz hz' hw hw' hm hm'
  rw[c3H]at hz hz'
  rcases ent B z hz with ⟨hl,b1,cs,ee,hb,rfl,w2,w3⟩|⟨hl,hno,hh⟩|⟨j,mb,rfl,hj,w1⟩
  ·rw[ftO _ hb]at hm;simp at hm;subst hm
   rcases ent B' z' hz' with ⟨hl',b2,cs',ee',hb',rfl,w2',w3'⟩|⟨hl',hno',hh'⟩|⟨j',mb',rfl,hj',w1'⟩
   ·rw[ftO _ hb']at hm';simp at hm';subst hm'
    exact q.objI _ hb _ hb' rfl
   ·rw[ftk B' hl' hno']at hm'
    rcases q.kept B' z' hh' hno' with rfl|⟨x0,h1,h2,h4⟩
    ·cases hw'
    ·exact(((h4 _ hm').2.2.1 hw').2.2.2 _ hb rfl).elim
   ·rw[ftn j' mb' hj']at hm'
    exact((q.obj _ hb).2.2.2.2.1 (fT hj' hm')).elim
  ·rw[ftk B hl hno]at hm
   rcases ent B' z' hz' with ⟨hl',b2,cs',ee',hb',rfl,w2',w3'⟩|⟨hl',hno',hh'⟩|⟨j',mb',rfl,hj',w1'⟩
   ·rw[ftO _ hb']at hm';simp at hm';subst hm'
    rcases q.kept B z hh hno with rfl|⟨x0,h1,h2,h4⟩
    ·cases hw
    ·exact(((h4 _ hm).2.2.1 hw).2.2.2 _ hb' rfl).elim
   ·rw[ftk B' hl' hno']at hm'
    exact q.inj B B' z z' b hh hh' hw hw' hm hm'
   ·rw[ftn j' mb' hj']at hm'
    rcases q.kept B z hh hno with rfl|⟨x0,h1,h2,h4⟩
    ·cases hw
    ·exact(((h4 _ hm).2.2.1 hw).2.2.1 (fT hj' hm')).elim
  ·rw[ftn j mb hj]at hm
   rcases ent B' z' hz' with ⟨hl',b2,cs',ee',hb',rfl,w2',w3'⟩|⟨hl',hno',hh'⟩|⟨j',mb',rfl,hj',w1'⟩
   ·rw[ftO _ hb']at hm';simp at hm';subst hm'
    exact((q.obj _ hb').2.2.2.2.1 (fT hj hm)).elim
   ·rw[ftk B' hl' hno']at hm'
    rcases q.kept B' z' hh' hno' with rfl|⟨x0,h1,h2,h4⟩
    ·cases hw'
    ·exact(((h4 _ hm').2.2.1 hw').2.2.1 (fT hj hm)).elim
   ·rw[ftn j' mb' hj']at hm'
    rw[rC q.ownN hj hj' hm hm']
 ·intro B z hz hw
  rw[c3H]at hz
  rcases ent B z hz with ⟨hl,b1,cs,ee,hb,rfl,w2,w3⟩|⟨hl,hno,hh⟩|⟨j,mb,rfl,hj,w1⟩
  ·rw[ftO _ hb];simp
  ·rw[ftk B hl hno];exact q.nd B z hh hw
  ·rw[ftn j mb hj];exact uJ q.ownN hj
 ·intro B z b hz hw hm
  rw[c3H]at hz
  rw[c3Z]
  rcases ent B z hz with ⟨hl,b1,cs,ee,hb,rfl,w2,w3⟩|⟨hl,hno,hh⟩|⟨j,mb,rfl,hj,w1⟩
  ·rw[ftO _ hb]at hm;simp at hm;subst hm
   exact⟨(q.obj _ hb).2.2.1,(q.obj _ hb).2.2.2.1⟩
  ·rw[ftk B hl hno]at hm
   rcases q.kept B z hh hno with rfl|⟨x0,h1,h2,h4⟩
   ·cases hw
   ·exact⟨((h4 _ hm).2.2.1 hw).1,((h4 _ hm).2.2.1 hw).2.1⟩
  ·rw[ftn j mb hj]at hm
   have:=q.own b (fT hj hm)
   exact⟨this.1,this.2.1⟩
 ·intro B z b hz hw hg hm
  rw[c3H]at hz
  rcases ent B z hz with ⟨hl,b1,cs,ee,hb,rfl,w2,w3⟩|⟨hl,hno,hh⟩|⟨j,mb,rfl,hj,z',w1,w0,_⟩
  ·cases hw
  ·rw[ftk B hl hno]at hm
   rcases q.kept B z hh hno with rfl|⟨x0,h1,h2,h4⟩
   ·exact(hg rfl).elim
   ·exact(h4 _ hm).2.2.2 hw
  ·injection w1 with w1;subst w1;rw[w0]at hw;cases hw
 ·intro B z b hz hg hm
  rw[c3H]at hz
  rw[c3h]
  rcases ent B z hz with ⟨hl,b1,cs,ee,hb,rfl,w2,w3⟩|⟨hl,hno,hh⟩|⟨j,mb,rfl,hj,w1⟩
  ·rw[ftO _ hb]at hm;simp at hm;subst hm
   exact(q.obj _ hb).2.2.2.2.2
  ·rw[ftk B hl hno]at hm
   rcases q.kept B z hh hno with rfl|⟨x0,h1,h2,h4⟩
   ·exact(hg rfl).elim
   ·exact(h4 _ hm).2.1
  ·rw[ftn j mb hj]at hm
   exact(q.own b (fT hj hm)).2.2
 ·rw[c3rt]at h
  obtain⟨j,B,h⟩:=q.rtd i b h
  refine⟨j,B,?_⟩
  rw[c3H,r2 j (cF h) (fun hm=>by obtain⟨z,hz,rfl⟩:=bI.1 hm;exact q.rtO z hz _ _ h)];exact h
 ·have:=q.obj z hz
  obtain⟨cs,ee,w1,_⟩:=r4 z hz
  exact⟨⟨cs,by rw[c3H];exact w1⟩,by rw[hn _ (cF this.2.1.choose_spec.1)];exact this.1⟩
end
end Go.Ideal
namespace Go.Ideal
theorem yX {S X:Type} {f:S->Option (S⊕X)}:∀(n m:Nat) (s:S) (x:X),n≤m->nM f n s=some x->nM f m s=some x
 |0,_,_,_,_,h=>by simp[nM]at h
 |n+1,0,_,_,h,_=>by omega
 |n+1,m+1,s,x,hl,h=>by
  simp only[nM]at h |-
  obtain⟨r,h1,h2⟩:=aA.1 h
  rw[h1]
  cases r with
  |inl s'=>exact yX n m s' x (by omega) h2
  |inr x'=>exact h2
theorem pX {S X:Type} {f:S->Option (S⊕X)} {s:S} {x:X}:cL f s=some x↔∃n,nM f n s=some x:=
 yS (F:=fun n=>nM f n s) (fun n m r hl h=>yX n m s r hl h)
theorem uD {S X:Type} (f:S->Option (S⊕X)) (s:S):cL f s=(f s).bind fun r=>match r with
 |.inl s=>cL f s
 |.inr x=>some x:=by
 have key:∀x,cL f s=some x↔((f s).bind fun r=>match r with
  |.inl s=>cL f s
  |.inr x=>some x)=some x:=by
  intro x
  rw[pX]
  constructor
  ·rintro⟨n,h⟩
   cases n with
   |zero=>simp[nM]at h
   |succ n=>
    simp only[nM]at h
    obtain⟨r,h1,h2⟩:=aA.1 h
    rw[h1]
    cases r with
    |inl s'=>exact pX.2 ⟨n,h2⟩
    |inr x'=>exact h2
  ·intro h
   obtain⟨r,h1,h2⟩:=aA.1 h
   cases r with
   |inl s'=>
    obtain⟨n,h3⟩:=pX.1 h2
    exact⟨n+1,by simp only[nM,h1,aB];exact h3⟩
   |inr x'=>exact⟨1,by simp only[nM,h1,aB];exact h2⟩
 cases h:cL f s with
 |some x=>exact((key x).1 h).symm
 |none=>
  cases h':((f s).bind fun r=>match r with
  |.inl s=>cL f s
  |.inr x=>some x) with
  |none=>rfl
  |some x=>rw[(key x).2 h']at h;cases h
theorem tR (l:List Nat):∀(H:eB) (o i:Nat),(Ap l o H)[i]? = (H[i]?).map fun x=>if l.contains (o+i) then x else Bj x
 |[],o,i=>by simp[Ap]
 |x::r,o,0=>by simp[Ap]
 |x::r,o,i+1=>by
  simp only[Ap,kE]
  rw[tR l r (o+1) i,show o+1+i=o+(i+1) by omega]
theorem iJ (l:List Nat) (ro:Bool):∀(H:eB) (o i:Nat),(eL l ro o H)[i]? = (H[i]?).map fun x=>if l.contains (o+i)&& !sK x then .gone else if ro then Bj x else x
 |[],o,i=>by simp[eL]
 |x::r,o,0=>by simp[eL]
 |x::r,o,i+1=>by
  simp only[eL,kE]
  rw[iJ l ro r (o+1) i,show o+1+i=o+(i+1) by omega]
theorem Om (l:List Nat):∀(H:eB) (o:Nat),(Ap l o H).length=H.length
 |[],_=>rfl
 |x::r,o=>by simp[Ap,Om l r]
theorem Bz {l:List Nat} {ro:Bool} {H:eB} {j i B:Nat} (h:H[j]? = some (.rt i B)):(eL l ro 0 H)[j]? = some (.rt i B):=by
 rw[iJ,h];cases ro<;>simp[sK,Bj]
theorem Dc {H H':eB} (h:tP H H'=true) {j i B:Nat} (hj:H'[j]? = some (.rt i B)):∃(j':Nat) (B':Nat),H[j']? = some (.rt i B'):=by
 unfold tP at h
 have:=bE.1 h _ (aL hj)
 simp only at this
 obtain⟨B',hB⟩:=dD.1 this
 obtain⟨j',hj'⟩:=tQ hB
 exact⟨j',B',hj'⟩
theorem tA (l:List Nat) (ro:Bool):∀(H:eB) (o:Nat),(eL l ro o H).length=H.length
 |[],_=>rfl
 |x::r,o=>by simp[eL,tA l ro r]
structure Vs (R:lL) (c:Cf) (gv:List Nat) (R1:lL):Prop where
 p:R1.p=R.p
 N:R1.N=c.h.length
 h0:R1.h0=c.h
 O0:∀b,R1.O0 b↔∃B x,c.H[B]? = some x/\B∈gv/\x.wr=true/\b∈c.ft B
 zl:∀b,c.Z b->R1.Z0 b
 zr:∀b,R1.Z0 b->c.Z b\/R1.O0 b
section
variable {R R1:lL} {c:Cf} {gv:List Nat} (g:GH R c) (sb:Vs R c gv R1)
include g sb
theorem Vs.kept {i:Nat} {x:jY} {b:Nat} (hi:i∉gv) (hx:c.H[i]? = some x) (hg:x≠.gone) (hm:b∈c.ft i):b<R1.N/\¬R1.O0 b:=by
 refine⟨by rw[sb.N];exact g.lt i x b hx hg hm,fun ho=>?_⟩
 obtain⟨B,x0,h1,h2,h3,h4⟩:=(sb.O0 b).1 ho
 by_cases hw:x.wr=true
 ·exact hi (by rw[g.inj i B x x0 b hx h1 hw h3 hm h4];exact h2)
 ·have h5:=g.ro i x b hx (by simpa using hw) hg hm
  rcases (g.wr B x0 b h1 h3 h4).1 with h6|h6
  ·exact h5.2 h6
  ·omega
theorem Vs.ours {b:Nat} (h:R1.O0 b\/R1.N≤b):R.O0 b\/R.N≤b:=by
 rcases h with h|h
 ·obtain⟨B,x0,h1,h2,h3,h4⟩:=(sb.O0 b).1 h
  exact(g.wr B x0 b h1 h3 h4).1
 ·rw[sb.N]at h;exact .inr (cQ g.base.1 h)
end
def oV (c:Cf) (u:kY):Nat->Prop:=fun b=>c.Z b\/∃B∈u.frz,b∈c.ft B
theorem Jj {H:eB} {B:Nat}:wrB H B=true↔∃x,H[B]? = some x/\x.wr=true:=by
 unfold wrB
 cases H[B]?<;>simp
structure UF (N:Nat) (O0 Z0:Nat->Prop) (h0:aN) (Z3:Nat->Prop) (h3:aN) (L:Lo) (O:Oo):Prop where
 own:∀b∈cS L,(O0 b\/N≤b)/\¬Z3 b/\b<h3.length
 ownN:(cS L).Nodup
 obj:∀q∈O,(O0 q.2\/N≤q.2)/\¬Z3 q.2/\q.2∉cS L/\q.2<h3.length
 objN:(O.map Prod.fst).Nodup
 objI:∀q∈O,∀q'∈O,q.2=q'.2->q.1=q'.1
 base:N≤h3.length/\∀b,b<N->¬O0 b->h3[b]? = h0[b]?
 zb:∀b,Z3 b->b<h3.length/\(Z0 b\/O0 b\/N≤b)
 z0:∀b,Z0 b->Z3 b
abbrev lL.uf (R:lL) (Z3:Nat->Prop) (h3:aN) (L:Lo) (O:Oo):Prop:=UF R.N R.O0 R.Z0 R.h0 Z3 h3 L O
theorem Cx {R:lL} {c:Cf} (g:GH R c) {u:kY} {L:Lo} {O:Oo} (h:tI c u L O) (ok:u.ok c.H=true):R.uf (oV c u) c.h L O:=by
 simp only[kY.ok,aF,lQ,bE,dU,iA,decide_eq_false_iff_not,Jj]at ok
 obtain⟨⟨⟨k1,k2⟩,k3⟩,k4⟩:=ok
 have ow:∀b∈cS L,∃B∈u.own,b∈c.ft B/\∃x,c.H[B]? = some x/\x.wr=true:=fun b hb=>by
  replace hb:=h.own.mem_iff.1 hb
  obtain⟨B,hB,hm⟩:=dS.1 hb
  exact⟨B,hB,hm,h.w B hB⟩
 have ob:∀q∈O,q.1∈u.obj/\q.2∈c.ft q.1/\∃x,c.H[q.1]? = some x/\x.wr=true:=fun q hq=>by
  obtain⟨h1,_,cs,h2⟩:=h.o q hq
  exact⟨by rw[<-h.obj];exact bI.2 ⟨q,hq,rfl⟩,Cf.ft_m h1,_,h2,rfl⟩
 have nz:∀(B:Nat) x b,c.H[B]? = some x->x.wr=true->b∈c.ft B->B∉u.frz->¬oV c u b:=by
  rintro B x b h1 h2 h3 h4 (hz|⟨B',hB',hm⟩)
  ·exact(g.wr B x b h1 h2 h3).2 hz
  ·obtain⟨⟨⟨x',h5,h6⟩,_⟩,_⟩:=k3 B' hB'
   exact h4 (by rw[g.inj B B' x x' b h1 h5 h2 h6 h3 hm];exact hB')
 have frz:∀b,(∃B∈u.frz,b∈c.ft B)->(R.O0 b\/R.N≤b)/\b<c.h.length:=by
  rintro b ⟨B,hB,hm⟩
  obtain⟨⟨⟨x,h1,h2⟩,_⟩,_⟩:=k3 B hB
  exact⟨(g.wr B x b h1 h2 hm).1,g.lt B x b h1 (by intro e;subst e;cases h2) hm⟩
 refine⟨fun b hb=>?_,?_,fun q hq=>?_,by rw[h.obj];exact k2,fun q hq q' hq' e=>?_,g.base,fun b hz=>?_,fun b hb=>.inl (g.z0 b hb)⟩
 ·obtain⟨B,h1,h2,x,h3,h4⟩:=ow b hb
  exact⟨(g.wr B x b h3 h4 h2).1,nz B x b h3 h4 h2 fun hf=>(k3 B hf).1.2 h1,g.lt B x b h3 (by intro e;subst e;cases h4) h2⟩
 ·rw[h.own.nodup_iff]
  have:∀{l:List Nat},l.Nodup->(∀B∈l,∃x,c.H[B]? = some x/\x.wr=true)->(l.flatMap c.ft).Nodup:=by
   intro l
   induction l with
   |nil=>intro _ _;simp
   |cons B l ih=>
    intro hn hw
    rw[cT]at hn
    have ih:=ih hn.2 (fun B hB=>hw B (by simp[hB]))
    obtain⟨x,h1,h2⟩:=hw B (by simp)
    rw[eG,fD]
    refine⟨g.nd B x h1 h2,ih,fun a ha b hb e=>?_⟩
    subst e
    obtain⟨B',hB',hm'⟩:=dS.1 hb
    obtain⟨x',h3,h4⟩:=hw B' (by simp[hB'])
    exact hn.1 (by rw[g.inj B B' x x' a h1 h3 h2 h4 ha hm'];exact hB')
  exact this k1 h.w
 ·obtain⟨h1,h2,x,h3,h4⟩:=ob q hq
  refine⟨(g.wr _ x _ h3 h4 h2).1,nz _ x _ h3 h4 h2 fun hf=>(k3 _ hf).2 h1,fun hb=>?_,g.lt _ x _ h3 (by intro e;subst e;cases h4) h2⟩
  obtain⟨B,h5,h6,x',h7,h8⟩:=ow _ hb
  have:=g.inj B q.1 x' x _ h7 h3 h8 h4 h6 h2
  exact k4 B h5 (by rw[this];exact h1)
 ·obtain⟨h1,h2,x,h3,h4⟩:=ob q hq
  obtain⟨h1',h2',x',h3',h4'⟩:=ob q' hq'
  exact g.inj _ _ x x' _ h3 h3' h4 h4' h2 (by rw[e];exact h2')
 ·rcases hz with hz|hz
  ·exact g.zb b hz
  ·exact⟨(frz b hz).2,.inr (frz b hz).1⟩
def lB (base:Nat->Option dP):nY->List Nat
 |[]=>[]
 |(t,k)::r=>(match k,base t with
  |.obj _,some (.val (.ptr B (.st 0)))=>[B]
  |.root _,some (.val (.ptr B (.st 0)))=>[B]
  |.groot _,some (.val (.ptr B (.st 0)))=>[B]
  |_,_=>[])++lB base r
theorem xP {p:Bool} {Z:Nat->Prop} {h:aN} {rt:Nat->Option Nat} {σ:Fr} {base:Nat->Option dP} {fk:dP->Option SV->Prop}:∀{sh:nY} {x:DL sh.hs} {L:Lo} {O:Oo},SF p Z h rt σ base fk sh x L O->O.map Prod.fst=lB base sh
 |[],x,L,O,f=>by obtain⟨_,rfl⟩:=f;rfl
 |(t,k)::r,x,L,O,f=>by
  obtain⟨L1,L2,O1,O2,rfl,rfl,f1,f2⟩:=f
  have ih:=xP f2
  rw[Am,ih]
  cases k with
  |keep=>obtain⟨_,_,rfl⟩:=f1;simp[lB]
  |val=>obtain⟨_,_,rfl⟩:=f1;simp[lB]
  |own=>obtain⟨_,_,_,_,_,rfl⟩:=f1;simp[lB]
  |box=>obtain⟨_,_,_,rfl⟩:=f1;simp[lB]
  |ow=>obtain⟨_,_,_,rfl⟩:=f1;simp[lB]
  |agw=>obtain⟨_,_,_,rfl⟩:=f1;simp[lB]
  |obj=>obtain⟨B,b,e,hb,_,_,_,rfl⟩:=f1;simp[lB,hb]
  |root=>obtain⟨B,b,e,hb,_,_,_,rfl⟩:=f1;simp[lB,hb]
  |groot=>obtain⟨B,b,e,hb,_,_,rfl⟩:=f1;simp[lB,hb]
theorem sG {p:Bool} {Z:Nat->Prop} {h:aN} {rt:Nat->Option Nat} {σ:Fr} {base:Nat->Option dP} {fk:dP->Option SV->Prop}:∀{sh:nY} {x:DL sh.hs} {L:Lo} {O:Oo},SF p Z h rt σ base fk sh x L O->∀q∈O,∃t,base t=some (.val (.ptr q.1 (.st 0)))
 |[],x,L,O,f=>by obtain⟨_,rfl⟩:=f;simp
 |(t,k)::r,x,L,O,f=>by
  obtain⟨L1,L2,O1,O2,rfl,rfl,f1,f2⟩:=f
  intro q hq
  rcases aE.1 hq with hq|hq
  ·cases k with
   |keep=>obtain⟨_,_,rfl⟩:=f1;simp at hq
   |val=>obtain⟨_,_,rfl⟩:=f1;simp at hq
   |own=>obtain⟨_,_,_,_,_,rfl⟩:=f1;simp at hq
   |box=>obtain⟨_,_,_,rfl⟩:=f1;simp at hq
   |ow=>obtain⟨_,_,_,rfl⟩:=f1;simp at hq
   |agw=>obtain⟨_,_,_,rfl⟩:=f1;simp at hq
   |obj=>obtain⟨B,b,e,hb,_,_,_,rfl⟩:=f1;simp at hq;subst hq;exact⟨t,hb⟩
   |root=>obtain⟨B,b,e,hb,_,_,_,rfl⟩:=f1;simp at hq;subst hq;exact⟨t,hb⟩
   |groot=>obtain⟨B,b,e,hb,_,_,rfl⟩:=f1;simp at hq;subst hq;exact⟨t,hb⟩
  ·exact sG f2 q hq
section
variable {R R1:lL} {c:Cf} {gv:List Nat} (g:GH R c) (sb:Vs R c gv R1) {Z3:Nat->Prop} {h3:aN} {rt3:Nat->Option Nat} {L:Lo} {O:Oo} (uf:R1.uf Z3 h3 L O)
 (zle:Ns c.Z Z3 c.h h3) (hrt:∀i b,c.rt i=some b->rt3 i=some b) (hrd:∀i b,rt3 i=some b->∃(j:Nat) (B:Nat),c.H[j]? = some (.rt i B)) (hm:∀q∈O,c.m q.1=some q.2) (hobj:∀q∈O,∃x0,c.H[q.1]? = some x0/\wY x0=true)
include g sb uf zle hrt hrd hm hobj
theorem Ft:Rsh R c (eL gv false 0 c.H) Z3 h3 rt3 L O:=by
 have zsplit:∀b,Z3 b->R1.Z0 b\/(R1.O0 b\/R1.N≤b):=fun b hz=>(uf.zb b hz).2
 have hN:=sb.N
 refine⟨tA _ _ _ _,g.blk,g.p,hrt,?_,?_,?_,fun q hq=>⟨hm q hq,hobj q hq,sb.ours g (uf.obj q hq).1,(uf.obj q hq).2⟩,fun i b h=>by obtain⟨j,B,h⟩:=hrd i b h;exact⟨j,B,Bz h⟩,?_,uf.objN,uf.objI,fun b hb=>⟨sb.ours g (uf.own b hb).1,(uf.own b hb).2⟩,uf.ownN,zle,?_,fun b hb=>zle.z b (g.z0 b hb),?_,?_⟩
 ·intro i x' hx' hi
  rw[iJ]at hx'
  cases hx:c.H[i]? with
  |none=>rw[hx]at hx';cases hx'
  |some x=>
   rw[hx]at hx'
   simp only[cK,bV,aD,iA,decide_eq_true_eq,aR,if_false,aF,dU]at hx'
   split at hx'
   ·exact .inl hx'.symm
   ·rename_i hgv
    subst hx'
    by_cases hgo:x = .gone
    ·exact .inl hgo
    by_cases hrt':sK x=true
    ·refine .inr ⟨x,rfl,.inl rfl,fun b hb=>?_⟩
     have:=g.blk i x hx
     cases x<;>simp only[sK]at hrt'<;>try (cases hrt';done)
     simp only[BR]at this
     simp[Cf.ft,this.1,this.2.1]at hb
    have hgv:i∉gv:=fun h=>hgv ⟨h,by simpa using hrt'⟩
    refine .inr ⟨x,rfl,.inl rfl,fun b hb=>?_⟩
    have hk:=sb.kept g hgv hx hgo hb
    refine⟨by rw[uf.base.2 b hk.1 hk.2,sb.h0],bM hk.1 uf.base.1,fun hw=>?_,fun hw=>g.ro i x b hx hw hgo hb⟩
    have hwr:=g.wr i x b hx hw hb
    refine⟨hwr.1,fun hz=>?_,fun hb'=>?_,fun q hq e=>?_⟩
    ·rcases zsplit b hz with h|h|h
     ·rcases sb.zr b h with h|h
      ·exact hwr.2 h
      ·exact hk.2 h
     ·exact hk.2 h
     ·omega
    ·rcases (uf.own b hb').1 with h|h
     ·exact hk.2 h
     ·omega
    ·subst e
     rcases (uf.obj q hq).1 with h|h
     ·exact hk.2 h
     ·omega
 ·intro B B' x x' b hx hx' hw hw' hm hm'
  rw[iJ]at hx hx'
  obtain⟨x0,h0,rfl⟩:=aZ.1 hx
  obtain⟨x1,h1,rfl⟩:=aZ.1 hx'
  simp only[aR,if_false]at hw hw'
  split at hw
  ·cases hw
  ·split at hw'
   ·cases hw'
   ·exact g.inj B B' x0 x1 b h0 h1 hw hw' hm hm'
 ·intro B x hx hw
  rw[iJ]at hx
  obtain⟨x0,h0,rfl⟩:=aZ.1 hx
  simp only[aR,if_false]at hw
  split at hw
  ·cases hw
  ·exact g.nd B x0 h0 hw
 ·intro q hq i B h
  obtain⟨x0,hB,ho⟩:=hobj q hq
  rw[iJ,hB]at h
  simp only[cK,aD,aR,if_false]at h
  split at h
  ·cases h
  ·subst h;cases ho
 ·intro b hz
  refine⟨(uf.zb b hz).1,?_⟩
  rcases zsplit b hz with h|h
  ·rcases sb.zr b h with h|h
   ·exact(g.zb b h).2
   ·exact .inr (sb.ours g (.inl h))
  ·exact .inr (sb.ours g h)
 ·have:=uf.base.1
  rw[sb.N]at this
  exact cQ g.base.1 this
 ·intro b hb ho
  have h1:b<R1.N:=by rw[sb.N];exact bM hb g.base.1
  have h2:¬R1.O0 b:=fun h=>by
   rcases sb.ours g (.inl h)with h|h
   ·exact ho h
   ·omega
  rw[uf.base.2 b h1 h2,sb.h0]
  exact g.base.2 b hb ho
theorem goOn {gs:List Nat} (hgs:∀i,i∉gs->i∉O.map Prod.fst->i∉gv):Rsh R1 c (eL gs true 0 c.H) Z3 h3 rt3 L O:=by
 refine⟨tA _ _ _ _,g.blk,g.p.trans sb.p.symm,hrt,?_,?_,?_,fun q hq=>⟨hm q hq,hobj q hq,uf.obj q hq⟩,fun i b h=>by obtain⟨j,B,h⟩:=hrd i b h;exact⟨j,B,Bz h⟩,?_,uf.objN,uf.objI,uf.own,uf.ownN,zle,uf.zb,uf.z0,uf.base⟩
 ·intro i x' hx' hi
  rw[iJ]at hx'
  cases hx:c.H[i]? with
  |none=>rw[hx]at hx';cases hx'
  |some x=>
   rw[hx]at hx'
   simp only[cK,bV,aD,iA,decide_eq_true_eq,if_true,aF,dU]at hx'
   split at hx'
   ·exact .inl hx'.symm
   ·rename_i hg
    subst hx'
    by_cases hgo:x = .gone
    ·subst hgo;exact .inl rfl
    by_cases hrt':sK x=true
    ·refine .inr ⟨x,rfl,.inr rfl,fun b hb=>?_⟩
     have:=g.blk i x hx
     cases x<;>simp only[sK]at hrt'<;>try (cases hrt';done)
     simp only[BR]at this
     simp[Cf.ft,this.1,this.2.1]at hb
    have hg:i∉gs:=fun h=>hg ⟨h,by simpa using hrt'⟩
    refine .inr ⟨x,rfl,.inr rfl,fun b hb=>?_⟩
    have hk:=sb.kept g (hgs i hg hi) hx hgo hb
    refine⟨by rw[uf.base.2 b hk.1 hk.2,sb.h0],bM hk.1 uf.base.1,fun hw=>?_,fun _=>hk⟩
    rw[sU]at hw;cases hw
 ·intro B B' x x' b hx hx' hw hw' hm hm'
  rw[iJ]at hx
  obtain⟨x0,h0,rfl⟩:=aZ.1 hx
  simp only[if_true]at hw
  split at hw
  ·cases hw
  ·rw[sU]at hw;cases hw
 ·intro B x hx hw
  rw[iJ]at hx
  obtain⟨x0,h0,rfl⟩:=aZ.1 hx
  simp only[if_true]at hw
  split at hw
  ·cases hw
  ·rw[sU]at hw;cases hw
 ·intro q hq i B h
  obtain⟨x0,hB,ho⟩:=hobj q hq
  rw[iJ,hB]at h
  simp only[cK,aD,if_true]at h
  split at h
  ·cases h
  ·rw[On h]at ho;cases ho
end
theorem enter {R:lL} {c:Cf} (g:GH R c) {u:kY} {L:Lo} {O:Oo} (hu:tI c u L O) (ok:u.ok c.H=true) (R1:lL)
 (hR:R1 = { p:=R.p,N:=c.h.length,O0:=fun b=>∃B x,c.H[B]? = some x/\B∈u.own++u.frz++u.obj/\x.wr=true/\b∈c.ft B,h0:=c.h,Z0:=oV c u }):
 Vs R c (u.own++u.frz++u.obj) R1/\R1.uf (oV c u) c.h L O:=by
 have uf:=Cx g hu ok
 have ok':=ok
 simp only[kY.ok,aF,lQ,bE,dU,iA,decide_eq_false_iff_not,Jj]at ok'
 obtain⟨⟨⟨k1,k2⟩,k3⟩,k4⟩:=ok'
 have sb:Vs R c (u.own++u.frz++u.obj) R1:=by
  subst hR
  refine⟨rfl,rfl,rfl,fun b=>Iff.rfl,fun b hb=>.inl hb,fun b hb=>?_⟩
  rcases hb with hb|⟨B,hB,hm⟩
  ·exact .inl hb
  ·obtain⟨⟨⟨x,h1,h2⟩,_⟩,_⟩:=k3 B hB
   exact .inr ⟨B,x,h1,by simp[hB],h2,hm⟩
 refine⟨sb,fun b hb=>⟨.inl ?_,(uf.own b hb).2⟩,uf.ownN,fun q hq=>⟨.inl ?_,(uf.obj q hq).2⟩,uf.objN,uf.objI,⟨by rw[hR];exact aK _,fun b _ _=>by rw[hR]⟩,fun b hz=>⟨(uf.zb b hz).1,.inl (by rw[hR];exact hz)⟩,fun b hb=>by rw[hR]at hb;exact hb⟩
 ·replace hb:=hu.own.mem_iff.1 hb
  obtain⟨B,hB,hm⟩:=dS.1 hb
  obtain⟨x,h1,h2⟩:=hu.w B hB
  exact(sb.O0 b).2 ⟨B,x,h1,by simp[hB],h2,hm⟩
 ·obtain⟨h1,_,cs,h2⟩:=hu.o q hq
  exact(sb.O0 _).2 ⟨q.1,_,h2,by rw[<-hu.obj];simp only[aE];exact .inr (bI.2 ⟨q,hq,rfl⟩),rfl,Cf.ft_m h1⟩
theorem objm {c c2:Cf} (le:Le c c2) {u:kY} {L:Lo} {O:Oo} (hu:tI c2 u L O) (hobj:∀q∈O,∃x0,c.H[q.1]? = some x0/\wY x0=true):∀q∈O,c.m q.1=some q.2:=fun q hq=>by
 obtain⟨x0,h,_⟩:=hobj q hq
 obtain⟨h1,_⟩:=hu.o q hq
 rw[<-(le.H _ _ h).1];exact h1
theorem Nt {c c2:Cf} (le:Le c c2) (u:kY):Ns c.Z (oV c2 u) c.h c2.h:=⟨fun b hb=>.inl (le.Z.z b hb),le.Z.h⟩
end Go.Ideal
namespace Go.Ideal
theorem Ch {call:Nat->List IV->aN->Option (IV×aN)} {opn:Nat->Bool}:∀{a b:List cH} {s:St},dL call opn (a++b) s=(dL call opn a s).bind fun s=>dL call opn b s
 |[],b,s=>rfl
 |it::a,b,s=>by
  simp only[cG,dL]
  cases fL call opn it s with
  |none=>rfl
  |some s1=>simp only[aB];exact Ch
theorem Mf {call:Nat->List IV->aN->Option (IV×aN)} {opn:Nat->Bool}:∀{bs:List DB} {s:St},bs.all (fun b=>b.cs.isEmpty)=true->pI call opn bs s=dL call opn (bs.flatMap fun b=>b.w::b.qs) s
 |[],s,_=>rfl
 |b::r,s,h=>by
  simp only[gD,aF,Rq]at h
  simp only[pI,eG,cG,dL,Ch]
  cases fL call opn b.w s with
  |none=>rfl
  |some s1=>
   simp only[aB,h.1,pC,List.all_nil,if_true]
   cases dL call opn b.qs s1 with
   |none=>rfl
   |some s2=>simp only[aB];exact Mf h.2
structure Uy (T:List dP) (TI:List SV) (σ:Fr) (c:Cf) (i:Nat) (y:gZ×List dP×List (Nat×Nat)) (TJ:List SV):Prop where
 len:TJ.length=y.2.1.length
 T:∀(j:Nat) a,y.2.1[j]? = some a->∃sv,TJ[j]? = some sv/\cY c a sv
 tl:∀s∈TJ,∀n o,s≠SV.lptr n o
 fr:∀t v,y.1.get t=some v->((∀k,v≠.cst k)/\∃sv,σ.get t=some sv/\cY c v sv)\/∃j sv,v = .cst (i+j)/\TJ[j]? = some sv/\σ.get t=some sv
 pos:∀t k,(t,k)∈y.2.2->∃j sv,k=i+j/\TJ[j]? = some sv/\σ.get t=some sv
theorem Uy.cons {T:List dP} {TI:List SV} {σ:Fr} {c:Cf} {i:Nat} {y:gZ×List dP×List (Nat×Nat)} {TJ:List SV} (h:Uy T TI σ c (i+1) y TJ) {t:Nat} {a:dP} {sv:SV} (ha:σ.get t=some sv) (hv:cY c a sv) (hb:∀n o,sv≠.lptr n o):
 Uy T TI σ c i ((t,.cst i)::y.1,a::y.2.1,(t,i)::y.2.2) (sv::TJ):=by
 refine⟨by simp[h.len],fun j b hj=>?_,fun s hs=>?_,fun t' v hv'=>?_,fun t' k hk=>?_⟩
 ·cases j with
  |zero=>simp at hj;subst hj;exact⟨sv,rfl,hv⟩
  |succ j=>simpa using h.T j b (by simpa using hj)
 ·rcases aQ.1 hs with rfl|hs
  ·exact hb
  ·exact h.tl s hs
 ·simp only[gZ.get]at hv'
  split at hv'
  ·rename_i e;subst e
   simp at hv';subst hv'
   exact .inr ⟨0,sv,rfl,rfl,ha⟩
  ·rcases h.fr t' v hv' with h1|⟨j,s,h1,h2,h3⟩
   ·exact .inl h1
   ·exact .inr ⟨j+1,s,by rw[h1];congr 1;omega,by simpa using h2,h3⟩
 ·simp only[aQ,aM]at hk
  rcases hk with ⟨rfl,rfl⟩|hk
  ·exact⟨0,sv,rfl,rfl,ha⟩
  ·obtain⟨j,s,h1,h2,h3⟩:=h.pos t' k hk
   exact⟨j+1,s,by omega,by simpa using h2,h3⟩
theorem Uy.raw {T:List dP} {TI:List SV} {σ:Fr} {c:Cf} {i:Nat} {y:gZ×List dP×List (Nat×Nat)} {TJ:List SV} (h:Uy T TI σ c i y TJ) {t:Nat} {a:dP} {sv:SV} (ha:σ.get t=some sv) (hv:cY c a sv) (hc:∀k,a≠.cst k):
 Uy T TI σ c i ((t,a)::y.1,y.2) TJ:=by
 refine⟨h.len,h.T,h.tl,fun t' v hv'=>?_,h.pos⟩
 simp only[gZ.get]at hv'
 split at hv'
 ·rename_i e;subst e
  simp at hv';subst hv'
  exact .inl ⟨hc,sv,ha,hv⟩
 ·exact h.fr t' v hv'
section
variable {T:List dP} {TI:List SV} {c:Cf} {fr:gZ} {σ:Fr} (g:GF T TI c fr σ)
include g
theorem nC (raw:List Nat):∀(l:gZ) (i:Nat),∃TJ,Uy T TI σ c i (kS T fr raw l i) TJ/\∀t,(kS T fr raw l i).1.get t=none->l.get t=none\/∀cs,σ.get t≠some (.box cs)
 |[],i=>⟨[],⟨rfl,by simp[kS],by simp,by simp[kS,gZ.get],by simp[kS]⟩,fun t _=>.inl rfl⟩
 |(t,v0)::r,i=>by
  have none':∀{y:gZ},(∀t',y.get t'=none->gZ.get r t'=none\/∀cs,σ.get t'≠some (.box cs))->∀v1,∀t',(gZ.get ((t,v1)::y) t'=none->gZ.get ((t,v0)::r) t'=none\/∀cs,σ.get t'≠some (.box cs)):=by
   intro y hy v1 t' h
   simp only[gZ.get]at h |-
   split at h
   ·cases h
   ·rename_i hne;rw[if_neg hne];exact hy t' h
  simp only[kS]
  split
  ·rename_i a ha
   obtain⟨sv,h1,h2⟩:=fS g ha
   split
   ·obtain⟨TJ,h3,h4⟩:=nC raw r i
    exact⟨TJ,h3.raw h1 h2 (by simp),none' h4 _⟩
   ·obtain⟨TJ,h3,h4⟩:=nC raw r (i+1)
    exact⟨sv::TJ,h3.cons h1 h2 (by rintro n o rfl;simp[cY]at h2),none' h4 _⟩
  ·rename_i a ha
   obtain⟨sv,h1,h2⟩:=fS g ha
   split
   ·obtain⟨TJ,h3,h4⟩:=nC raw r i
    exact⟨TJ,h3.raw h1 h2 (by simp),none' h4 _⟩
   ·obtain⟨TJ,h3,h4⟩:=nC raw r (i+1)
    exact⟨sv::TJ,h3.cons h1 h2 (by rintro n o rfl;simp[cY]at h2),none' h4 _⟩
  ·rename_i hn1 hn2
   obtain⟨TJ,h3,h4⟩:=nC raw r i
   refine⟨TJ,h3,fun t' h=>?_⟩
   simp only[gZ.get]
   by_cases e:t=t'
   ·subst e
    rw[if_pos rfl]
    right
    intro cs hcs
    have:=g.fr t
    cases hf:fr.get t with
    |none=>rw[hf]at this;exact this cs hcs
    |some a=>
     rw[hf]at this
     cases a with
     |val a=>exact hn1 a (by simp[mF,hf])
     |box a=>exact hn2 a (by simp[mF,hf])
     |lptr n o=>
      obtain⟨s,h1,h2⟩:=this
      rw[hcs]at h1;injection h1 with h1;subst h1;simp[cY]at h2
     |cst k=>
      obtain⟨s,h1,h2⟩:=this
      rw[hcs]at h1;injection h1 with h1;subst h1
      have hl:=cF h2
      rw[g.len]at hl
      obtain⟨s',h5,h6⟩:=g.T k _ (aG hl)
      rw[h2]at h5;injection h5 with h5;subst h5
      have ha:mF T fr t=some (T[k]):=by simp[mF,hf,aG hl]
      cases hTk:T[k] with
      |val a=>exact hn1 a (by rw[ha,hTk])
      |box a=>exact hn2 a (by rw[ha,hTk])
      |lptr _ _=>rw[hTk]at h6;simp[cY]at h6
      |cst _=>rw[hTk]at h6;simp[cY]at h6
   ·rw[if_neg e];exact h4 t' h
theorem gF:∀(l:nY) (i:Nat),∃TJ,Uy T TI σ c i (lC T fr l i) TJ
 |[],i=>⟨[],⟨rfl,by simp[lC],by simp,by simp[lC,gZ.get],by simp[lC]⟩⟩
 |(t,k)::r,i=>by
  cases k with
  |keep=>
   simp only[lC]
   split
   ·rename_i a ha
    obtain⟨sv,h1,h2⟩:=fS g ha
    obtain⟨TJ,h3⟩:=gF r (i+1)
    exact⟨sv::TJ,h3.cons h1 h2 (by rintro n o rfl;simp[cY]at h2)⟩
   ·rename_i a ha
    obtain⟨sv,h1,h2⟩:=fS g ha
    obtain⟨TJ,h3⟩:=gF r (i+1)
    exact⟨sv::TJ,h3.cons h1 h2 (by rintro n o rfl;simp[cY]at h2)⟩
   ·exact gF r i
  |val=>exact gF r i
  |own=>exact gF r i
  |box=>exact gF r i
  |obj=>exact gF r i
  |ow=>exact gF r i
  |root=>exact gF r i
  |groot=>exact gF r i
  |agw=>exact gF r i
end
theorem tW {T:List dP} {TI:List SV} {σ:Fr} {c:Cf} {y:gZ×List dP×List (Nat×Nat)} {TJ:List SV} (h:Uy T TI σ c 0 y TJ) {t i:Nat} (e:pF y.2.2 t=some i):∃sv,TJ[i]? = some sv/\σ.get t=some sv:=by
 unfold pF at e
 obtain⟨q,h1,rfl⟩:=aZ.1 e
 have h2:=List.mem_of_find?_eq_some h1
 have h3:=List.find?_some h1
 simp only[beq_iff_eq]at h3
 obtain⟨j,sv,h4,h5,h6⟩:=h.pos q.1 q.2 h2
 simp only[bV]at h4
 exact⟨sv,by rw[h4];exact h5,by rw[<-h3];exact h6⟩
theorem zY {T:List dP} {pos:Nat->Option Nat} {base:Nat->Option dP} {chk:Bool} {st:gJ} {sh:nY} {x:(cW sh.hs).den×kY} (e:Nr T pos base chk st sh=some x):
 ∃d,Ng T pos base chk st sh=some (d,x.2)/\x.1=tX d/\x.2.ok st.H=true/\Ee T st.fr sh=true:=by
 unfold Nr at e
 obtain⟨y,e1,e⟩:=aA.1 e
 split at e
 ·rename_i h
  simp only[aF]at h
  simp at e;subst e
  exact⟨y.1,e1,rfl,h.1,h.2⟩
 ·cases e
theorem uW {Rr:Type} {T:List dP} {pos:Nat->Option Nat} {base base':Nat->Option dP} {ex:Ex} {st:gJ} {H:eB} {k:Ex->gJ->Option Rr} {r:Rr}:∀{xs:List (Ex×nY)} {v:XT xs},Hb T pos base ex st xs=some v->Ij base' H xs v k=some r->
 ∃sh x y,Nr T pos base true st sh=some x/\inv base' sh x.1 H=some y/\k ex y=some r
 |[],v,e,_=>by simp[Hb]at e
 |[x],v,e,e'=>by
  simp only[Hb]at e
  split at e
  ·rename_i hx;subst hx
   obtain⟨y,e1,e⟩:=aA.1 e
   injection e with e;subst e
   simp only[Ij]at e'
   obtain⟨z,e2,e'⟩:=aA.1 e'
   exact⟨x.2,y,z,e1,e2,e'⟩
  ·cases e
 |x::w::xs,v,e,e'=>by
  simp only[Hb]at e
  split at e
  ·rename_i hx;subst hx
   obtain⟨y,e1,e⟩:=aA.1 e
   injection e with e;subst e
   simp only[Ij]at e'
   obtain⟨z,e2,e'⟩:=aA.1 e'
   exact⟨x.2,y,z,e1,e2,e'⟩
  ·obtain⟨z,e1,e⟩:=aA.1 e
   injection e with e;subst e
   simp only[Ij]at e'
   exact uW e1 e'
theorem zQ {T:List dP} {TI:List SV} {c:Cf} {st:gJ} {σ:Fr} (g:GF T TI c st.fr σ) {sh:nY} (h:Ee T st.fr sh=true) {t:Nat} (hn:∀q∈sh,q.1=t->Yp q.2=true):∀cs,σ.get t≠some (.box cs):=by
 intro cs hcs
 have hf:=pL g (t:=t)
 have h0:=g.fr t
 cases hg:st.fr.get t with
 |none=>rw[hg]at h0;exact h0 cs hcs
 |some a=>
  have hm:∃v,(t,v)∈st.fr:=by
   have:∀{l:gZ} {v},l.get t=some v->∃v,(t,v)∈l:=by
    intro l
    induction l with
    |nil=>intro v h;cases h
    |cons p l ih=>
     intro v h
     obtain⟨q,w⟩:=p
     simp only[gZ.get]at h
     split at h
     ·rename_i e;subst e;exact⟨w,by simp⟩
     ·obtain⟨v',hv'⟩:=ih h;exact⟨v',by simp[hv']⟩
   exact this hg
  obtain⟨v,hv⟩:=hm
  have:=bE.1 h _ hv
  simp only[cV,kF,aF,beq_iff_eq]at this
  rcases this with h1|⟨q,hq,e,hg⟩
  ·have:=hf h1
   unfold bF at this
   rw[hcs]at this;cases this
  ·have:=hn q hq e
   revert hg this
   cases q.2<;>simp[Yp]
section
variable {prog:Nat->Option mO} {opn:Nat->Bool} {cs:Nat->Option Ct} {ety:Nat->Option Ty} {icall:∀R:Type,Nat->List AV->eB->(AV->eB->Option R)->Option R}
def Ai (prog:Nat->Option mO) (opn:Nat->Bool) (cs:Nat->Option Ct) (ety:Nat->Option Ty) (icall:∀R:Type,Nat->List AV->eB->(AV->eB->Option R)->Option R) (code:iH):Prop:=
 ∀{Rr:Type} {T:List dP} {st:gJ} {k:Ex->gJ->Option Rr} {r:Rr},aC cs opn ety icall (fun _ _=>cL) code T st k=some r->
  ∀{R:lL} {TI:List SV} {c:Cf} {s:St},G R T TI c st s->
   ∃ex s',Dz prog opn code.erase s=some (ex,s')/\∃st' c',G R T TI c' st' s'/\Le c c'/\k ex st'=some r
variable (hcs:∀f ct,cs f=some ct->hQ prog opn f ct) (hic:∀R,mY prog opn (icall R))
include hcs hic
def Ua (TI:List SV) (c:Cf):dP->Option SV->Prop:=fun a v=>match a with
    |.cst i=>∃sv,v=some sv/\TI[i]? = some sv
    |a=>∃sv,v=some sv/\cY c a sv
omit hcs hic in
theorem Tz {TI:List SV} {c c1:Cf} (le:Le c c1) {a:dP} {v:Option SV} (h:Ua TI c a v):FR TI c1 (some a) v:=by
 cases a with
 |cst i=>exact h
 |val _=>obtain⟨sv,h1,h2⟩:=h;exact⟨sv,h1,h2.le le⟩
 |box _=>obtain⟨sv,h1,h2⟩:=h;exact⟨sv,h1,h2.le le⟩
 |lptr _ _=>obtain⟨sv,h1,h2⟩:=h;exact⟨sv,h1,h2.le le⟩
omit hcs hic in
theorem Kj {R:lL} {c:Cf} (g:GH R c) {t B:Nat} {o:kT} (h:iF c.H t=some (.val (.ptr B o))):∃x0,c.H[B]? = some x0/\(x0 = .gone\/wY x0=true):=by
 unfold iF at h
 split at h
 ·obtain⟨B',h1,h2⟩:=aZ.1 h
  injection h2 with h2;injection h2 with h2;subst h2
  obtain⟨_,_,y,h3,h4⟩:=g.ro' h1
  refine⟨y,h3,?_⟩
  cases y<;>simp only at h4<;>first|exact .inl rfl|exact .inr rfl
 ·cases h
omit hcs hic in
theorem Oy {c:Cf} {B:Nat} {o:kT} {iv:IV} (h:lV c B o iv):∃x0,c.H[B]? = some x0/\(x0 = .gone\/wY x0=true):=by
 unfold lV at h
 cases hB:c.H[B]? with
 |none=>rw[hB]at h;exact h.elim
 |some x=>
  rw[hB]at h
  refine⟨x,rfl,?_⟩
  cases x<;>simp only at h<;>first|exact .inl rfl|exact .inr rfl
theorem yU {R R1:lL} {T T':List dP} {TI TJ:List SV} {c c2:Cf} {st st2:gJ} {s s2:St} {gv:List Nat} (g:G R T TI c st s) (sb:Vs R c gv R1) (g2:G R1 T' TJ c2 st2 s2) (le:Le c c2) {pos:Nat->Option Nat}
 (hpos:∀t i,pos t=some i->∃sv,TJ[i]? = some sv/\s.1.get t=some sv) {sh:nY} {x:(cW sh.hs).den×kY} {y:gJ} (e:Nr T' pos (mJ T st.H st.fr) true st2 sh=some x) (e2:inv (mJ T st.H st.fr) sh x.1 (eL gv false 0 st.H)=some y) (hro:tP st.H st2.H=true):
 ∃c3,G R T TI c3 y s2/\Le c c3:=by
 obtain⟨d,e1,e3,ok,hbx⟩:=zY e
 rw[e3]at e2
 simp only[inv,mB]at e2
 have base1:∀{t},t<pG->mJ T st.H st.fr t=match st.fr.get t with
  |some (.cst i)=>some (.cst i)
  |_=>mF T st.fr t:=fun {t} ht=>by
  have:iF st.H t=none:=by unfold iF;rw[if_neg (by omega)]
  unfold mJ;rw[this];rfl
 have bfk:∀t a,t<pG->mJ T st.H st.fr t=some a->Ua TI c a (s.1.get t):=by
  intro t a ht ha
  rw[base1 ht]at ha
  split at ha
  ·rename_i i hi
   simp at ha;subst ha
   have:=g.gf.fr t
   rw[hi]at this
   exact this
  ·obtain⟨sv,h1,h2⟩:=fS g.gf ha
   cases a with
   |cst i=>cases sv<;>simp[cY]at h2
   |val _=>exact⟨sv,h1,h2⟩
   |box _=>exact⟨sv,h1,h2⟩
   |lptr _ _=>exact⟨sv,h1,h2⟩
 have hk:∀t,t<pG->(∃i,st2.fr.get t=some (.cst i)/\pos t=some i)->∀a,mJ T st.H st.fr t=some a->Ua TI c a (s2.1.get t):=by
  rintro t ht ⟨i,h1,h2⟩ a ha
  obtain⟨sv,h3,h4⟩:=hpos t i h2
  have:=g2.gf.fr t
  rw[h1]at this
  obtain⟨sv2,h7,h8⟩:=this
  rw[h3]at h8;injection h8 with h8;subst h8
  have:=bfk t a ht ha
  rw[h4]at this
  rw[h7];exact this
 obtain⟨L,O,f,hu⟩:=rZ (fk:=Ua TI c) (Z:=oV c2 x.2) g2.gh.blk (fun b hb=>.inl hb) g2.H g2.gf hk (.inl rfl) e1 (fun B hB b hm=>.inr ⟨B,hB,hm⟩)
 have hobj:∀q∈O,∃x0,c.H[q.1]? = some x0/\wY x0=true:=fun q hq=>by
  obtain⟨t,ht⟩:=sG f q hq
  have key:∃x0,c.H[q.1]? = some x0/\(x0 = .gone\/wY x0=true):=by
   by_cases hg:pG≤t
   ·have h1:mJ T st.H st.fr t=(iF st.H t).orElse fun _=>_:=rfl
    cases hgo:iF st.H t with
    |none=>
     unfold mJ at ht
     rw[hgo]at ht
     simp only[nZ]at ht
     have:∃sv,s.1.get t=some sv/\cY c (.val (.ptr q.1 (.st 0))) sv:=by
      split at ht
      ·cases ht
      ·exact fS g.gf ht
     obtain⟨sv,_,h2⟩:=this
     cases sv<;>simp only[cY,Va]at h2
     exact Oy h2.2
    |some a=>
     unfold mJ at ht
     rw[hgo]at ht
     simp only[Option.orElse_some,aD]at ht;subst ht
     rw[<-g.H]at hgo
     exact Kj g.gh hgo
   ·obtain⟨sv,h1,h2⟩:=bfk t _ (by omega) ht
    cases sv<;>simp only[cY,Va]at h2
    exact Oy h2.2
  obtain⟨x0,h1,rfl|h2⟩:=key
  ·have:=le.gone h1
   obtain⟨_,_,cs,h3⟩:=hu.o q hq
   rw[this]at h3;cases h3
  ·exact⟨x0,h1,h2⟩
 rw[<-g2.H]at ok
 have rs:=Ft g.gh sb (Cx g2.gh hu ok) (Nt le x.2) le.rt (fun i b h=>by obtain⟨j,B,h⟩:=g2.gh.rtd i b h;rw[g2.H]at h;rw[g.H];exact Dc hro h) (objm le hu hobj) hobj
 rw[<-g.H]at e2
 have hp:c2.p=c.p:=le.p
 rw[hp]at f
 rw[g.H]at rs e2
 obtain⟨c3,hc3,g3,le3,h3⟩:=De rs f e2
 refine⟨c3,⟨g3,by rw[hc3],by rw[hc3];exact g2.h,⟨fun t=>?_,g.gf.len,fun i a h=>?_,g.gf.tl⟩⟩,le3⟩
 ·rcases h3 TI (fun a v hv=>Tz le3 hv) t with h|⟨h,h'⟩
  ·exact h
  ·rw[h];exact zQ g2.gf hbx h'
 ·obtain⟨sv,h1,h2⟩:=g.gf.T i a h
  exact⟨sv,h1,h2.le le3⟩
theorem Tq {raw:List Nat} {exits:List (Ex×nY)} {cd:iH} (ih:Ai prog opn cs ety icall cd):Ai prog opn cs ety icall (.join raw exits cd):=by
 intro Rr T st k r e R TI c s g
 simp only[aC]at e
 obtain⟨v,e1,e2⟩:=aA.1 e
 obtain⟨TJ,hC,hN⟩:=nC g.gf raw st.fr 0
 let gv:=raw.flatMap (Ps T st)
 let R1:lL:={ p:=R.p,N:=c.h.length,O0:=fun b=>∃B x,c.H[B]? = some x/\B∈gv/\x.wr=true/\b∈c.ft B,h0:=c.h,Z0:=c.Z }
 have sb:Vs R c gv R1:=⟨rfl,rfl,rfl,fun b=>Iff.rfl,fun b h=>h,fun b h=>.inl h⟩
 let c1:Cf:={ c with H:=Ap gv 0 st.H }
 have hget:∀(i:Nat) x',c1.H[i]? = some x'->∃x,c.H[i]? = some x/\((i∈gv/\x'=x)\/(i∉gv/\x'=Bj x)):=fun i x' h=>by
  simp only[c1]at h
  rw[tR,<-g.H]at h
  obtain⟨x,h1,h2⟩:=aZ.1 h
  simp only[bV,iA,decide_eq_true_eq]at h2
  split at h2
  ·rename_i hm;exact⟨x,h1,.inl ⟨hm,h2.symm⟩⟩
  ·rename_i hm;exact⟨x,h1,.inr ⟨hm,h2.symm⟩⟩
 have le1:Le c c1:=by
  refine⟨rfl,fun B x hB=>⟨rfl,?_⟩,⟨fun _ h=>h,fun _ _=>rfl⟩,fun _ _ h=>h⟩
  have:c1.H[B]? = some (if gv.contains (0+B) then x else Bj x):=by
   simp only[c1];rw[tR,<-g.H,hB];rfl
  refine⟨_,this,?_⟩
  split
  ·exact eD.rfl' _ x
  ·exact Cl _ x
 have gh1:GH R1 c1:=by
  refine⟨g.gh.p,?_,?_,?_,?_,?_,?_,⟨aK _,fun b _ _=>rfl⟩,fun b hb=>⟨(g.gh.zb b hb).1,.inl hb⟩,fun b hb=>hb,fun i b h=>?_⟩
  ·intro B x' hB
   obtain⟨x,h1,h2⟩:=hget B x' hB
   have:=(g.gh.blk B x h1).le le1 (fun _ _=>rfl)
   rcases h2 with ⟨_,rfl⟩|⟨_,rfl⟩
   ·exact this
   ·exact Rx this
  ·intro B B' x x' b hB hB' hw hw' hm hm'
   obtain⟨x0,h1,h2⟩:=hget B x hB
   obtain⟨x1,h3,h4⟩:=hget B' x' hB'
   rcases h2 with ⟨_,rfl⟩|⟨_,rfl⟩
   ·rcases h4 with ⟨_,rfl⟩|⟨_,rfl⟩
    ·exact g.gh.inj B B' _ _ b h1 h3 hw hw' hm hm'
    ·rw[sU]at hw';cases hw'
   ·rw[sU]at hw;cases hw
  ·intro B x hB hw
   obtain⟨x0,h1,h2⟩:=hget B x hB
   rcases h2 with ⟨h,rfl⟩|⟨_,rfl⟩
   ·exact g.gh.nd B x h1 hw
   ·rw[sU]at hw;cases hw
  ·intro B x b hB hw hm
   obtain⟨x0,h1,h2⟩:=hget B x hB
   rcases h2 with ⟨h,rfl⟩|⟨_,rfl⟩
   ·exact⟨.inl ⟨B,x,h1,h,hw,hm⟩,(g.gh.wr B x b h1 hw hm).2⟩
   ·rw[sU]at hw;cases hw
  ·intro B x b hB hw hg hm
   obtain⟨x0,h1,h2⟩:=hget B x hB
   rcases h2 with ⟨h,rfl⟩|⟨h,rfl⟩
   ·refine⟨g.gh.lt B x b h1 hg hm,?_⟩
    rintro⟨B',x',h3,h4,h5,h6⟩
    have h7:=g.gh.ro B x b h1 hw hg hm
    rcases (g.gh.wr B' x' b h3 h5 h6).1 with h8|h8
    ·exact h7.2 h8
    ·omega
   ·exact sb.kept g.gh h h1 (by intro e;subst e;exact hg rfl) hm
  ·intro B x b hB hg hm
   obtain⟨x0,h1,h2⟩:=hget B x hB
   refine g.gh.lt B x0 b h1 (fun e=>?_) hm
   subst e
   rcases h2 with ⟨_,rfl⟩|⟨_,rfl⟩<;>exact hg rfl
  ·obtain⟨j,B,h⟩:=g.gh.rtd i b h
   refine⟨j,B,?_⟩
   simp only[c1];rw[tR,<-g.H,h];simp[Bj]
 have g1:G R1 (kS T st.fr raw st.fr 0).2.1 TJ c1 ⟨(kS T st.fr raw st.fr 0).1,Ap gv 0 st.H⟩ s:=by
  refine⟨gh1,rfl,g.h,⟨fun t=>?_,hC.len,fun i a h=>?_,hC.tl⟩⟩
  ·cases h:(kS T st.fr raw st.fr 0).1.get t with
   |none=>
    rcases hN t h with h|h
    ·have:=g.gf.fr t;rw[h]at this;exact this
    ·exact h
   |some v=>
    rcases hC.fr t v h with ⟨h1,sv,h2,h3⟩|⟨j,sv,rfl,h2,h3⟩
    ·cases v with
     |cst k=>exact(h1 k rfl).elim
     |val _=>exact⟨sv,h2,h3.le le1⟩
     |box _=>exact⟨sv,h2,h3.le le1⟩
     |lptr _ _=>exact⟨sv,h2,h3.le le1⟩
    ·exact⟨sv,h3,by rw[bV];exact h2⟩
  ·obtain⟨sv,h1,h2⟩:=hC.T i a h
   exact⟨sv,h1,h2.le le1⟩
 obtain⟨ex,s',h1,st2,c2,g2,le2,h2⟩:=ih e1 g1
 have hro:tP st.H st2.H=true:=by
  split at h2
  ·assumption
  ·cases h2
 rw[if_pos hro]at h2
 obtain⟨sh,x,y,h3,h4,h5⟩:=uW h2 e2
 obtain⟨c3,g3,le3⟩:=yU hcs hic g sb g2 (le1.trans le2) (fun t i hp=>tW hC hp) h3 h4 hro
 exact⟨ex,s',h1,y,c3,g3,le3,h5⟩
end
end Go.Ideal
namespace Go.Ideal
section
variable {prog:Nat->Option mO} {opn:Nat->Bool} {cs:Nat->Option Ct} {ety:Nat->Option Ty} {icall:∀R:Type,Nat->List AV->eB->(AV->eB->Option R)->Option R}
variable (hcs:∀f ct,cs f=some ct->hQ prog opn f ct) (hic:∀R,mY prog opn (icall R))
include hcs hic
theorem Tn {head:nY} {exits:List (Ex×nY)} {cd:iH} (ih:Ai prog opn cs ety icall cd):Ai prog opn cs ety icall (.loop head exits cd):=by
 intro Rr T st k r e R TI c s g
 simp only[aC]at e
 obtain⟨x,e1,e⟩:=aA.1 e
 obtain⟨v,e2,e3⟩:=aA.1 e
 obtain⟨TJ,hC⟩:=gF g.gf head 0
 generalize hks:lC T st.fr head 0=ks at *
 generalize hbh:(fun t=>match pF ks.2.2 t with|some i=>some (dP.cst i)|none=>(iF st.H t).orElse fun _=>mF T st.fr t)=bh at *
 have bh_eq:∀t,bh t=match pF ks.2.2 t with|some i=>some (dP.cst i)|none=>(iF st.H t).orElse fun _=>mF T st.fr t:=fun t=>by rw[<-hbh]
 let fk:dP->Option SV->Prop:=fun a v=>match a with
  |.cst i=>∃sv,v=some sv/\TJ[i]? = some sv
  |a=>∃sv,v=some sv/\cY c a sv
 have fk0:∀t a,t<pG->bh t=some a->fk a (s.1.get t):=by
  intro t a ht ha
  rw[bh_eq]at ha
  cases hp:pF ks.2.2 t with
  |some i=>
   rw[hp]at ha;simp at ha;subst ha
   obtain⟨sv,h1,h2⟩:=tW hC hp
   exact⟨sv,h2,h1⟩
  |none=>
   have hg:iF st.H t=none:=by unfold iF;rw[if_neg (by omega)]
   rw[hp]at ha
   simp only[hg,nZ]at ha
   obtain⟨sv,h1,h2⟩:=fS g.gf ha
   cases a with
   |cst i=>cases sv<;>simp[cY]at h2
   |val _=>exact⟨sv,h1,h2⟩
   |box _=>exact⟨sv,h1,h2⟩
   |lptr _ _=>exact⟨sv,h1,h2⟩
 have fkFR:∀{c1},Le c c1->∀a v,fk a v->FR TJ c1 (some a) v:=by
  intro c1 le a v h
  cases a with
  |cst i=>exact h
  |val _=>obtain⟨sv,h1,h2⟩:=h;exact⟨sv,h1,h2.le le⟩
  |box _=>obtain⟨sv,h1,h2⟩:=h;exact⟨sv,h1,h2.le le⟩
  |lptr _ _=>obtain⟨sv,h1,h2⟩:=h;exact⟨sv,h1,h2.le le⟩
 have bobj:∀{t B},bh t=some (.val (.ptr B (.st 0)))->c.H[B]?≠some .gone->∃x0,c.H[B]? = some x0/\wY x0=true:=by
  intro t B h hg
  have key:∃x0,c.H[B]? = some x0/\(x0 = .gone\/wY x0=true):=by
   rw[bh_eq]at h
   cases hp:pF ks.2.2 t with
   |some i=>rw[hp]at h;cases h
   |none=>
    rw[hp]at h
    cases hgo:iF st.H t with
    |none=>
     simp only[hgo,nZ]at h
     obtain⟨sv,h1,h2⟩:=fS g.gf h
     cases sv<;>simp only[cY,Va]at h2
     exact Oy h2.2
    |some a=>
     simp only[hgo,Option.orElse_some,aD]at h;subst h
     rw[<-g.H]at hgo
     exact Kj g.gh hgo
  obtain⟨x0,h1,rfl|h2⟩:=key
  ·exact(hg h1).elim
  ·exact⟨x0,h1,h2⟩
 obtain⟨d,a1,a2,ok,hbx⟩:=zY e1
 obtain⟨L,O,f,hu⟩:=rZ (fk:=fk) (Z:=oV c x.2) g.gh.blk (fun b hb=>.inl hb) g.H g.gf (fun t ht _=>fun a=>fk0 t a ht) (.inr fk0) a1 (fun B hB b hm=>.inr ⟨B,hB,hm⟩)
 rw[<-g.H]at ok
 obtain⟨sb,uf⟩:=enter g.gh hu ok _ rfl
 generalize hR1:({ p:=R.p,N:=c.h.length,O0:=fun b=>∃B x0,c.H[B]? = some x0/\B∈x.2.own++x.2.frz++x.2.obj/\x0.wr=true/\b∈c.ft B,h0:=c.h,Z0:=oV c x.2 }:lL)=R1 at *
 have hobjs:O.map Prod.fst=lB bh head:=xP f
 have gsOk:∀(O2:Oo),O2.map Prod.fst=lB bh head->∀i,i∉x.2.own++x.2.frz->i∉O2.map Prod.fst->i∉x.2.own++x.2.frz++x.2.obj:=fun O2 h i h1 h2=>by
  rw[h,<-hobjs,hu.obj]at h2
  simp only[aE,not_or]at h1 |-
  exact⟨h1,h2⟩
 have hobj1:∀q∈O,∃x0,c.H[q.1]? = some x0/\wY x0=true:=fun q hq=>by
  obtain⟨_,_,cs,h⟩:=hu.o q hq;exact⟨_,h,rfl⟩
 have rs:=goOn g.gh sb uf (Nt (Le.refl c) x.2) (fun _ _ h=>h) g.gh.rtd (fun q hq=>(hu.o q hq).1) hobj1 (gsOk O hobjs)
 have mk:∀{y:gJ} {si:(cW head.hs).den} {s2:St} {Z3:Nat->Prop} {rt3:Nat->Option Nat} {d:DL head.hs} {L:Lo} {O:Oo},Rsh R1 c (eL (x.2.own++x.2.frz) true 0 c.H) Z3 s2.2 rt3 L O->SF c.p Z3 s2.2 rt3 s2.1 bh fk head d L O->si=tX d->
  (∀t,(∀q∈head,q.1=t->Yp q.2=true)->∀cs,s2.1.get t≠some (.box cs))->inv bh head si (eL (x.2.own++x.2.frz) true 0 st.H)=some y->∃c1,G R1 ks.2.1 TJ c1 y s2/\Le c c1:=by
  intro y si s2 Z3 rt3 d L O rs f hsi hbx e
  subst hsi
  simp only[inv,mB]at e
  rw[<-g.H]at e
  obtain⟨c1,hc1,g1,le1,h1⟩:=De rs f e
  refine⟨c1,⟨g1,by rw[hc1],by rw[hc1],⟨fun t=>?_,hC.len,fun i a h=>?_,hC.tl⟩⟩,le1⟩
  ·rcases h1 TJ (fkFR le1) t with h|⟨h,h'⟩
   ·exact h
   ·rw[h];exact hbx t h'
  ·obtain⟨sv,h2,h3⟩:=hC.T i a h
   exact⟨sv,h2,h3.le le1⟩
 have main:∀(n:Nat) (si:(cW head.hs).den) (s2:St),(∀y,inv bh head si (eL (x.2.own++x.2.frz) true 0 st.H)=some y->∃c1,G R1 ks.2.1 TJ c1 y s2/\Le c c1)->
  ∀F,F=(fun s=>(inv bh head s (eL (x.2.own++x.2.frz) true 0 st.H)).bind fun st1=>
   aC cs opn ety icall (fun _ _=>cL) cd ks.2.1 st1 (R:=(cW head.hs).den⊕XT exits) fun ex st'=>match ex with
    |.normal=>if tP st.H st'.H then (Nr ks.2.1 (pF ks.2.2) bh true st' head).bind fun y=>some (.inl y.1) else none
    |ex=>if tP st.H st'.H then (Hb ks.2.1 (pF ks.2.2) (mJ T st.H st.fr) ex st' exits).bind fun y=>some (.inr y) else none)->nM F n si=some v->
  ∃ex s',lI (Dz prog opn cd.erase) s2=some (ex,s')/\∃st' c',G R T TI c' st' s'/\Le c c'/\k ex st'=some r:=by
  intro n
  induction n with
  |zero=>intro si s2 _ F _ h;simp[nM]at h
  |succ n ihn=>
   intro si s2 hs2 F hF h
   simp only[nM]at h
   obtain⟨res,h1,h2⟩:=aA.1 h
   rw[hF]at h1
   obtain⟨y,h3,h4⟩:=aA.1 h1
   obtain⟨c1,g1,le1⟩:=hs2 y h3
   obtain⟨ex,s3,h5,st3,c3,g3,le3,h6⟩:=ih h4 g1
   rw[qX,h5]
   have le03:=le1.trans le3
   cases ex with
   |normal=>
    simp only at h6
    have hro:tP st.H st3.H=true:=by
     split at h6
     ·assumption
     ·cases h6
    rw[if_pos hro]at h6
    obtain⟨y2,h7,h8⟩:=aA.1 h6
    injection h8 with h8;subst h8
    simp only at h2
    simp only[aB]
    refine ihn y2.1 s3 (fun z hz=>?_) F hF h2
    obtain⟨d2,b1,b2,ok2,hbx2⟩:=zY h7
    have hk:∀t,t<pG->(∃i,st3.fr.get t=some (.cst i)/\pF ks.2.2 t=some i)->∀a,bh t=some a->fk a (s3.1.get t):=by
     rintro t ht ⟨i,q1,q2⟩ a ha
     rw[bh_eq,q2]at ha;simp at ha;subst ha
     have:=g3.gf.fr t
     rw[q1]at this
     exact this
    obtain⟨L2,O2,f2,hu2⟩:=rZ (fk:=fk) (Z:=oV c3 y2.2) g3.gh.blk (fun b hb=>.inl hb) g3.H g3.gf hk (.inl rfl) b1 (fun B hB b hm=>.inr ⟨B,hB,hm⟩)
    rw[<-g3.H]at ok2
    have hobj2:∀q∈O2,∃x0,c.H[q.1]? = some x0/\wY x0=true:=fun q hq=>by
     obtain⟨t,ht⟩:=sG f2 q hq
     refine bobj ht fun hg=>?_
     have:=le03.gone hg
     obtain⟨_,_,cs',h3⟩:=hu2.o q hq
     rw[this]at h3;cases h3
    have rs2:=goOn g.gh sb (Cx g3.gh hu2 ok2) (Nt le03 y2.2) le03.rt (fun i b h=>by obtain⟨j,B,h⟩:=g3.gh.rtd i b h;rw[g3.H]at h;rw[g.H];exact Dc hro h) (objm le03 hu2 hobj2) hobj2 (gsOk O2 (xP f2))
    rw[le03.p]at f2
    rw[g3.h]at rs2 f2
    exact mk rs2 f2 b2 (fun t ht=>zQ g3.gf hbx2 ht) hz
   |exit i=>
    simp only at h6
    have hro:tP st.H st3.H=true:=by
     split at h6
     ·assumption
     ·cases h6
    rw[if_pos hro]at h6
    obtain⟨v',h7,h8⟩:=aA.1 h6
    injection h8 with h8;subst h8
    simp only[aD]at h2;subst h2
    obtain⟨sh,xx,yy,q1,q2,q3⟩:=uW h7 e3
    obtain⟨c4,g4,le4⟩:=yU hcs hic g sb g3 le03 (fun t i hp=>tW hC hp) q1 q2 hro
    exact⟨.exit i,s3,rfl,yy,c4,g4,le4,q3⟩
   |ret=>
    simp only at h6
    have hro:tP st.H st3.H=true:=by
     split at h6
     ·assumption
     ·cases h6
    rw[if_pos hro]at h6
    obtain⟨v',h7,h8⟩:=aA.1 h6
    injection h8 with h8;subst h8
    simp only[aD]at h2;subst h2
    obtain⟨sh,xx,yy,q1,q2,q3⟩:=uW h7 e3
    obtain⟨c4,g4,le4⟩:=yU hcs hic g sb g3 le03 (fun t i hp=>tW hC hp) q1 q2 hro
    exact⟨.ret,s3,rfl,yy,c4,g4,le4,q3⟩
 obtain⟨n,hn⟩:=pX.1 e2
 rw[g.h]at rs f
 exact main n x.1 s (fun y hy=>mk rs f a2 (fun t ht=>zQ g.gf hbx ht) hy) _ rfl hn
theorem refine_ok {cd:iH} (ih:Ai prog opn cs ety icall cd) (t o:Nat) (kd:IntKind) (i:Int):Ai prog opn cs ety icall (.refine t o kd i cd):=by
 intro Rr T st k r e R TI c s g
 simp only[aC]at e
 split at e<;>try (cases e;done)
 rename_i B _ _
 split at e<;>try (cases e;done)
 rename_i wr cs hB
 split at e<;>try (cases e;done)
 rename_i pre kd' x post hs
 split at e<;>try (cases e;done)
 rename_i hk
 subst hk
 obtain⟨hx,e'⟩:=dZ.1 e
 clear e;have e:=e';clear e'
 rw[decide_eq_true_eq]at hx
 subst hx
 have hcs:=(jE hs).1
 have hset:st.H.set B (.obj wr (pre++.int kd' x::post))=st.H:=by
  rw[<-hcs]
  obtain⟨h1,h2⟩:=aJ.1 hB
  rw[<-h2];exact lG h1
 rw[hset]at e
 exact ih e g
omit hcs hic in
theorem splitN_some {R:Type} {x:Int} {f:Int->Option R} {r:R}:∀{is:List Int},splitN x f is=some r->f x=some r
 |[],e=>by cases e
 |i::is,e=>by
  simp only[splitN]at e
  by_cases h:x=i
  ·subst h;simpa using e
  ·simp only[h,decide_false,cond_false]at e;exact splitN_some e
theorem split_ok {cd:iH} (ih:Ai prog opn cs ety icall cd) (t o:Nat) (kd:IntKind) (is:List Int):Ai prog opn cs ety icall (.split t o kd is cd):=by
 intro Rr T st k r e R TI c s g
 simp only[aC]at e
 split at e<;>try (cases e;done)
 rename_i cs hx
 split at e<;>try (cases e;done)
 rename_i pre kd' x post hs
 split at e<;>try (cases e;done)
 rename_i hk
 subst hk
 have e':=splitN_some e
 clear e;have e:=e';clear e'
 have hcs:=(jE hs).1
 rw[show pre++AV.int kd' x::post=cs from hcs.symm]at e
 refine ih e ?_
 obtain⟨iv,h1,h2⟩:=dV g.gf hx
 refine⟨g.gh,g.H,g.h,⟨fun t'=>?_,g.gf.len,g.gf.T,g.gf.tl⟩⟩
 simp only[gZ.put,gZ.get]
 split
 ·rename_i ht;subst ht
  refine⟨.val iv,?_,by simp only[cY];exact h2⟩
  simp only[SX.val]at h1
  split at h1
  ·rename_i v hv
   injection h1 with h1;subst h1
   simp only[SX.ev]at hv
   split at hv
   ·cases hv
   ·exact hv
  ·cases h1
 ·exact g.gf.fr t'
theorem unr_ok {cd:iH} (ih:Ai prog opn cs ety icall cd) (n:Nat):Ai prog opn cs ety icall (.unr n cd):=by
 intro Rr T st k r e R TI c s g
 simp only[aC]at e
 have key:∀(n:Nat) {st:gJ} {c:Cf} {s:St},unrN (fun st k=>aC cs opn ety icall (fun _ _=>cL) cd T st k) n st k=some r->G R T TI c st s->
  ∃ex s',lI (Dz prog opn cd.erase) s=some (ex,s')/\∃st' c',G R T TI c' st' s'/\Le c c'/\k ex st'=some r:=by
  intro n
  induction n with
  |zero=>intro st c s e _;simp[unrN]at e
  |succ n ihn=>
   intro st c s e g
   simp only[unrN]at e
   obtain⟨ex,s1,h1,st1,c1,g1,le1,h2⟩:=ih e g
   rw[qX,h1]
   cases ex with
   |normal=>
    obtain⟨ex,s2,h3,st2,c2,g2,le2,h4⟩:=ihn h2 g1
    exact⟨ex,s2,h3,st2,c2,g2,le1.trans le2,h4⟩
   |exit i=>exact⟨_,_,rfl,st1,c1,g1,le1,h2⟩
   |ret=>exact⟨_,_,rfl,st1,c1,g1,le1,h2⟩
 obtain⟨ex,s',h1,h2⟩:=key n e g
 exact⟨ex,s',by simp only[Dz,iH.erase,fB]at h1 |-;exact h1,h2⟩
theorem Vr (code:iH):Ai prog opn cs ety icall code:=by
 induction code with
 |skip=>
  intro Rr T st k r e R TI c s g
  simp only[aC]at e
  exact⟨.normal,s,rfl,st,c,g,Le.refl c,e⟩
 |reg its live=>
  intro Rr T st k r e R TI c s g
  simp only[aC]at e
  obtain⟨s1,h1,st1,c1,g1,le1,e1⟩:=Kv hcs (hic Rr) g e
  exact⟨.normal,(s1.1.keep live,s1.2),by simp only[Dz,iH.erase,fB,h1,aB],{ st1 with fr:=st1.fr.keep live },c1,⟨g1.gh,g1.H,g1.h,Gd g1.gf live⟩,le1,e1⟩
 |drw q0 bs live=>
  intro Rr T st k r e R TI c s g
  simp only[aC]at e
  split at e
  ·rename_i hc
   obtain⟨s1,h1,st1,c1,g1,le1,e1⟩:=Re hcs (hic Rr) g (by simp) e
   refine⟨.normal,(s1.1.keep live,s1.2),?_,{ st1 with fr:=st1.fr.keep live },c1,⟨g1.gh,g1.H,g1.h,Gd g1.gf live⟩,le1,e1⟩
   have df:∀{its:List cH},zX T st.fr its=true->mW s.1 its=true:=by
    intro its h
    unfold zX at h
    unfold mW
    rw[bE]at h |-
    intro it hit
    have:=h it hit
    cases hd:it.dst with
    |none=>rfl
    |some t=>rw[hd]at this;exact pL g.gf this
   have h2:=df hc
   simp only[Vj,mW,List.all_append,aF,List.all_flatMap]at h2
   have:(mW s.1 q0&&bs.all fun b=>mW s.1 (b.w::b.qs))=true:=by
    simp only[mW,aF];exact h2
   simp only[Dz,iH.erase,fB,zI]
   rw[if_pos this,<-Xt,h1];rfl
  ·cases e
 |seq a b iha ihb=>
  intro Rr T st k r e R TI c s g
  simp only[aC]at e
  obtain⟨ex,s1,h1,st1,c1,g1,le1,e1⟩:=iha e g
  cases ex with
  |normal=>
   simp only at e1
   obtain⟨ex2,s2,h2,st2,c2,g2,le2,e2⟩:=ihb e1 g1
   refine⟨ex2,s2,?_,st2,c2,g2,le1.trans le2,e2⟩
   simp only[Dz,iH.erase,fB]at h1 h2 |-
   rw[h1];exact h2
  |exit i=>
   refine⟨.exit i,s1,?_,st1,c1,g1,le1,e1⟩
   simp only[Dz,iH.erase,fB]at h1 |-
   rw[h1];rfl
  |ret=>
   refine⟨.ret,s1,?_,st1,c1,g1,le1,e1⟩
   simp only[Dz,iH.erase,fB]at h1 |-
   rw[h1];rfl
 |cond cx a b iha ihb=>
  intro Rr T st k r e R TI c s g
  simp only[aC]at e
  split at e
  ·rename_i b' hb
   obtain⟨iv,h1,h2⟩:=dV g.gf hb
   simp only[Va]at h2;subst h2
   cases b' with
   |true=>
    simp only[cond_true]at e
    obtain⟨ex,s1,h3,rest⟩:=iha e g
    refine⟨ex,s1,?_,rest⟩
    simp only[Dz,iH.erase,fB,h1,aB]at h3 |-
    exact h3
   |false=>
    simp only[cond_false]at e
    obtain⟨ex,s1,h3,rest⟩:=ihb e g
    refine⟨ex,s1,?_,rest⟩
    simp only[Dz,iH.erase,fB,h1,aB]at h3 |-
    exact h3
  ·cases e
 |block id a iha=>
  intro Rr T st k r e R TI c s g
  simp only[aC]at e
  obtain⟨ex,s1,h1,st1,c1,g1,le1,e1⟩:=iha e g
  simp only[Dz]at h1
  split at e1
  ·rename_i hx
   refine⟨.normal,s1,?_,st1,c1,g1,le1,e1⟩
   simp only[Dz,iH.erase,fB,h1,aB]
   rw[if_pos hx]
  ·rename_i hx
   refine⟨ex,s1,?_,st1,c1,g1,le1,e1⟩
   simp only[Dz,iH.erase,fB,h1,aB]
   rw[if_neg hx]
 |loop head exits a iha=>exact Tn hcs hic iha
 |unr n a iha=>exact unr_ok hcs hic iha n
 |refine t o kd i a iha=>exact refine_ok hcs hic iha t o kd i
 |split t o kd is a iha=>exact split_ok hcs hic iha t o kd is
 |exit i=>
  intro Rr T st k r e R TI c s g
  simp only[aC]at e
  exact⟨.exit i,s,rfl,st,c,g,Le.refl c,e⟩
 |ret=>
  intro Rr T st k r e R TI c s g
  simp only[aC]at e
  exact⟨.ret,s,rfl,st,c,g,Le.refl c,e⟩
 |bad=>
  intro Rr T st k r e R TI c s g
  simp only[aC]at e;cases e
 |prim p=>
  intro Rr T st k r e R TI c s g
  simp only[aC]at e;cases e
 |join raw exits a iha=>exact Tq hcs hic iha
end
end Go.Ideal
namespace Go.Ideal
structure gM where
 np:Nat
 res:List RV
 code:iH
 ety:List (Nat×Ty)
def gM.fn (a:gM):mO:=⟨a.np,a.res,a.code.erase⟩
def Vk (l:List (Nat×Ty)) (t:Nat):Option Ty:=(l.find? (·.1==t)).map (·.2)
def oQ (i:Nat):List AV->gZ
 |[]=>[]
 |v::vs=>(i,.val v)::oQ (i+1) vs
def Aq {R:Type} (st:gJ):List RV->(List AV->Option R)->Option R
 |[],k=>k []
 |.tmp t::r,k=>(av [] st.fr (.t t)).bind fun a=>Aq st r fun as=>k (a::as)
 |.cell t n::r,k=>(ax [] st.fr (.t t)).bind fun p=>match n with
  |none=>wE [] st p 1 fun cs=>match cs with
   |[v]=>if v.one then Aq st r fun as=>k (v::as) else none
   |_=>none
  |some n=>wE [] st p n fun cs=>Aq st r fun as=>k (.agg cs::as)
def oP:List AV->AV
 |[a]=>a
 |l=>.tup l
section
variable (cs:Nat->Option Ct) (opn:Nat->Bool) (lp:∀S X:Type,(S->Option (S⊕X))->S->Option X)
noncomputable def Hf (icall:∀R:Type,Nat->List AV->eB->(AV->eB->Option R)->Option R) {R:Type} (af:gM) (args:List AV) (H:eB) (k:List AV->gJ->Option R):Option R:=
 if args.length≤af.np then aC cs opn (Vk af.ety) icall lp af.code [] ⟨oQ 0 args,H⟩ fun ex st=>match ex with
  |.exit _=>none
  |_=>Aq st af.res fun as=>k as st
 else none
noncomputable def inl (fns:Nat->Option gM):Nat->∀R:Type,Nat->List AV->eB->(AV->eB->Option R)->Option R
 |0,_,_,_,_,_=>none
 |n+1,R,f,args,H,k=>(fns f).bind fun af=>Hf cs opn lp (inl fns n) af args H fun as st=>k (oP as) st.H
noncomputable def So (icall:∀R:Type,Nat->List AV->eB->(AV->eB->Option R)->Option R) (af:gM) (args res:List qL) (fresh:Bool) (x:(cW (args.map (·.t))).den):Option (cW (res.map (·.t))).den:=
 (Dl false true args x).bind fun as=>Hf cs opn lp icall af as [] fun rs st=>if fresh&&Dn st.H rs then none else Cy st.H res rs
noncomputable def runF (fns:Nat->Option gM) (n:Nat) (af:gM) (args res:List qL) (fresh:Bool) (x:(cW (args.map (·.t))).den):Option (cW (res.map (·.t))).den:=So cs opn lp (inl cs opn lp fns n) af args res fresh x
end
section
variable {prog:Nat->Option mO} {opn:Nat->Bool} {cs:Nat->Option Ct} {fns:Nat->Option gM}
theorem tU {Rr:Type} {R:lL} {TI:List SV} {c:Cf} {st:gJ} {s:St} (g:G R [] TI c st s):∀{rs:List RV} {k:List AV->Option Rr} {r:Rr},Aq st rs k=some r->∃as ivs,k as=some r/\dM (iM s) rs=some ivs/\jP c as ivs
 |[],k,r,e=>⟨[],[],e,rfl,rfl⟩
 |.tmp t::rs,k,r,e=>by
  simp only[Aq]at e
  obtain⟨a,e1,e⟩:=aA.1 e
  obtain⟨iv,h1,h2⟩:=dV g.gf e1
  obtain⟨as,ivs,h3,h4,h5⟩:=tU g e
  exact⟨a::as,iv::ivs,h3,by simp[dM,iM,h1,h4],⟨iv,ivs,rfl,h2,h5⟩⟩
 |.cell t n::rs,k,r,e=>by
  simp only[Aq]at e
  obtain⟨p,e1,e⟩:=aA.1 e
  obtain⟨sv,h1,h2⟩:=kA g.gf e1
  cases n with
  |none=>
   simp only at e
   obtain⟨out,ivs,h3,h4,h5⟩:=rY g h2 e
   split at h3
   ·split at h3
    ·rename_i v hv
     rw[dB.single]at h5
     obtain⟨iv,rfl,_,h6⟩:=(eT hv).1 h5
     obtain⟨as,ivs',h7,h8,h9⟩:=tU g h3
     exact⟨v::as,iv::ivs',h7,by simp[dM,iM,h1,h4,h8],⟨iv,ivs',rfl,h6,h9⟩⟩
    ·cases h3
   ·cases h3
  |some n=>
   simp only at e
   obtain⟨out,ivs,h3,h4,h5⟩:=rY g h2 e
   obtain⟨as,ivs',h7,h8,h9⟩:=tU g h3
   exact⟨.agg out::as,.agg ivs::ivs',h7,by simp[dM,iM,h1,h4,h8],⟨.agg ivs,ivs',rfl,by simp only[Va];exact⟨_,rfl,h5⟩,h9⟩⟩
theorem zU {c:Cf}:∀{as:List AV} {ivs:List IV} {i:Nat},jP c as ivs->∀t,FR [] c ((oQ i as).get t) ((fA i ivs).get t)
 |[],ivs,i,h,t=>by simp only[jP]at h;subst h;simp[oQ,fA,gZ.get,Fr.get,FR]
 |a::as,ivs,i,h,t=>by
  simp only[jP]at h
  obtain⟨u,v,rfl,h1,h2⟩:=h
  simp only[oQ,fA,gZ.get,Fr.get]
  split
  ·exact⟨_,rfl,h1⟩
  ·exact zU h2 t
theorem Aa (hcs:∀f ct,cs f=some ct->hQ prog opn f ct) {icall:∀R:Type,Nat->List AV->eB->(AV->eB->Option R)->Option R} (hic:∀R,mY prog opn (icall R)) {Rr:Type} {af:gM} {f:Nat} (hf:prog f=some af.fn) {args:List AV} {H:eB} {k:List AV->gJ->Option Rr} {r:Rr}
 (e:Hf cs opn (fun _ _=>cL) icall af args H k=some r) {R:lL} {c:Cf} {ivs:List IV} (g:GH R c) (hH:c.H=H) (h:jP c args ivs):
 ∃(rs:List IV) (s':St),eC prog opn f ivs c.h=some (gK rs,s'.2)/\∃as st' c',GH R c'/\c'.h=s'.2/\c'.H=st'.H/\Le c c'/\jP c' as rs/\k as st'=some r:=by
 unfold Hf at e
 split at e
 ·rename_i hl
  have g0:G R [] [] c ⟨oQ 0 args,H⟩ (fA 0 ivs,c.h):=⟨g,hH,rfl,⟨zU h,rfl,by simp,by simp⟩⟩
  obtain⟨ex,s',h1,st',c',g',le,h2⟩:=Vr hcs hic af.code e g0
  have hst:start af.fn ivs=some (fA 0 ivs):=by
   unfold start;rw[if_pos];rw[h.len];exact hl
  have fin:∀(hx:∀i,ex≠.exit i) (h2:Aq st' af.res (fun as=>k as st')=some r),∃(rs:List IV) (s':St),eC prog opn f ivs c.h=some (gK rs,s'.2)/\∃as st' c',GH R c'/\c'.h=s'.2/\c'.H=st'.H/\Le c c'/\jP c' as rs/\k as st'=some r:=by
   intro hx h2
   obtain⟨as,rs,h3,h4,h5⟩:=tU g' h2
   refine⟨rs,s',?_,as,st',c',g'.gh,g'.h,g'.H,le,h5,h3⟩
   rw[rI,hf]
   simp only[aB]
   rw[hst]
   simp only[aB]
   rw[show af.fn.body=af.code.erase from rfl,h1]
   simp only[aB,jU]
   cases ex with
   |exit i=>exact(hx i rfl).elim
   |normal=>exact(congrArg (fun z=>Option.bind z _) h4).trans rfl
   |ret=>exact(congrArg (fun z=>Option.bind z _) h4).trans rfl
  cases ex with
  |exit i=>cases h2
  |normal=>exact fin (by simp) h2
  |ret=>exact fin (by simp) h2
 ·cases e
theorem vM {c:Cf} {as:List AV} {rs:List IV} (h:jP c as rs):Va c (oP as) (gK rs):=by
 have hl:=h.len
 unfold oP
 split
 ·simp only[jP]at h
  obtain⟨u,v,rfl,h1,rfl⟩:=h
  exact h1
 ·rename_i hno
  refine⟨rs,?_,h⟩
  unfold gK
  split
  ·obtain⟨a,rfl⟩:=iS.1 hl.symm
   exact(hno a rfl).elim
  ·rfl
theorem Qf (hcs:∀f ct,cs f=some ct->hQ prog opn f ct) (hfns:∀f af,fns f=some af->prog f=some af.fn):∀(n:Nat) (R:Type),mY prog opn (inl cs opn (fun _ _=>cL) fns n R)
 |0,R=>by intro f args H k r e;simp[inl]at e
 |n+1,Rr=>by
  intro f args H k r e R c ivs g hH h
  simp only[inl]at e
  obtain⟨af,e1,e⟩:=aA.1 e
  obtain⟨rs,s',h1,as,st',c',g',hh,hH',le,hv,hk⟩:=Aa hcs (Qf hcs hfns n) (hfns f af e1) e g hH h
  exact⟨gK rs,s'.2,h1,oP as,c',g',hh,le,vM hv,by rw[hH'];exact hk⟩
def uQ (vs:List qL):Bool:=vs.all fun v=>decide (v.t.dep<18)
theorem Xr {h:aN} {d:Nat} {cs cs':List IV} (e:dM (fz h d) cs=some cs'):fz h (d+1) (.tup cs)=some (.tup cs'):=by
 unfold fz
 split
 ·simp[e]
 ·rename_i ho
  have hno:∀v∈cs,v.own=false:=by
   intro v hv
   simp only[IV.own,IV.ownL_eq]at ho
   rw[dT,cC]at ho
   simpa using ho v hv
  have:dM (fz h d) cs=some cs:=by
   clear e ho
   induction cs with
   |nil=>rfl
   |cons a l ih=>simp[dM,pZ (hno a (by simp)),ih (fun v hv=>hno v (by simp[hv]))]
  rw[this]at e;injection e with e;subst e;rfl
theorem Ju (hcs:∀f ct,cs f=some ct->hQ prog opn f ct) {icall:∀R:Type,Nat->List AV->eB->(AV->eB->Option R)->Option R} (hic:∀R,mY prog opn (icall R)) {f:Nat} {af:gM} (hf:prog f=some af.fn) {args res:List qL} {fresh:Bool} (hd:(uQ args&&uQ res)=true)
 {F:(cW (args.map (·.t))).den->Option (cW (res.map (·.t))).den} (hF:∀x r,F x=some r->So cs opn (fun _ _=>cL) icall af args res fresh x=some r):hQ prog opn f ⟨args,res,fresh,F⟩:=by
 simp only[aF,uQ,bE,decide_eq_true_eq]at hd
 refine⟨fun v hv=>Nat.lt_succ_of_lt (hd.1 v hv),fun p x ivs r hx hr=>?_⟩
 have e:=hF x r hr
 unfold So at e
 obtain⟨as,e1,e⟩:=aA.1 e
 let c:Cf:=⟨p,[],fun _=>none,Zn,[],fun _=>[],fun _=>none⟩
 let R:lL:=⟨p,0,fun _=>False,[],Zn⟩
 have g:GH R c:=by
  refine⟨rfl,?_,?_,?_,?_,?_,?_,⟨aK _,fun b hb=>absurd hb (Nat.not_lt_zero _)⟩,fun b hb=>hb.elim,fun b hb=>hb,fun i b h=>by simp[c]at h⟩
  ·intro B x h;simp[c]at h
  ·intro B B' x x' b h;simp[c]at h
  ·intro B x h;simp[c]at h
  ·intro B x b h;simp[c]at h
  ·intro B x b h;simp[c]at h
  ·intro B x b h;simp[c]at h
 have hv:jP c as ivs:=Dk (c:=c) e1 hx
 obtain⟨rs,s',h1,as',st',c',g',hh,hH,le,hv',hk⟩:=Aa hcs hic hf e g rfl hv
 split at hk
 ·cases hk
 ·rename_i hfr
  rw[<-hH]at hk hfr
  have hln:Dn c'.H as'=true->(!fresh)=true:=by
   intro h;rw[h,Hm]at hfr;simpa using hfr
  obtain⟨q18,k1,k2,_⟩:=xC g'.blk (d:=18) hk hv' (fun v hv=>hd.2 v hv)
  obtain⟨q19,k3,k4,_⟩:=xC g'.blk (d:=19) hk hv' (fun v hv=>Nat.lt_succ_of_lt (hd.2 v hv))
  have hp:c'.p=p:=le.p
  rw[hp]at k2 k4
  rw[hh]at k1 k3
  by_cases hone:∃v,rs=[v]
  ·obtain⟨v,rfl⟩:=hone
   obtain⟨w,h2,rfl⟩:=wO k3
   exact⟨_,_,w,h1,h2,[w],k4.flags hln id,rfl⟩
  ·have ht:gK rs = .tup rs:=by
    unfold gK;split
    ·exact(hone ⟨_,rfl⟩).elim
    ·rfl
   have hl:q18.length=rs.length:=by
    have:∀{l:List IV} {m:List IV},dM (fz s'.2 (18+1)) l=some m->m.length=l.length:=by
     intro l
     induction l with
     |nil=>intro m h;simp[dM]at h;subst h;rfl
     |cons a l ih=>
      intro m h
      simp only[dM]at h
      obtain⟨b,_,h⟩:=aA.1 h
      obtain⟨bs,h2,h⟩:=aA.1 h
      simp at h;subst h
      simp[ih h2]
    exact this k1
   have ht':gK q18 = .tup q18:=by
    unfold gK;split
    ·rename_i v
     obtain⟨a,ha⟩:=iS.1 hl.symm
     exact(hone ⟨a,ha⟩).elim
    ·rfl
   rw[ht]at h1
   exact⟨_,_,.tup q18,h1,Xr k1,q18,k2.flags hln id,ht'.symm⟩
theorem runF_ok (hcs:∀f ct,cs f=some ct->hQ prog opn f ct) (hfns:∀f af,fns f=some af->prog f=some af.fn) {f:Nat} {af:gM} (hf:prog f=some af.fn) {args res:List qL} {fresh:Bool} (hd:(uQ args&&uQ res)=true)
 {n:Nat} {F:(cW (args.map (·.t))).den->Option (cW (res.map (·.t))).den} (hF:∀x r,F x=some r->runF cs opn (fun _ _=>cL) fns n af args res fresh x=some r):hQ prog opn f ⟨args,res,fresh,F⟩:=Ju hcs (Qf hcs hfns n) hf hd hF
end
end Go.Ideal
namespace Go.Ideal
def kG {α:Type} (l:List (Nat×α)) (f:Nat):Option α:=match l with
 |[]=>none
 |(g,c)::r=>if Nat.beq f g=true then some c else kG r f
def gI (prog:Nat->Option mO) (opn:Nat->Bool):List (Nat×Ct)->Prop
 |[]=>True
 |(f,c)::r=>hQ prog opn f c/\gI prog opn r
theorem xT {prog:Nat->Option mO} {opn:Nat->Bool}:∀{l:List (Nat×Ct)},gI prog opn l->∀f ct,kG l f=some ct->hQ prog opn f ct
 |[],_,f,ct,h=>by simp[kG]at h
 |(g,c)::r,hl,f,ct,h=>by
  simp only[kG]at h
  split at h
  ·rename_i e;simp at h;subst h
   rw[lF e];exact hl.1
  ·exact xT hl.2 f ct h
def Cv (prog:Nat->Option mO):List (Nat×gM)->Prop
 |[]=>True
 |(f,a)::r=>prog f=some a.fn/\Cv prog r
theorem Iq {prog:Nat->Option mO}:∀{l:List (Nat×gM)},Cv prog l->∀f af,kG l f=some af->prog f=some af.fn
 |[],_,f,af,h=>by simp[kG]at h
 |(g,c)::r,hl,f,af,h=>by
  simp only[kG]at h
  split at h
  ·rename_i e;simp at h;subst h
   rw[lF e];exact hl.1
  ·exact Iq hl.2 f af h
theorem evalCt {prog:Nat->Option mO} {opn:Nat->Bool} {f:Nat} (n:Nat) (h:(match fK prog opn n f [] []with|some (.bool true,_)=>true|_=>false)=true):
 hQ prog opn f ⟨[],[⟨false,.bool⟩],true,fun _=>some true⟩:=by
 refine⟨by simp,fun p x ivs r hx hr=>?_⟩
 simp only[qM]at hx;subst hx
 injection hr with hr;subst hr
 split at h
 ·rename_i hh e
  exact⟨.bool true,hh,.bool true,(jV prog opn).2 ⟨n,e⟩,pZ rfl,[.bool true],⟨.bool true,[],rfl,(by simp only[TV];rw[if_neg (by simp)];exact rfl),rfl⟩,rfl⟩
 ·cases h
end Go.Ideal
namespace Go.Ideal
section
variable (P:Program)
def uM (f:TypeId->Option (List Ty)):List Field->Option (List Ty)
 |[]=>some []
 |fd::r=>(f fd.type).bind fun a=>(uM f r).bind fun b=>some (a++b)
def qB:Nat->TypeId->Option (List Ty)
 |0,_=>none
 |m+1,t=>match P.underlying t with
  |some .bool=>some [.bool]
  |some (.int k)=>some [.int k]
  |some .string=>some [.str]
  |some (.slice e)=>(qB m e).bind fun l=>some [.lst (cW l)]
  |some (.struct fs)=>uM (qB m) fs.toList
  |some (.array n e)=>(qB m e).bind fun l=>some [.arr n (cW l)]
  |_=>none
end
def Wf:(t:Ty)->t.den->Prop
 |.int k,n=>k.min≤n/\n≤k.max
 |.bool,_=>True
 |.str,s=>s.length≤maxLen
 |.unit,_=>True
 |.lst t,l=>l.length≤maxLen/\∀x∈l,Wf t x
 |.pair a b,x=>Wf a x.1/\Wf b x.2
 |.arr n t,l=>l.length=n/\∀x∈l,Wf t x
 |.ow _ t,x=>False
def jW (p:Bool) (ln:Bool):(l:List Ty)->DL l->List IV->Prop
 |[],_,cs=>cs=[]
 |t::r,x,cs=>∃u v,cs=u++v/\(TR p Zn [] ln t false x.1 u/\Wf t x.1)/\jW p ln r x.2 v
theorem jW.app {p ln:Bool}:∀{a b:List Ty} {x:DL a} {y:DL b} {u v:List IV},jW p ln a x u->jW p ln b y v->jW p ln (a++b) (DL.app x y) (u++v)
 |[],b,x,y,u,v,h,h'=>by simp only[jW]at h;subst h;exact h'
 |t::a,b,x,y,u,v,h,h'=>by
  simp only[jW]at h
  obtain⟨u1,u2,rfl,h1,h2⟩:=h
  exact⟨u1,u2++v,by simp,h1,jW.app h2 h'⟩
theorem jW.row {p ln:Bool}:∀{l:List Ty} {x:DL l} {u:List IV},jW p ln l x u->TR p Zn [] ln (cW l) false (tX x) u/\Wf (cW l) (tX x)
 |[],x,u,h=>by simp only[jW]at h;subst h;exact⟨rfl,trivial⟩
 |[t],x,u,h=>by
  simp only[jW]at h
  obtain⟨u1,u2,rfl,h1,rfl⟩:=h
  simpa [cW,tX]using h1
 |t::s::r,x,u,h=>by
  unfold jW at h
  obtain⟨u1,u2,rfl,h1,h2⟩:=h
  have ih:=jW.row h2
  exact⟨⟨u1,u2,rfl,h1.1,ih.1⟩,h1.2,ih.2⟩
theorem zJ {P:Program} {m:Nat} {p ln:Bool} (ih:∀(t:TypeId) (cs:List IV) (l:List Ty),Cw P m t cs->qB P m t=some l->∃x,jW p ln l x cs):
 ∀(fs:List Field) (cs:List IV) (l:List Ty),No (Cw P m) fs cs->uM (qB P m) fs=some l->∃x,jW p ln l x cs
 |[],cs,l,h,e=>by simp only[No]at h;subst h;simp only[uM,aD]at e;subst e;exact⟨(),rfl⟩
 |fd::r,cs,l,h,e=>by
  simp only[No]at h
  obtain⟨c1,c2,rfl,h1,h2⟩:=h
  simp only[uM]at e
  obtain⟨a,e1,e⟩:=aA.1 e
  obtain⟨b,e2,e⟩:=aA.1 e
  simp only[aD]at e;subst e
  obtain⟨x,hx⟩:=ih _ _ _ h1 e1
  obtain⟨y,hy⟩:=zJ ih r c2 b h2 e2
  exact⟨_,hx.app hy⟩
theorem rG {α β:Type} {r:α->β->Prop}:∀{es:List β},(∀e∈es,∃a,r a e)->∃l,dI r l es
 |[],_=>⟨[],trivial⟩
 |e::es,h=>by
  obtain⟨a,ha⟩:=h e (by simp)
  obtain⟨l,hl⟩:=rG (fun e he=>h e (by simp[he])) (es:=es)
  exact⟨a::l,ha,hl⟩
theorem dI.mem_l {α β:Type} {r:α->β->Prop}:∀{l:List α} {m:List β},dI r l m->∀a∈l,∃b,r a b
 |a::l,b::m,h,x,hx=>by
  rcases aQ.1 hx with rfl|hx
  ·exact⟨b,h.1⟩
  ·exact dI.mem_l h.2 x hx
 |[],[],_,x,hx=>by simp at hx
 |[],_::_,h,_,_=>h.elim
 |_::_,[],h,_,_=>h.elim
theorem Cj {P:Program} {p ln:Bool}:∀(m:Nat) (t:TypeId) (cs:List IV) (l:List Ty),Cw P m t cs->qB P m t=some l->∃x,jW p ln l x cs
 |0,t,cs,l,h,e=>by simp[qB]at e
 |m+1,t,cs,l,h,e=>by
  have ih:=Cj (P:=P) (p:=p) (ln:=ln) m
  unfold Cw at h
  unfold qB at e
  cases hu:P.underlying t with
  |none=>simp[hu]at e
  |some d=>
   simp only[hu]at h e
   cases d<;>simp only at h e<;>try (cases e;done)
   case bool=>
    simp only[aD]at e;subst e
    obtain⟨b,rfl⟩:=h
    exact⟨(b,()),[.bool b],[],rfl,⟨rfl,trivial⟩,rfl⟩
   case int k=>
    simp only[aD]at e;subst e
    obtain⟨n,rfl,hw⟩:=h
    refine⟨(n,()),[.int k n],[],rfl,⟨rfl,?_⟩,rfl⟩
    simpa [Lit.wf,Wf]using hw
   case string=>
    simp only[aD]at e;subst e
    obtain⟨s,rfl,hs⟩:=h
    exact⟨(s,()),[.str s],[],rfl,⟨rfl,hs⟩,rfl⟩
   case slice el=>
    obtain⟨l',e1,e⟩:=aA.1 e
    simp only[aD]at e;subst e
    rcases h with rfl|⟨es,rfl,hl,h⟩
    ·exact⟨([],()),[.nils],[],rfl,⟨⟨_,rfl,.inl ⟨rfl,.inl rfl⟩⟩,by simp[Wf]⟩,rfl⟩
    ·obtain⟨xs,hx⟩:=rG (r:=fun(x:(cW l').den) c=>TR p Zn [] ln (cW l') false x c/\Wf (cW l') x) (es:=es) (fun c hc=>by
      obtain⟨x,hx⟩:=ih el c l' (h c hc) e1
      exact⟨tX x,hx.row⟩)
     refine⟨(xs,()),[.ro false es],[],rfl,⟨⟨_,rfl,.inr (.inl ⟨false,es,rfl,by simp,hx.imp fun a b h=>h.1⟩)⟩,?_,fun x hm=>?_⟩,rfl⟩
     ·rw[<-hx.len];exact hl
     ·obtain⟨c,_,h2⟩:=hx.mem_l x hm;exact h2
   case struct fs=>exact zJ ih fs.toList cs l h e
   case array n el=>
    obtain⟨l',e1,e⟩:=aA.1 e
    simp only[aD]at e;subst e
    obtain⟨es,rfl,hl,h⟩:=h
    obtain⟨xs,hx⟩:=rG (r:=fun(x:(cW l').den) c=>TR p Zn [] ln (cW l') false x c/\Wf (cW l') x) (es:=es) (fun c hc=>by
     obtain⟨x,hx⟩:=ih el c l' (h c hc) e1
     exact⟨tX x,hx.row⟩)
    refine⟨(xs,()),es.flatten,[],by simp,⟨⟨es,rfl,hl,hx.imp fun a b h=>h.1⟩,?_,fun x hm=>?_⟩,rfl⟩
    ·rw[<-hx.len];exact hl
    ·obtain⟨c,_,h2⟩:=hx.mem_l x hm;exact h2
def Gx (P:Program) (m:Nat):List TypeId->Option (List qL)
 |[]=>some []
 |t::r=>(qB P m t).bind fun l=>(Gx P m r).bind fun vs=>some (⟨qC P t,cW l⟩::vs)
def WfA:(vs:List qL)->(cW (vs.map (·.t))).den->Prop
 |[],_=>True
 |v::vs,x=>Wf v.t (headD v.t (vs.map (·.t)) x)/\WfA vs (Jp v.t (vs.map (·.t)) x)
theorem Gq {P:Program} {p:Bool} {m:Nat}:∀(ts:List TypeId) (ivs:List IV) (vs:List qL),wK P m ts ivs->Gx P m ts=some vs->∃x,qM p Zn [] true false vs x ivs/\WfA vs x
 |[],ivs,vs,h,e=>by simp only[Gx,aD]at e;subst e;exact⟨(),h,trivial⟩
 |t::ts,ivs,vs,h,e=>by
  simp only[Gx]at e
  obtain⟨l,e1,e⟩:=aA.1 e
  obtain⟨vs',e2,e⟩:=aA.1 e
  simp only[aD]at e;subst e
  simp only[wK]at h
  obtain⟨iv,r,rfl,h1,h2⟩:=h
  obtain⟨y,hy,hw⟩:=Gq ts r vs' h2 e2
  obtain⟨cs,h3,h4⟩:=h1
  obtain⟨d,hd⟩:=Cj (p:=p) (ln:=true) m t cs l h3 e1
  have hrow:=hd.row
  refine⟨Kl _ _ (tX d) y,?_,?_⟩
  ·refine⟨iv,r,rfl,?_,?_⟩
   ·rw[qZ]
    unfold TV
    rcases h4 with ⟨ha,rfl⟩|⟨ha,rfl⟩
    ·rw[if_pos ha];exact⟨cs,rfl,hrow.1⟩
    ·rw[if_neg (by simp[ha])];exact hrow.1
   ·rw[qR];exact hy
  ·simp only[WfA]
   rw[qZ,qR];exact⟨hrow.2,hw⟩
theorem Tx {h:aN} {d:Nat} {iv:IV} {b:Bool} (e:fz h d iv=some (.bool b)):iv = .bool b:=by
 cases d with
 |zero=>
  unfold fz at e
  split at e
  ·cases e
  ·simpa using e
 |succ d=>
  unfold fz at e
  split at e
  ·rename_i ho
   cases iv<;>simp only[IV.own]at ho<;>try (cases ho;done)
   case lit=>simp at e
   all_goals simp only at e
   ·obtain⟨_,_,e⟩:=aA.1 e
    obtain⟨_,_,e⟩:=aA.1 e
    obtain⟨_,_,e⟩:=aA.1 e
    simp at e
   ·obtain⟨_,_,e⟩:=aA.1 e
    split at e
    ·obtain⟨_,_,e⟩:=aA.1 e
     simp at e
    ·cases e
   ·obtain⟨_,_,e⟩:=aA.1 e
    simp at e
   ·obtain⟨_,_,e⟩:=aA.1 e
    simp at e
   ·obtain⟨_,_,e⟩:=aA.1 e
    simp at e
   ·obtain⟨_,_,e⟩:=aA.1 e
    obtain⟨_,_,e⟩:=aA.1 e
    simp at e
  ·simpa using e
theorem law_of {P:Program} {prog:Nat->Option mO} {opn:Nat->Bool} {f m:Nat} {ct:Ct} {ts:List TypeId} (hc:hQ prog opn f ct) (hres:ct.res=[⟨false,.bool⟩]) (hargs:Gx P m ts=some ct.args)
 (law:∀x,WfA ct.args x->∃r,ct.F x=some r/\∀p iv,Av p (!ct.fresh) ct.res r iv->iv = .bool true):∀ivs,wK P m ts ivs->∃n h,fK prog opn n f ivs []=some (.bool true,h):=by
 intro ivs hi
 obtain⟨x,h1,h2⟩:=Gq (p:=true) ts ivs ct.args hi hargs
 obtain⟨r,h3,h4⟩:=law x h2
 obtain⟨iv,h',iv',h5,h6,h7⟩:=hc.ok true x ivs r h1 h3
 have:=h4 _ _ h7
 subst this
 have:=Tx h6
 subst this
 obtain⟨n,hn⟩:=(jV prog opn).1 h5
 exact⟨n,h',hn⟩
theorem bool_res {p ln:Bool} {r:Bool} {iv:IV} (h:Av p ln [⟨false,.bool⟩] r iv) (hr:r=true):iv = .bool true:=by
 obtain⟨ivs,h,rfl⟩:=h
 obtain⟨iv,rr,rfl,h1,rfl⟩:=h
 unfold TV at h1
 rw[if_neg (by simp)]at h1
 simp only[TR,headD,List.cons.injEq,and_true]at h1
 subst hr;exact h1
end Go.Ideal
namespace Go.Ideal
section
variable {S X A E:Type}
theorem iN {f:S->Option (S⊕X)} {s s':S} (h:f s=some (.inl s')):cL f s=cL f s':=by rw[uD,h];rfl
theorem fU {f:S->Option (S⊕X)} {s:S} {x:X} (h:f s=some (.inr x)):cL f s=some x:=by rw[uD,h];rfl
def sS (step:A->Nat->E->Option (A⊕X)) (fin:A->Option X):Nat->A->List E->Option X
 |_,a,[]=>fin a
 |i,a,e::r=>(step a i e).bind fun y=>match y with
  |.inl a'=>sS step fin (i+1) a' r
  |.inr x=>some x
theorem sP {l:List E} {f:S->Option (S⊕X)} {mk:A->Int->S} {step:A->Nat->E->Option (A⊕X)} {fin:A->Option X} (inv:Nat->A->Prop)
 (h1:∀a i e,l[i]? = some e->inv i a->f (mk a i)=(step a i e).map fun y=>match y with | .inl a'=>.inl (mk a' ((i+1:Nat):Int)) | .inr x=>.inr x)
 (hi:∀a i e a',l[i]? = some e->inv i a->step a i e=some (.inl a')->inv (i+1) a') (h2:∀a,inv l.length a->f (mk a l.length)=(fin a).map .inr):
 ∀(r:List E) (i:Nat) (a:A),l=l.take i++r->i+r.length=l.length->inv i a->cL f (mk a i)=sS step fin i a r
 |[],i,a,hl,hn,hv=>by
  simp only[iL,iR]at hn
  subst hn
  rw[uD,h2 a hv]
  simp only[sS]
  cases fin a<;>rfl
 |e::r,i,a,hl,hn,hv=>by
  have he:l[i]? = some e:=by
   have hlen:(l.take i).length=i:=by simp only[bP,eE]at hn |-;omega
   rw[hl,fH (by omega),hlen];simp
  rw[uD,h1 a i e he hv]
  simp only[sS]
  cases hs:step a i e with
  |none=>rfl
  |some y=>
   cases y with
   |inl a'=>
    simp only[cK,aB]
    refine sP inv h1 hi h2 r (i+1) a' ?_ (by simp only[eE]at hn;omega) (hi a i e a' he hv hs)
    have hlt:i<l.length:=by simp only[eE]at hn;omega
    have hg:l[i]=e:=by rw[aG hlt]at he;injection he
    conv=>lhs;rw[hl]
    rw[List.take_add_one,he];simp
   |inr x=>rfl
theorem uC {l:List E} {f:S->Option (S⊕X)} {mk:A->Int->S} {step:A->Nat->E->Option (A⊕X)} {fin:A->Option X} (inv:Nat->A->Prop)
 (h1:∀a i e,l[i]? = some e->inv i a->f (mk a i)=(step a i e).map fun y=>match y with | .inl a'=>.inl (mk a' ((i+1:Nat):Int)) | .inr x=>.inr x)
 (hi:∀a i e a',l[i]? = some e->inv i a->step a i e=some (.inl a')->inv (i+1) a') (h2:∀a,inv l.length a->f (mk a l.length)=(fin a).map .inr) {a:A} (h0:inv 0 a):
 cL f (mk a 0)=sS step fin 0 a l:=by
 have:=sP inv h1 hi h2 l 0 a (by simp) (by simp) h0
 simpa using this
def Jr (g:A->E->A):A->Nat->E->Option (A⊕X):=fun a _ e=>some (.inl (g a e))
theorem Bi {g:A->E->A} {fin:A->Option X}:∀{l:List E} {i:Nat} {a:A},sS (Jr g) fin i a l=fin (l.foldl g a)
 |[],_,_=>rfl
 |e::l,i,a=>by simp only[sS,Jr,aB,kZ];exact Bi
end
theorem iE {i:Nat} (h:i<2^62):IntKind.i64.wrap ((i:Int)+1)=((i+1:Nat):Int):=by
 rw[Go.IntWalk.i64_in _ (by omega)];rfl
theorem gU {α:Type} {l:List α} {i:Nat} {e:α} (h:l[i]? = some e):i<l.length:=(aJ.1 h).1
theorem cond_ite {α:Type} (p:Prop) [Decidable p] (a b:α):(bif decide p then a else b)=if p then a else b:=by by_cases h:p<;>simp[h]
end Go.Ideal
namespace Go.Ideal
def pE:Nat:=2000000
structure OC where
 n:Nat
 inn:nY
 out:nY
 cls:List (Nat×Nat)
 nres:Nat
 F:(cW inn.hs).den->Option (cW out.hs).den
def Ih:SK->Bool
 |.root _=>true
 |.groot _=>true
 |_=>false
def fE (sh:nY):List Nat:=(sh.filter (Ih ·.2)).map (·.1)
def yL:List Nat->Nat->Option Nat
 |[],_=>none
 |a::r,t=>if Nat.beq a t then some 0 else (yL r t).map (· + 1)
theorem Dg:∀{l:List Nat} {t j:Nat},yL l t=some j->l[j]? = some t
 |[],t,j,h=>by cases h
 |a::r,t,j,h=>by
  simp only[yL]at h
  split at h
  ·rename_i e;injection h with h;subst h
   simp[lF e]
  ·obtain⟨i,h1,rfl⟩:=aZ.1 h
   simpa using Dg h1
def jN (inn:nY) (t:Nat):Option dP:=(yL (fE inn) t).map fun j=>.val (.ptr j (.st 0))
theorem rJ {inn:nY} {t B:Nat} {o:kT} (h:jN inn t=some (.val (.ptr B o))):o = .st 0/\(fE inn)[B]? = some t:=by
 obtain⟨j,h1,h2⟩:=aZ.1 h
 injection h2 with h2;injection h2 with h2 h3
 subst h2
 exact⟨h3.symm,Dg h1⟩
def yW:SK->Bool
 |.val _ _ _=>true
 |.own _=>true
 |.ow _ _=>true
 |.agw _=>true
 |.root _=>true
 |.groot _=>true
 |_=>false
def Ty.rts:Ty->List Nat
 |.pair a b=>a.rts++b.rts
 |.ow (.root i) _=>[i]
 |.ow _ t=>t.rts
 |_=>[]
theorem uY {p:Bool} {Z:Nat->Prop} {h:aN} {rt rt':Nat->Option Nat}:∀{t:Ty} {x:t.den} {c:List IV} {L:Lo},(∀i∈t.rts,rt' i=rt i)->TF p Z h rt t x c L->TF p Z h rt' t x c L
 |.pair a b,x,c,L,hr,e=>by
  simp only[TF]at e |-
  obtain⟨u,v,M,N,rfl,rfl,h1,h2⟩:=e
  exact⟨u,v,M,N,rfl,rfl,uY (fun i hi=>hr i (by simp[Ty.rts,hi])) h1,uY (fun i hi=>hr i (by simp[Ty.rts,hi])) h2⟩
 |.ow .own t,x,c,L,hr,e=>by
  simp only[TF]at e |-
  obtain⟨iv,mb,f,rfl,rfl,h1,h2⟩:=e
  refine⟨iv,mb,f,rfl,rfl,h1,?_⟩
  cases mb with
  |none=>exact h2
  |some b=>
   obtain⟨es,Ms,h3,h4,rfl⟩:=h2
   exact⟨es,Ms,h3,h4.imp fun a e M hM g=>uY (fun i hi=>hr i (by simp[Ty.rts,hi])) g,rfl⟩
 |.ow .obj t,x,c,L,hr,e=>by
  simp only[TF]at e |-
  obtain⟨b,e,M,rfl,h1,h2,rfl⟩:=e
  exact⟨b,e,M,rfl,h1,uY (fun i hi=>hr i (by simp[Ty.rts,hi])) h2,rfl⟩
 |.ow .opt t,x,c,L,hr,e=>by
  simp only[TF]at e |-
  rcases e with e|⟨v,b,e,M,rfl,rfl,h1,h2,rfl⟩
  ·exact .inl e
  ·exact .inr ⟨v,b,e,M,rfl,rfl,h1,uY (fun i hi=>hr i (by simp[Ty.rts,hi])) h2,rfl⟩
 |.ow (.root i) t,x,c,L,hr,e=>by
  simp only[TF]at e |-
  rw[hr i (by simp[Ty.rts])];exact e
 |.int k,x,c,L,hr,e=>by simpa only[TF]using e
 |.bool,x,c,L,hr,e=>by simpa only[TF]using e
 |.str,x,c,L,hr,e=>by simpa only[TF]using e
 |.unit,x,c,L,hr,e=>by simpa only[TF]using e
 |.lst t,x,c,L,hr,e=>by simpa only[TF]using e
 |.arr n t,x,c,L,hr,e=>by simpa only[TF]using e
def SK.rts:SK->List Nat
 |.ow k t=>(Ty.ow k t).rts
 |.agw t=>t.rts
 |.root t=>t.rts
 |.groot t=>t.rts
 |_=>[]
def nY.rts (sh:nY):List Nat:=sh.flatMap (·.2.rts)
theorem Vt {p:Bool} {Z:Nat->Prop} {h:aN} {rt rt':Nat->Option Nat} {σ:Fr} {base:Nat->Option dP} {fk:dP->Option SV->Prop}:∀{sh:nY} {x:DL sh.hs} {L:Lo} {O:Oo},(∀i∈sh.rts,rt' i=rt i)->sh.all (yW ·.2)=true->SF p Z h rt σ base fk sh x L O->SF p Z h rt' σ base fk sh x L O
 |[],x,L,O,_,_,f=>f
 |(t,k)::r,x,L,O,hr,hk,f=>by
  obtain⟨L1,L2,O1,O2,rfl,rfl,f1,f2⟩:=f
  simp only[gD,aF]at hk
  refine⟨L1,L2,O1,O2,rfl,rfl,?_,Vt (fun i hi=>hr i (by simp only[nY.rts,eG,aE];exact .inr hi)) hk.2 f2⟩
  have hr:∀i∈k.rts,rt' i=rt i:=fun i hi=>hr i (by simp only[nY.rts,eG,aE];exact .inl hi)
  cases k with
  |keep=>cases hk.1
  |val=>exact f1
  |own=>exact f1
  |box=>cases hk.1
  |obj=>cases hk.1
  |agw u=>obtain⟨cs,h1,h2,h3⟩:=f1;exact⟨cs,h1,uY hr h2,h3⟩
  |ow k u=>obtain⟨iv,h1,h2,h3⟩:=f1;exact⟨iv,h1,uY hr h2,h3⟩
  |root u=>obtain⟨B,b,e,h1,h2,h3,h4,h5⟩:=f1;exact⟨B,b,e,h1,h2,h3,uY hr h4,h5⟩
  |groot u=>obtain⟨B,b,e,h1,h2,h4,h5⟩:=f1;exact⟨B,b,e,h1,h2,uY hr h4,h5⟩
theorem La {p:Bool} {Z:Nat->Prop} {h:aN} {rt rt':Nat->Option Nat} {σ:Fr} {base:Nat->Option dP} {fk:dP->Option SV->Prop} (hr:∀i b,rt i=some b->rt' i=some b):∀{sh:nY} {x:DL sh.hs} {L:Lo} {O:Oo},sh.all (yW ·.2)=true->SF p Z h rt σ base fk sh x L O->SF p Z h rt' σ base fk sh x L O
 |[],x,L,O,_,f=>f
 |(t,k)::r,x,L,O,hk,f=>by
  obtain⟨L1,L2,O1,O2,rfl,rfl,f1,f2⟩:=f
  simp only[gD,aF]at hk
  refine⟨L1,L2,O1,O2,rfl,rfl,?_,La hr hk.2 f2⟩
  have hz:Ns Z Z h h:=⟨fun _ h=>h,fun _ _=>rfl⟩
  cases k with
  |keep=>cases hk.1
  |val=>exact f1
  |own=>exact f1
  |box=>cases hk.1
  |obj=>cases hk.1
  |agw u=>obtain⟨cs,h1,h2,h3⟩:=f1;exact⟨cs,h1,TF.mono hz hr h2 fun _ _=>rfl,h3⟩
  |ow k u=>obtain⟨iv,h1,h2,h3⟩:=f1;exact⟨iv,h1,TF.mono hz hr h2 fun _ _=>rfl,h3⟩
  |root u=>obtain⟨B,b,e,h1,h2,h3,h4,h5⟩:=f1;exact⟨B,b,e,h1,h2,h3,TF.mono hz hr h4 fun _ _=>rfl,h5⟩
  |groot u=>obtain⟨B,b,e,h1,h2,h4,h5⟩:=f1;exact⟨B,b,e,h1,h2,TF.mono hz hr h4 fun _ _=>rfl,h5⟩
def Hk (base base':Nat->Option dP) (q q':Nat×Nat):Prop:=q'.2=q.2/\∃t,base t=some (.val (.ptr q.1 (.st 0)))/\base' t=some (.val (.ptr q'.1 (.st 0)))
theorem Je {p:Bool} {Z:Nat->Prop} {h:aN} {rt:Nat->Option Nat} {σ:Fr} {base base':Nat->Option dP} {fk fk':dP->Option SV->Prop}:∀{sh:nY} {x:DL sh.hs} {L:Lo} {O:Oo},sh.all (yW ·.2)=true->(∀t∈fE sh,∃B',base' t=some (.val (.ptr B' (.st 0))))->SF p Z h rt σ base fk sh x L O->
 ∃O',SF p Z h rt σ base' fk' sh x L O'/\dI (Hk base base') O O'
 |[],x,L,O,_,_,f=>by obtain⟨rfl,rfl⟩:=f;exact⟨[],⟨rfl,rfl⟩,trivial⟩
 |(t,k)::r,x,L,O,hk,hb,f=>by
  obtain⟨L1,L2,O1,O2,rfl,rfl,f1,f2⟩:=f
  simp only[gD,aF]at hk
  have hb2:∀t'∈fE r,∃B',base' t'=some (.val (.ptr B' (.st 0))):=fun t' ht=>hb t' (by
   unfold fE at ht |-
   rw[Rs]
   split
   ·simp only[eZ,aQ];exact .inr ht
   ·exact ht)
  have hb1:Ih k=true->∃B',base' t=some (.val (.ptr B' (.st 0))):=fun h=>hb t (by
   unfold fE
   rw[Rs,if_pos h];simp)
  obtain⟨O2',g2,g3⟩:=Je (fk':=fk') hk.2 hb2 f2
  have fin:∀O1',KF p Z h rt σ base' fk' t k x.fst L1 O1'->dI (Hk base base') O1 O1'->∃O',SF p Z h rt σ base' fk' ((t,k)::r) x (L1++L2) O'/\dI (Hk base base') (O1++O2) O':=
   fun O1' g g'=>⟨O1'++O2',⟨L1,L2,O1',O2',rfl,rfl,g,g2⟩,g'.app g3⟩
  cases k with
  |keep=>cases hk.1
  |val=>obtain⟨h1,h2,rfl⟩:=f1;exact fin [] ⟨h1,h2,rfl⟩ trivial
  |own=>obtain⟨iv,mb,h1,h2,h3,rfl⟩:=f1;exact fin [] ⟨iv,mb,h1,h2,h3,rfl⟩ trivial
  |box=>cases hk.1
  |obj=>cases hk.1
  |agw u=>obtain⟨cs,h1,h2,rfl⟩:=f1;exact fin [] ⟨cs,h1,h2,rfl⟩ trivial
  |ow k u=>obtain⟨iv,h1,h2,rfl⟩:=f1;exact fin [] ⟨iv,h1,h2,rfl⟩ trivial
  |root u=>
   obtain⟨B,b,e,h1,h2,h3,h4,rfl⟩:=f1
   obtain⟨B',hB'⟩:=hb1 rfl
   exact fin [(B',b)] ⟨B',b,e,hB',h2,h3,h4,rfl⟩ ⟨⟨rfl,t,h1,hB'⟩,trivial⟩
  |groot u=>
   obtain⟨B,b,e,h1,h2,h4,rfl⟩:=f1
   obtain⟨B',hB'⟩:=hb1 rfl
   exact fin [(B',b)] ⟨B',b,e,hB',h2,h4,rfl⟩ ⟨⟨rfl,t,h1,hB'⟩,trivial⟩
structure Sep (Z:Nat->Prop) (h:aN) (L:Lo) (O:Oo):Prop where
 own:∀b∈cS L,¬Z b/\b<h.length
 ownN:(cS L).Nodup
 obj:∀q∈O,¬Z q.2/\q.2∉cS L/\q.2<h.length
 objN:(O.map Prod.fst).Nodup
 objI:∀q∈O,∀q'∈O,q.2=q'.2->q.1=q'.1
 zb:∀b,Z b->b<h.length
structure RtI (rt:Nat->Option Nat) (base:Nat->Option dP) (cls:List (Nat×Nat)) (O:Oo):Prop where
 at_:∀q∈cls,∃B b,base q.2=some (.val (.ptr B (.st 0)))/\(B,b)∈O/\rt q.1=some b
 only:∀i b,rt i=some b->∃t,(i,t)∈cls
def Rz:dP->Option SV->Prop:=fun _ _=>False
def eU (prog:Nat->Option mO) (opn:Nat->Bool) (f:Nat) (oc:OC):Prop:=
 ∀(p:Bool) (Z:Nat->Prop) (h:aN) (rt:Nat->Option Nat) (ivs:List IV) (x:DL oc.inn.hs) (L:Lo) (O:Oo),ivs.length=oc.n->SF p Z h rt (fA 0 ivs) (jN oc.inn) Rz oc.inn x L O->Sep Z h L O->RtI rt (jN oc.inn) oc.cls O->
  ∀y,oc.F (tX x)=some y->∃(rs:List IV) (h':aN) (Z':Nat->Prop) (L':Lo) (O':Oo) (σ':Fr),eC prog opn f ivs h=some (gK rs,h')/\rs.length=oc.nres/\
   SF p Z' h' rt σ' (jN oc.inn) Rz oc.out (qQ y) L' O'/\(∀j r,rs[j]? = some r->σ'.get (pE+j)=some (.val r))/\(∀q∈O',q∈O)/\
   UF h.length (fun b=>b∈cS L\/∃q∈O,q.2=b) Z h Z' h' L' O'/\Ns Z Z' h h'
end Go.Ideal
namespace Go.Ideal
section
variable {R:Type}
def unfB (B:Nat) (H:eB) (k:eB->Option R):Option R:=match H[B]? with
 |some (.fold true t x)=>x.bind fun v=>let y:=jO (gP H) t v H;k (y.2.set B (.obj true y.1))
 |_=>k H
def Jm:List Nat->eB->(eB->Option R)->Option R
 |[],H,k=>k H
 |B::r,H,k=>unfB B H fun H=>Jm r H k
def oO (H:eB) (args:List AV) (t:Nat):Option dP:=if pG≤t then iF H t else (args[t]?).map .val
def yK (base:Nat->Option dP) (l:List Nat):Option (List Nat):=dM (fun t=>match base t with
 |some (.val (.ptr B (.st 0)))=>some B
 |_=>none) l
def oS (args:List AV):List (Nat×Nat)->eB->Option eB
 |[],H=>some H
 |(i,t)::r,H=>match oO H args t with
  |some (.val (.ptr B (.st 0)))=>(match gP H i,H[B]? with
   |some B',_=>if B'=B then oS args r H else none
   |none,some (.obj true _)=>oS args r (H++[.rt i B])
   |_,_=>none)
  |_=>none
def OC.ok (oc:OC):Bool:=oc.inn.all (yW ·.2)&&oc.out.all (yW ·.2)&&(oc.inn.rts++oc.out.rts).all (fun i=>(oc.cls.map (·.1)).contains i)&&pV (lB (jN oc.inn) oc.inn)&&(fE oc.out).all (fun t=>(fE oc.inn).contains t)&&oc.cls.all (fun q=>(fE oc.inn).contains q.2)
def Ty.noZ:Ty->Bool
 |.pair a b=>a.noZ&&b.noZ
 |.ow (.root _) _=>true
 |.ow _ t=>t.noZ
 |.lst _=>false
 |.arr _ t=>t.flat
 |_=>true
def SK.noZ:SK->Bool
 |.val hp _ v=>!hp||v.t.flat
 |.own u=>u.flat
 |.ow k t=>(Ty.ow k t).noZ
 |.agw t=>t.noZ
 |.root t=>t.noZ
 |.groot t=>t.noZ
 |_=>false
def OC.bor (oc:OC):Bool:=oc.out.all (·.2.noZ)
def OC.use (oc:OC) (u:kY):kY:=bif oc.bor then ⟨u.own,[],u.obj⟩ else u
def Vf (fr:gZ) (n:Nat):Option (List AV):=dM (fun j=>match fr.get (pE+j) with
 |some (.val a)=>some a
 |_=>none) (List.range n)
def Kd (oc:OC) (args:List AV) (H:eB) (k:AV->eB->Option R):Option R:=
 if oc.ok&&decide (args.length=oc.n) then
  (yK (oO H args) (fE oc.inn)).bind fun Bs=>
  Jm Bs H fun H=>
  (oS args oc.cls H).bind fun H=>
  (yK (oO H args) (fE oc.inn)).bind fun _=>
  (Nr [] (fun _=>none) (oO H args) true ⟨oQ 0 args,H⟩ oc.inn).bind fun x=>
  (oc.F x.1).bind fun y=>
  (inv (oO H args) oc.out y (eL ((oc.use x.2).own++(oc.use x.2).frz++(oc.use x.2).obj) false 0 H)).bind fun st=>
  (Vf st.fr oc.nres).bind fun as=>k (oP as) st.H
 else none
end
theorem xS {Rr:Type} {R:lL}:∀{Bs:List Nat} {c:Cf} {k:eB->Option Rr} {r:Rr},GH R c->Jm Bs c.H k=some r->∃c',GH R c'/\Le c c'/\c'.h=c.h/\k c'.H=some r
 |[],c,k,r,g,e=>⟨c,g,Le.refl c,rfl,e⟩
 |B::Bs,c,k,r,g,e=>by
  simp only[Jm,unfB]at e
  split at e
  ·rename_i t x hB
   obtain⟨v,hx,e2⟩:=aA.1 e
   subst hx
   obtain⟨c1,h1,h2,g1,le1⟩:=Bc g hB
   rw[<-h1]at e2
   obtain⟨c2,g2,le2,h3,h4⟩:=xS g1 e2
   exact⟨c2,g2,le1.trans le2,h3.trans h2,h4⟩
  ·exact xS g e
theorem Lt {H:eB} {i j B:Nat} (h:H[j]? = some (.rt i B)):gP H i≠none:=by
 unfold gP
 intro e
 rw[List.findSome?_eq_none_iff]at e
 have:=e _ (aL h)
 simp at this
theorem Fh {H:eB} {x:jY} {i B:Nat} (h:gP H i=some B):gP (H++[x]) i=some B:=by
 unfold gP at h |-
 rw[List.findSome?_append,h];rfl
theorem GH.pushRt {R:lL} {c:Cf} (g:GH R c) {i B b:Nat} {cs:List AV} (hB:c.H[B]? = some (.obj true cs)) (hm:c.m B=some b) (hro:gP c.H i=none):
 ∃c',c'.H=c.H++[.rt i B]/\c'.h=c.h/\GH R c'/\Le c c':=by
 have hrt:c.rt i=none:=by
  cases h:c.rt i with
  |none=>rfl
  |some b'=>obtain⟨j,B',h'⟩:=g.rtd i b' h;exact(Lt h' hro).elim
 have hBl:=cF hB
 refine⟨{ c with H:=c.H++[.rt i B],m:=pA c.m c.H.length none,f:=jH c.f c.H.length [],rt:=fun j=>if j=i then some b else c.rt j },rfl,rfl,g.gen' rfl rfl (fun j b' h=>?_) (fun j b' h=>?_) (aK _) (fun _=>False) (fun _ h=>h.elim) (fun b hb _=>rfl) (fun B' x hB'=>?_) (fun le B' y hB'=>?_)⟩
 ·by_cases hj:j=i
  ·subst hj;rw[hrt]at h;cases h
  ·simp only[if_neg hj];exact h
 ·by_cases hj:j=i
  ·subst hj;exact⟨c.H.length,B,nN⟩
  ·simp only[if_neg hj]at h
   obtain⟨k,B',h'⟩:=g.rtd j b' h
   exact⟨k,B',gN h'⟩
 ·have:=cF hB'
  exact pW (gN hB') (by simp[pA];omega)
 ·rcases nO hB' with h|⟨rfl,rfl⟩
  ·have:=cF h
   exact .inr (.inl ⟨h,by simp[pA];omega,by simp[jH];omega,fun _ _ h=>h⟩)
  ·refine .inr (.inr (.inr ⟨?_,by simp[Cf.ft,pA,jH]⟩))
   simp only[BR,pA,jH,if_true,true_and]
   rw[if_neg (by omega)]
   exact⟨hm.symm,by simp,_,gN hB,trivial⟩
theorem vR {R:lL} {args:List AV}:∀{cls:List (Nat×Nat)} {c:Cf} {H':eB},GH R c->oS args cls c.H=some H'->∃c',c'.H=H'/\GH R c'/\Le c c'/\c'.h=c.h/\∀q∈cls,∃B,oO H' args q.2=some (.val (.ptr B (.st 0)))/\gP H' q.1=some B
 |[],c,H',g,e=>by simp[oS]at e;exact⟨c,e,g,Le.refl c,rfl,by simp⟩
 |(i,t)::r,c,H',g,e=>by
  simp only[oS]at e
  split at e
  ·rename_i B hb
   have stay:∀{H0:eB} {B:Nat},oS args r H0=some H'->gP H0 i=some B->oO H0 args t=some (.val (.ptr B (.st 0)))->gP H' i=some B/\oO H' args t=some (.val (.ptr B (.st 0))):=by
    intro H0 B h1 h2 h3
    have:∀{r:List (Nat×Nat)} {H0:eB},oS args r H0=some H'->(∀i B,gP H0 i=some B->gP H' i=some B):=by
     intro r
     induction r with
     |nil=>intro H0 h;simp[oS]at h;subst h;exact fun _ _ h=>h
     |cons q r ih=>
      intro H0 h
      obtain⟨i',t'⟩:=q
      simp only[oS]at h
      split at h
      ·split at h
       ·split at h
        ·exact ih h
        ·cases h
       ·exact fun i B hi=>ih h i B (Fh hi)
       ·cases h
      ·cases h
    have key:=this h1
    refine⟨key i B h2,?_⟩
    unfold oO iF at h3 |-
    split at h3
    ·rename_i hg
     obtain⟨B0,hro,h4⟩:=aZ.1 h3
     rw[if_pos hg,if_pos hg,key _ _ hro,cK,h4]
    ·rename_i hg;rw[if_neg hg];exact h3
   split at e
   ·rename_i B' hro
    split at e
    ·rename_i hBB;subst hBB
     obtain⟨c',h1,h2,h3,h4,h5⟩:=vR g e
     obtain⟨k1,k2⟩:=stay e hro hb
     refine⟨c',h1,h2,h3,h4,fun q hq=>?_⟩
     rcases aQ.1 hq with rfl|hq
     ·exact⟨_,k2,k1⟩
     ·exact h5 q hq
    ·cases e
   ·rename_i cs hro hB
    have br:=g.blk B _ hB
    simp only[BR]at br
    obtain⟨_,b,hm,_⟩:=br
    obtain⟨c1,h1,h2,g1,le1⟩:=g.pushRt hB hm hro
    rw[<-h1]at e
    obtain⟨c',h3,h4,h5,h6,h7⟩:=vR g1 e
    refine⟨c',h3,h4,le1.trans h5,h6.trans h2,fun q hq=>?_⟩
    rcases aQ.1 hq with rfl|hq
    ·have hr1:gP c1.H i=some B:=by
      rw[h1];unfold gP at hro |-;rw[List.findSome?_append,hro];simp
     have hb1:oO c1.H args t=some (.val (.ptr B (.st 0))):=by
      rw[h1]
      unfold oO iF at hb |-
      split at hb
      ·rename_i hg
       obtain⟨B0,hro2,h4⟩:=aZ.1 hb
       rw[if_pos hg,if_pos hg,Fh hro2,cK,h4]
      ·rename_i hg;rw[if_neg hg];exact hb
     obtain⟨k1,k2⟩:=stay e hr1 hb1
     exact⟨_,k2,k1⟩
    ·exact h7 q hq
   ·cases e
  ·cases e
theorem Cp:∀{as:List AV} {i t k:Nat},(oQ i as).get t≠some (.cst k)
 |[],i,t,k=>by simp[oQ,gZ.get]
 |a::as,i,t,k=>by
  simp only[oQ,gZ.get]
  split
  ·simp
  ·exact Cp
theorem Nd:∀{as:List AV} {i t:Nat},(oQ i as).get (i+t)=(as[t]?).map .val
 |[],i,t=>by simp[oQ,gZ.get]
 |a::as,i,0=>by simp[oQ,gZ.get]
 |a::as,i,t+1=>by
  simp only[oQ,gZ.get]
  rw[if_neg (by omega),show i+(t+1)=(i+1)+t by omega,Nd];simp
theorem Bk {base:Nat->Option dP}:∀{l Bs:List Nat},yK base l=some Bs->∀t∈l,∃B,base t=some (.val (.ptr B (.st 0)))
 |[],_,_,t,h=>by simp at h
 |a::l,Bs,e,t,h=>by
  simp only[yK,dM]at e
  obtain⟨B,e1,e⟩:=aA.1 e
  obtain⟨Bs',e2,e⟩:=aA.1 e
  rcases aQ.1 h with rfl|h
  ·split at e1
   ·rename_i B' hb;exact⟨B',hb⟩
   ·cases e1
  ·exact Bk (show yK base l=some Bs' from e2) t h
theorem nD {base base':Nat->Option dP}:∀{O O':Oo},dI (Hk base base') O O'->∀q'∈O',∃q∈O,Hk base base' q q'
 |[],[],_,q',h=>by simp at h
 |a::O,b::O',h,q',hq=>by
  rcases aQ.1 hq with rfl|hq
  ·exact⟨a,by simp,h.1⟩
  ·obtain⟨q,h1,h2⟩:=nD h.2 q' hq;exact⟨q,by simp[h1],h2⟩
 |[],_::_,h,_,_=>h.elim
 |_::_,[],h,_,_=>h.elim
theorem Ha {base base':Nat->Option dP}:∀{O O':Oo},dI (Hk base base') O O'->∀q∈O,∃q'∈O',Hk base base' q q'
 |[],[],_,q',h=>by simp at h
 |a::O,b::O',h,q',hq=>by
  rcases aQ.1 hq with rfl|hq
  ·exact⟨b,by simp,h.1⟩
  ·obtain⟨q,h1,h2⟩:=Ha h.2 q' hq;exact⟨q,by simp[h1],h2⟩
 |[],_::_,h,_,_=>h.elim
 |_::_,[],h,_,_=>h.elim
theorem Ov {fr:gZ} {σ:Fr} {TI:List SV} {c:Cf} {rs:List IV} (hf:∀j r,rs[j]? = some r->FR TI c (fr.get (pE+j)) (σ.get (pE+j))\/fr.get (pE+j)=none) (hr:∀j r,rs[j]? = some r->σ.get (pE+j)=some (.val r)) {as:List AV}
 (e:Vf fr rs.length=some as):jP c as rs:=by
 have key:∀(l:List Nat) (rs':List IV) (as:List AV),rs'.length=l.length->(∀(k j:Nat) r,l[k]? = some j->rs'[k]? = some r->(FR TI c (fr.get (pE+j)) (σ.get (pE+j))\/fr.get (pE+j)=none)/\σ.get (pE+j)=some (.val r))->dM (fun j=>match fr.get (pE+j) with
  |some (.val a)=>some a
  |_=>none) l=some as->jP c as rs':=by
  intro l
  induction l with
  |nil=>intro rs' as hl _ e;cases rs'<;>simp at hl;simp[dM]at e;subst e;rfl
  |cons j l ih=>
   intro rs' as hl h e
   cases rs' with
   |nil=>simp at hl
   |cons r rs'=>
    simp only[dM]at e
    obtain⟨a,e1,e⟩:=aA.1 e
    obtain⟨as',e2,e⟩:=aA.1 e
    simp only[aD]at e;subst e
    refine⟨r,rs',rfl,?_,ih rs' as' (by simpa using hl) (fun k j' r' h1 h2=>h (k+1) j' r' (by simpa using h1) (by simpa using h2)) e2⟩
    obtain⟨h1,h2⟩:=h 0 j r rfl rfl
    split at e1
    ·rename_i a' ha
     injection e1 with e1;subst e1
     rw[ha,h2]at h1
     rcases h1 with ⟨sv,q1,q2⟩|h1
     ·injection q1 with q1;subst q1
      exact q2
     ·cases h1
    ·cases e1
 refine key (List.range rs.length) rs as (by simp) (fun k j r h1 h2=>?_) e
 have hk:=cF h1
 rw[aG hk,List.getElem_range]at h1
 injection h1 with h1;subst h1
 exact⟨hf k r h2,hr k r h2⟩
theorem Bl:∀{l:List Nat} {t:Nat},t∈l->∃j,yL l t=some j
 |a::r,t,h=>by
  simp only[yL]
  by_cases e:a=t
  ·subst e;exact⟨0,by simp⟩
  ·rcases aQ.1 h with h|h
   ·exact(e h.symm).elim
   ·obtain⟨j,hj⟩:=Bl h
    exact⟨j+1,by rw[if_neg (by simpa [Nat.beq_eq]using e),hj];rfl⟩
theorem Eo {p:Bool} {Z:Nat->Prop} {h:aN} {rt:Nat->Option Nat} {σ:Fr} {base:Nat->Option dP} {fk:dP->Option SV->Prop}:∀{sh:nY} {x:DL sh.hs} {L:Lo} {O:Oo},SF p Z h rt σ base fk sh x L O->∀t∈fE sh,∃B b,base t=some (.val (.ptr B (.st 0)))/\(B,b)∈O
 |[],x,L,O,f=>by intro t h;simp[fE]at h
 |(t0,k)::r,x,L,O,f=>by
  obtain⟨L1,L2,O1,O2,rfl,rfl,f1,f2⟩:=f
  intro t h
  have hr:t∈fE r->∃B b,base t=some (.val (.ptr B (.st 0)))/\(B,b)∈O1++O2:=fun h=>by
   obtain⟨B,b,h1,h2⟩:=Eo f2 t h
   exact⟨B,b,h1,by simp[h2]⟩
  unfold fE at h
  rw[Rs]at h
  split at h
  ·rename_i hk
   rw[eZ,aQ]at h
   rcases h with rfl|h
   ·cases k<;>simp only[Ih]at hk<;>try (cases hk;done)
    ·obtain⟨B,b,e,h1,_,_,_,rfl⟩:=f1;exact⟨B,b,h1,by simp⟩
    ·obtain⟨B,b,e,h1,_,_,rfl⟩:=f1;exact⟨B,b,h1,by simp⟩
   ·exact hr h
  ·exact hr h
theorem Bp {O:Oo} (h1:(O.map Prod.fst).Nodup) (h2:∀q∈O,∀q'∈O,q.2=q'.2->q.1=q'.1):(O.map Prod.snd).Nodup:=by
 induction O with
 |nil=>simp
 |cons a O ih=>
  simp only[eZ,cT]at h1 |-
  refine⟨fun h=>?_,ih h1.2 fun q hq q' hq'=>h2 q (by simp[hq]) q' (by simp[hq'])⟩
  obtain⟨q,hq,e⟩:=bI.1 h
  exact h1.1 (bI.2 ⟨q,hq,h2 q (by simp[hq]) a (by simp) e⟩)
theorem Hu:∀{O:Oo},(O.map Prod.snd).Nodup->∀q∈O,∀q'∈O,q.2=q'.2->q=q'
 |a::O,hn,q,hq,q',hq',e=>by
  simp only[eZ,cT]at hn
  rcases aQ.1 hq with h1|h1
  ·rcases aQ.1 hq' with h2|h2
   ·rw[h1,h2]
   ·exact(hn.1 (by rw[<-h1,e];exact bI.2 ⟨q',h2,rfl⟩)).elim
  ·rcases aQ.1 hq' with h2|h2
   ·exact(hn.1 (by rw[<-h2,<-e];exact bI.2 ⟨q,h1,rfl⟩)).elim
   ·exact Hu hn.2 q h1 q' h2 e
 |[],_,q,hq,_,_,_=>by simp at hq
theorem zL {base base':Nat->Option dP}:∀{O O':Oo},dI (Hk base base') O O'->O'.map Prod.snd=O.map Prod.snd
 |[],[],_=>rfl
 |a::O,b::O',h=>by simp[h.1.1,zL h.2]
 |[],_::_,h=>h.elim
 |_::_,[],h=>h.elim
theorem Ly {O O':Oo} (h1:(O'.map Prod.snd).Nodup) (h2:∀q∈O',q∈O) (h3:(O.map Prod.fst).Nodup):(O'.map Prod.fst).Nodup:=by
 have inj:∀{O:Oo},(O.map Prod.fst).Nodup->∀q∈O,∀q'∈O,q.1=q'.1->q=q':=by
  intro O
  induction O with
  |nil=>intro _ q hq;simp at hq
  |cons a O ih=>
   intro hn q hq q' hq' e
   simp only[eZ,cT]at hn
   rcases aQ.1 hq with h1|h1
   ·rcases aQ.1 hq' with h2|h2
    ·rw[h1,h2]
    ·exact(hn.1 (by rw[<-h1,e];exact bI.2 ⟨q',h2,rfl⟩)).elim
   ·rcases aQ.1 hq' with h2|h2
    ·exact(hn.1 (by rw[<-h2,<-e];exact bI.2 ⟨q,h1,rfl⟩)).elim
    ·exact ih hn.2 q h1 q' h2 e
 induction O' with
 |nil=>simp
 |cons a O' ih=>
  simp only[eZ,cT]at h1 |-
  refine⟨fun h=>?_,ih h1.2 fun q hq=>h2 q (by simp[hq])⟩
  obtain⟨q,hq,e⟩:=bI.1 h
  have:=inj h3 q (h2 q (by simp[hq])) a (h2 a (by simp)) e
  subst this
  exact h1.1 (bI.2 ⟨q,hq,rfl⟩)
theorem sD {p ln:Bool} {Z Z':Nat->Prop} {h h':aN}:∀{t:Ty} {x:t.den} {c:List IV},TR p Z h ln t false x c->TR p Z' h' ln t false x c
 |.int k,x,c,e=>by simpa only[TR]using e
 |.bool,x,c,e=>by simpa only[TR]using e
 |.str,x,c,e=>by simpa only[TR]using e
 |.unit,x,c,e=>by simpa only[TR]using e
 |.lst t,l,c,e=>by
  simp only[TR]at e |-
  obtain⟨iv,rfl,h1|⟨bo,es,rfl,h2,h3⟩|⟨h1,_⟩⟩:=e
  ·exact⟨iv,rfl,.inl h1⟩
  ·exact⟨_,rfl,.inr (.inl ⟨bo,es,rfl,h2,h3.imp fun a b h=>sD h⟩)⟩
  ·cases h1
 |.pair a b,x,c,e=>by
  simp only[TR]at e |-
  obtain⟨u,v,rfl,h1,h2⟩:=e
  exact⟨u,v,rfl,sD h1,sD h2⟩
 |.arr n t,l,c,e=>by
  simp only[TR]at e |-
  obtain⟨es,rfl,h1,h2⟩:=e
  exact⟨es,rfl,h1,h2.imp fun a b h=>sD h⟩
 |.ow _ t,x,c,e=>by simp[TR]at e
theorem nX {p ln hp:Bool} {Z Z':Nat->Prop} {h h':aN} {t:Ty} (ht:t.flat=true) {x:t.den} {c:List IV} (e:TR p Z h ln t hp x c):TR p Z' h' ln t hp x c:=
 TR.flat ht (sD (TR.flat (hp':=false) (ln':=ln) ht e))
theorem qF {p:Bool} {Z Z':Nat->Prop} {h:aN} {rt:Nat->Option Nat}:∀{t:Ty} (ht:t.noZ=true) {x:t.den} {c:List IV} {L:Lo},TF p Z h rt t x c L->TF p Z' h rt t x c L
 |.pair a b,ht,x,c,L,e=>by
  simp only[Ty.noZ,aF]at ht
  simp only[TF]at e |-
  obtain⟨u,v,M,N,rfl,rfl,h1,h2⟩:=e
  exact⟨u,v,M,N,rfl,rfl,qF ht.1 h1,qF ht.2 h2⟩
 |.ow .own t,ht,x,c,L,e=>by
  simp only[TF]at e |-
  obtain⟨iv,mb,f,rfl,rfl,h1,h2⟩:=e
  refine⟨iv,mb,f,rfl,rfl,h1,?_⟩
  cases mb with
  |none=>exact h2
  |some b=>
   obtain⟨es,Ms,h3,h4,rfl⟩:=h2
   exact⟨es,Ms,h3,h4.imp fun a e M hM g=>qF (t:=t) ht g,rfl⟩
 |.ow .obj t,ht,x,c,L,e=>by
  simp only[TF]at e |-
  obtain⟨b,e,M,rfl,h1,h2,rfl⟩:=e
  exact⟨b,e,M,rfl,h1,qF (t:=t) ht h2,rfl⟩
 |.ow .opt t,ht,x,c,L,e=>by
  simp only[TF]at e |-
  rcases e with e|⟨v,b,e,M,rfl,rfl,h1,h2,rfl⟩
  ·exact .inl e
  ·exact .inr ⟨v,b,e,M,rfl,rfl,h1,qF (t:=t) ht h2,rfl⟩
 |.ow (.root i) t,ht,x,c,L,e=>by simpa only[TF]using e
 |.int k,ht,x,c,L,e=>by simp only[TF]at e |-;exact⟨nX rfl e.1,e.2⟩
 |.bool,ht,x,c,L,e=>by simp only[TF]at e |-;exact⟨nX rfl e.1,e.2⟩
 |.str,ht,x,c,L,e=>by simp only[TF]at e |-;exact⟨nX rfl e.1,e.2⟩
 |.unit,ht,x,c,L,e=>by simp only[TF]at e |-;exact⟨nX rfl e.1,e.2⟩
 |.lst t,ht,x,c,L,e=>by cases ht
 |.arr n t,ht,x,c,L,e=>by simp only[TF]at e |-;exact⟨nX (t:=.arr n t) ht e.1,e.2⟩
theorem Rj {p:Bool} {Z Z':Nat->Prop} {h:aN} {rt:Nat->Option Nat} {σ:Fr} {base:Nat->Option dP} {fk:dP->Option SV->Prop}:∀{sh:nY} {x:DL sh.hs} {L:Lo} {O:Oo},sh.all (·.2.noZ)=true->SF p Z h rt σ base fk sh x L O->SF p Z' h rt σ base fk sh x L O
 |[],x,L,O,_,f=>f
 |(t,k)::r,x,L,O,hk,f=>by
  obtain⟨L1,L2,O1,O2,rfl,rfl,f1,f2⟩:=f
  simp only[gD,aF]at hk
  refine⟨L1,L2,O1,O2,rfl,rfl,?_,Rj hk.2 f2⟩
  have hk:=hk.1
  cases k with
  |keep=>cases hk
  |val hp ln v=>
   obtain⟨⟨iv,h1,h2⟩,h3,h4⟩:=f1
   refine⟨⟨iv,h1,?_⟩,h3,h4⟩
   have hz:∀{c:List IV},TR p Z h ln v.t hp x.fst.1 c->TR p Z' h ln v.t hp x.fst.1 c:=fun {c} e=>by
    simp only[SK.noZ,cV,dU]at hk
    rcases hk with rfl|hk
    ·exact sD e
    ·exact nX hk e
   unfold TV at h2 |-
   split
   ·rename_i ha;rw[if_pos ha]at h2;obtain⟨cs,q1,q2⟩:=h2;exact⟨cs,q1,hz q2⟩
   ·rename_i ha;rw[if_neg ha]at h2;exact hz h2
  |own u=>
   obtain⟨iv,mb,h1,⟨h2,h2'⟩,h3,h4⟩:=f1
   refine⟨iv,mb,h1,⟨h2,?_⟩,h3,h4⟩
   cases mb with
   |none=>exact h2'
   |some b=>obtain⟨es,q1,q2⟩:=h2';exact⟨es,q1,q2.imp fun a b h=>nX hk h⟩
  |box=>cases hk
  |obj=>cases hk
  |agw u=>obtain⟨cs,h1,h2,h3⟩:=f1;exact⟨cs,h1,qF hk h2,h3⟩
  |ow k u=>obtain⟨iv,h1,h2,h3⟩:=f1;exact⟨iv,h1,qF hk h2,h3⟩
  |root u=>obtain⟨B,b,e,h1,h2,h3,h4,h5⟩:=f1;exact⟨B,b,e,h1,h2,h3,qF hk h4,h5⟩
  |groot u=>obtain⟨B,b,e,h1,h2,h4,h5⟩:=f1;exact⟨B,b,e,h1,h2,qF hk h4,h5⟩
theorem Fs {prog:Nat->Option mO} {opn:Nat->Bool} {f:Nat} {oc:OC} (hoc:eU prog opn f oc) {Rr:Type} {args:List AV} {k:AV->eB->Option Rr} {r:Rr} {R:lL} {c:Cf} {ivs:List IV} (g:GH R c) (hv:jP c args ivs)
 (e:Kd oc args c.H k=some r):∃iv h',eC prog opn f ivs c.h=some (iv,h')/\∃v c',GH R c'/\c'.h=h'/\Le c c'/\Va c' v iv/\k v c'.H=some r:=by
 unfold Kd at e
 split at e
 ·rename_i hok
  simp only[aF,decide_eq_true_eq,OC.ok]at hok
  obtain⟨⟨⟨⟨⟨⟨k1,k2⟩,k3⟩,k4⟩,k5⟩,k6⟩,hn⟩:=hok
  obtain⟨Bs,_,e⟩:=aA.1 e
  obtain⟨c1,g1,le1,hh1,e⟩:=xS g e
  obtain⟨H2,e2,e⟩:=aA.1 e
  obtain⟨c2,rfl,g2,le2,hh2,hcls⟩:=vR g1 e2
  obtain⟨Bs',e1,e⟩:=aA.1 e
  obtain⟨x,e3,e⟩:=aA.1 e
  obtain⟨y,e4,e⟩:=aA.1 e
  obtain⟨st,e5,e⟩:=aA.1 e
  obtain⟨as,e6,e⟩:=aA.1 e
  have hv2:=(hv.le le1).le le2
  have hle:=le1.trans le2
  obtain⟨d,a1,a2,ok,hbx⟩:=zY e3
  obtain⟨L,O,sf,hu⟩:=rZ (T:=[]) (TI:=[]) (s:=(fA 0 ivs,c2.h)) (fk:=Rz) (Z:=oV c2 x.2) g2.blk (fun b hb=>.inl hb) rfl ⟨zU hv2,rfl,by simp,by simp⟩ (fun t _ ⟨i,h,_⟩=>(Cp h).elim) (.inl rfl) a1 (fun B hB b hm=>.inr ⟨B,hB,hm⟩)
  obtain⟨sb,uf⟩:=enter g2 hu ok _ rfl
  generalize hR1:({ p:=R.p,N:=c2.h.length,O0:=fun b=>∃B x0,c2.H[B]? = some x0/\B∈x.2.own++x.2.frz++x.2.obj/\x0.wr=true/\b∈c2.ft B,h0:=c2.h,Z0:=oV c2 x.2 }:lL)=R1 at *
  have hN:R1.N=c2.h.length:=by rw[<-hR1]
  have hZ0:R1.Z0=oV c2 x.2:=by rw[<-hR1]
  have hh0:R1.h0=c2.h:=by rw[<-hR1]
  obtain⟨OI,sfI,hc⟩:=Je (base':=jN oc.inn) (fk':=Rz) k1 (fun t ht=>by obtain⟨j,hj⟩:=Bl ht;exact⟨j,by simp[jN,hj]⟩) sf
  have ptrA:=Bk e1
  have inj:∀{t t' j:Nat},jN oc.inn t=some (.val (.ptr j (.st 0)))->jN oc.inn t'=some (.val (.ptr j (.st 0)))->t=t':=fun h h'=>by
   have h1:=(rJ h).2
   rw[(rJ h').2]at h1;injection h1 with h1;exact h1.symm
  have back:∀{t j b:Nat},jN oc.inn t=some (.val (.ptr j (.st 0)))->(j,b)∈OI->∃B,oO c2.H args t=some (.val (.ptr B (.st 0)))/\(B,b)∈O:=fun {t j b} h1 h2=>by
   obtain⟨⟨B,b'⟩,h3,h4,t',h5,h6⟩:=nD hc _ h2
   simp only at h4 h5 h6
   subst h4
   have:=inj h1 h6
   subst this
   exact⟨B,h5,h3⟩
  let rt0:Nat->Option Nat:=fun i=>if (oc.cls.map (·.1)).contains i then c2.rt i else none
  have hrt0:∀i b,rt0 i=some b->c2.rt i=some b:=fun i b h=>by
   simp only[rt0]at h
   split at h
   ·exact h
   ·cases h
  have hrtc:∀i,i∈oc.inn.rts++oc.out.rts->rt0 i=c2.rt i:=fun i hi=>by
   simp only[rt0];rw[if_pos (bE.1 k3 i hi)]
  have sfI':=Vt (rt':=rt0) (fun i hi=>hrtc i (by simp[hi])) k1 sfI
  have osnd:=Bp uf.objN uf.objI
  have oisnd:(OI.map Prod.snd).Nodup:=by rw[zL hc];exact osnd
  have sep:Sep (oV c2 x.2) c2.h L OI:=by
   refine⟨fun b hb=>(uf.own b hb).2,uf.ownN,fun q hq=>?_,by rw[xP sfI];exact lQ.1 k4,fun q hq q' hq' e=>by rw[Hu oisnd q hq q' hq' e],fun b hb=>(uf.zb b hb).1⟩
   obtain⟨q0,h1,h2,_⟩:=nD hc q hq
   rw[h2];exact(uf.obj q0 h1).2
  have rti:RtI rt0 (jN oc.inn) oc.cls OI:=by
   refine⟨fun q hq=>?_,fun i b h=>?_⟩
   ·obtain⟨B,h1,h2⟩:=hcls q hq
    have hr:q.2∈fE oc.inn:=by simpa using bE.1 k6 q hq
    obtain⟨j,b,h3,h4⟩:=Eo sfI q.2 hr
    obtain⟨B',h5,h6⟩:=back h3 h4
    rw[h1]at h5;injection h5 with h5;injection h5 with h5;injection h5 with h5;subst h5
    refine⟨j,b,h3,h4,?_⟩
    have:rt0 q.1=c2.rt q.1:=by
     simp only[rt0];rw[if_pos (by simp;exact⟨q.2,hq⟩)]
    rw[this,(g2.ro' h2).1]
    exact(hu.o _ h6).1
   ·simp only[rt0]at h
    split at h
    ·rename_i hc;simp at hc;exact hc
    ·cases h
  have hlen:ivs.length=oc.n:=by rw[hv.len];exact hn
  obtain⟨rs,h',Z',L',O',σ',q1,q2,q3,q4,q5,q6,q7⟩:=hoc c2.p (oV c2 x.2) c2.h rt0 ivs d L OI hlen sfI' sep rti y (by rw[<-a2];exact e4)
  obtain⟨OA,sfA,hcA⟩:=Je (base':=oO c2.H args) (fk':=Rz) k2 (fun t ht=>ptrA t (by simpa using bE.1 k5 t ht)) (La hrt0 k2 q3)
  have sub:∀q∈OA,q∈O:=fun q hq=>by
   obtain⟨⟨j,b⟩,h1,h2,t,h3,h4⟩:=nD hcA q hq
   simp only at h2 h3
   obtain⟨B,h5,h6⟩:=back h3 (q5 _ h1)
   rw[h4]at h5;injection h5 with h5;injection h5 with h5;injection h5 with h5
   have:q=(B,b):=by rw[<-h5,<-h2]
   rw[this];exact h6
  have asnd:(OA.map Prod.snd).Nodup:=by rw[zL hcA];exact Bp q6.objN q6.objI
  have hu2:tI c2 (oc.use x.2) L O:=by
   unfold OC.use
   cases oc.bor with
   |true=>exact hu.frz
   |false=>exact hu
  have ok2:(oc.use x.2).ok c2.H=true:=by
   unfold OC.use
   cases oc.bor with
   |true=>
    simp only[cond_true]
    simp only[kY.ok,aF]at ok |-
    exact⟨⟨ok.1.1,by simp⟩,ok.2⟩
   |false=>exact ok
  obtain⟨sb2,uf2⟩:=enter g2 hu2 ok2 _ rfl
  generalize hR2:({ p:=R.p,N:=c2.h.length,O0:=fun b=>∃B x0,c2.H[B]? = some x0/\B∈(oc.use x.2).own++(oc.use x.2).frz++(oc.use x.2).obj/\x0.wr=true/\b∈c2.ft B,h0:=c2.h,Z0:=oV c2 (oc.use x.2) }:lL)=R2 at *
  have hN2:R2.N=c2.h.length:=by rw[<-hR2]
  have hZ2:R2.Z0=oV c2 (oc.use x.2):=by rw[<-hR2]
  have hh2':R2.h0=c2.h:=by rw[<-hR2]
  have oO0:∀b,(b∈cS L\/∃q∈OI,q.2=b)->R2.O0 b:=fun b hb=>by
   rcases hb with hb|⟨q,hq,rfl⟩
   ·have:=uf2.own b hb
    rcases this.1 with h|h
    ·exact h
    ·rw[hN2]at h;omega
   ·obtain⟨q0,h1,h2,_⟩:=nD hc q hq
    have:=uf2.obj q0 h1
    rw[h2]
    rcases this.1 with h|h
    ·exact h
    ·rw[hN2]at h;omega
  have conv:∀b,((b∈cS L\/∃q∈OI,q.2=b)\/c2.h.length≤b)->R2.O0 b\/R2.N≤b:=fun b h=>h.imp (oO0 b) (fun h=>by rw[hN2];exact h)
  obtain⟨Zn,n1,n2,n3,sfN⟩:∃Zn:Nat->Prop,(∀b,Zn b->Z' b)/\(∀b,oV c2 (oc.use x.2) b->Zn b)/\(∀b,Zn b->oV c2 (oc.use x.2) b\/(b∈cS L\/∃q∈OI,q.2=b)\/c2.h.length≤b)/\SF c2.p Zn h' c2.rt σ' (oO c2.H args) Rz oc.out (qQ y) L' OA:=by
   have hzz:∀b,c2.Z b->Z' b:=fun b hb=>q7.z b (.inl hb)
   cases hb:oc.bor with
   |true=>
    have hu:oc.use x.2=⟨x.2.own,[],x.2.obj⟩:=by unfold OC.use;rw[hb];rfl
    refine⟨oV c2 (oc.use x.2),fun b h=>?_,fun b h=>h,fun b h=>.inl h,Rj hb sfA⟩
    rw[hu]at h
    rcases h with h|⟨B,hB,_⟩
    ·exact hzz b h
    ·cases hB
   |false=>
    have hu:oc.use x.2=x.2:=by unfold OC.use;rw[hb];rfl
    rw[hu]
    exact⟨Z',fun b h=>h,fun b h=>q7.z b h,fun b h=>(q6.zb b h).2,sfA⟩
  have uf':R2.uf Zn h' L' OA:=by
   refine⟨fun b hb=>⟨conv b (q6.own b hb).1,fun h=>(q6.own b hb).2.1 (n1 b h),(q6.own b hb).2.2⟩,q6.ownN,fun q hq=>?_,Ly asnd sub uf.objN,fun q hq q' hq' e=>by rw[Hu asnd q hq q' hq' e],⟨by rw[hN2];exact q6.base.1,fun b hb ho=>by rw[hh2'];exact q6.base.2 b (by rw[<-hN2];exact hb) fun h=>ho (oO0 b h)⟩,fun b hb=>⟨(q6.zb b (n1 b hb)).1,?_⟩,fun b hb=>n2 b (by rw[<-hZ2];exact hb)⟩
   ·obtain⟨q0,h1,h2,_⟩:=nD hcA q hq
    rw[h2];exact⟨conv _ (q6.obj q0 h1).1,fun h=>(q6.obj q0 h1).2.1 (n1 _ h),(q6.obj q0 h1).2.2⟩
   ·rcases n3 b hb with h|h
    ·exact .inl (by rw[hZ2];exact h)
    ·exact .inr (conv b h)
  have rsh:=Ft g2 sb2 uf' (rt3:=c2.rt) ⟨fun b hb=>n2 b (.inl hb),fun b hb=>q7.h b (.inl hb)⟩ (fun _ _ h=>h) g2.rtd (fun q hq=>(hu.o q (sub q hq)).1) (fun q hq=>by obtain⟨_,_,cs,h⟩:=hu.o q (sub q hq);exact⟨_,h,rfl⟩)
  obtain⟨c3,hc3,g3,le3,hfr⟩:=De rsh sfN e5
  have hH:c3.H=st.H:=by rw[hc3]
  have hh:c3.h=h':=by rw[hc3]
  refine⟨gK rs,h',by rw[<-hh1,<-hh2];exact q1,oP as,c3,g3,hh,hle.trans le3,?_,by rw[hH];exact e⟩
  rw[<-q2]at e6
  refine vM (Ov (TI:=[]) (c:=c3) (fun j r hj=>?_) q4 e6)
  rcases hfr [] (fun a v h=>h.elim) (pE+j)with h|h
  ·exact .inl h
  ·exact .inr h.1
 ·cases e
end Go.Ideal
namespace Go.Ideal
def Vl (oc:OC) (i:Nat):Option Nat:=(oc.cls.find? (·.1==i)).map (·.2)
def roI (oc:OC) (i:Nat):Option Nat:=(Vl oc i).bind (yL (fE oc.inn))
def yA (oc:OC):eB:=oc.cls.filterMap fun q=>(yL (fE oc.inn) q.2).map (.rt q.1 ·)
def sT (oc:OC):gZ:=oc.inn.filterMap fun q=>match q.2 with
 |.root _=>(jN oc.inn q.1).map (q.1,·)
 |_=>none
def tT:Nat->List AV->gZ
 |_,[]=>[]
 |j,a::r=>(pE+j,.val a)::tT (j+1) r
def Vi (oc:OC) (x:(cW oc.inn.hs).den):Option gJ:=(Dr (roI oc) (jN oc.inn) oc.inn (qQ x) (List.replicate (fE oc.inn).length .gone)).bind fun st=>some ⟨st.fr,st.H++yA oc⟩
section
variable (cs:Nat->Option Ct) (opn:Nat->Bool) (lp:∀S X:Type,(S->Option (S⊕X))->S->Option X)
noncomputable def Wu (icall:∀R:Type,Nat->List AV->eB->(AV->eB->Option R)->Option R) (af:gM) (oc:OC) (x:(cW oc.inn.hs).den):Option (cW oc.out.hs).den:=
 if oc.ok&&decide (oc.n≤af.np) then
  (Vi oc x).bind fun st0=>aC cs opn (Vk af.ety) icall lp af.code [] st0 fun ex st=>match ex with
    |.exit _=>none
    |_=>Aq st af.res fun as=>if decide (as.length=oc.nres)&&tP st0.H st.H then (Nr [] (fun _=>none) (jN oc.inn) true ⟨tT 0 as++sT oc,st.H⟩ oc.out).bind fun z=>some z.1 else none
 else none
noncomputable def Ma (os:Nat->Option OC) (fns:Nat->Option gM):Nat->∀R:Type,Nat->List AV->eB->(AV->eB->Option R)->Option R
 |0,R,f,args,H,k=>(os f).bind fun oc=>Kd oc args H k
 |n+1,R,f,args,H,k=>match os f with
  |some oc=>Kd oc args H k
  |none=>(fns f).bind fun af=>Hf cs opn lp (Ma os fns n) af args H fun as st=>k (oP as) st.H
end
theorem zC {ivs:List IV} {i t:Nat} {sv:SV} (h:(fA i ivs).get t=some sv):∃iv,sv = .val iv:=by
 induction ivs generalizing i with
 |nil=>simp[fA,Fr.get]at h
 |cons a l ih=>
  simp only[fA,Fr.get]at h
  split at h
  ·injection h with h;exact⟨a,h.symm⟩
  ·exact ih h
theorem lookO {O:Oo} (hn:(O.map Prod.fst).Nodup) {q:Nat×Nat} (hq:q∈O):(O.find? (·.1==q.1)).map (·.2)=some q.2:=by
 induction O with
 |nil=>simp at hq
 |cons a O ih=>
  simp only[eZ,cT]at hn
  rw[List.find?_cons]
  rcases aQ.1 hq with rfl|hq
  ·simp
  ·have:(a.1==q.1)=false:=by
    simp only[beq_eq_false_iff_ne]
    intro e
    exact hn.1 (by rw[e];exact bI.2 ⟨q,hq,rfl⟩)
   rw[this];exact ih hn.2 hq
theorem Mn {oc:OC} {i t:Nat} (h:Vl oc i=some t):(i,t)∈oc.cls:=by
 obtain⟨q,h1,rfl⟩:=aZ.1 h
 have h2:=List.mem_of_find?_eq_some h1
 have h3:=List.find?_some h1
 simp only[beq_iff_eq]at h3
 rw[<-h3];exact h2
theorem Oj {oc:OC} {j:Nat} {z:jY} (h:(yA oc)[j]? = some z):∃i t B,z = .rt i B/\(i,t)∈oc.cls/\yL (fE oc.inn) t=some B:=by
 have h1:=aL h
 obtain⟨q,h2,h3⟩:=iZ.1 h1
 obtain⟨B,h4,h5⟩:=aZ.1 h3
 exact⟨q.1,q.2,B,h5.symm,h2,h4⟩
theorem Tw {oc:OC} {p:Bool} {Z:Nat->Prop} {h:aN} {rt:Nat->Option Nat} {ivs:List IV} {x:DL oc.inn.hs} {L:Lo} {O:Oo} (sf:SF p Z h rt (fA 0 ivs) (jN oc.inn) Rz oc.inn x L O) (sep:Sep Z h L O) (rti:RtI rt (jN oc.inn) oc.cls O)
 {st:gJ} (e:Dr (roI oc) (jN oc.inn) oc.inn x (List.replicate (fE oc.inn).length .gone)=some st) {R1:lL} (hR:R1=⟨p,h.length,fun b=>b∈cS L\/∃q∈O,q.2=b,h,Z⟩):
 ∃c1,c1.H=st.H++yA oc/\c1.h=h/\c1.p=p/\c1.Z=Z/\c1.rt=rt/\GH R1 c1/\(∀t,FR [] c1 (st.fr.get t) ((fA 0 ivs).get t))/\∀q∈O,c1.m q.1=some q.2:=by
 generalize hk:(fE oc.inn).length=k at e
 have Ok:∀q∈O,q.1<k:=fun q hq=>by
  obtain⟨t,ht⟩:=sG sf q hq
  have:=cF (rJ ht).2
  omega
 obtain⟨⟨r1,r2,r3,r4⟩,r5⟩:=xI sf e (fun q hq=>by simpa using Ok q hq) sep.objN
 simp only[eA]at r1 r2 r3 r4 r5
 let m1:Nat->Option Nat:=fun i=>if i<k then (O.find? (·.1==i)).map (·.2) else ((L[i-k]?).map (·.1)).getD none
 let f1:Nat->List Nat:=fun i=>if i<k then [] else ((L[i-k]?).map (·.2)).getD []
 let c1:Cf:={ p:=p,H:=st.H++yA oc,m:=m1,Z:=Z,h:=h,f:=f1,rt:=rt }
 have hmO:∀q∈O,c1.m q.1=some q.2:=fun q hq=>by
  show m1 q.1=_
  simp only[m1];rw[if_pos (Ok q hq)];exact lookO sep.objN hq
 have hfO:∀i,i<k->c1.f i=[]:=fun i hi=>by show f1 i=_;simp only[f1];rw[if_pos hi]
 have mnew:∀j z,L[j]? = some z->c1.m (k+j)=z.1/\c1.f (k+j)=z.2:=fun j z hj=>by
  show m1 _=_/\f1 _=_
  simp only[m1,f1]
  rw[if_neg (by omega),if_neg (by omega),show k+j-k=j by omega,hj]
  exact⟨rfl,rfl⟩
 have mout:∀i,k+L.length≤i->c1.m i=none/\c1.f i=[]:=fun i hi=>by
  show m1 _=_/\f1 _=_
  simp only[m1,f1]
  rw[if_neg (by omega),if_neg (by omega),gT (by omega)]
  exact⟨rfl,rfl⟩
 have ftO:∀q∈O,c1.ft q.1=[q.2]:=fun q hq=>by simp[Cf.ft,hmO q hq,hfO q.1 (Ok q hq)]
 have ftn:∀j z,L[j]? = some z->c1.ft (k+j)=z.1.toList++z.2:=fun j z hj=>by simp only[Cf.ft,(mnew j z hj).1,(mnew j z hj).2]
 have objAt:∀q∈O,∃cs,c1.H[q.1]? = some (.obj true cs):=fun q hq=>by
  obtain⟨cs,ee,w1,_⟩:=r4 q hq
  refine⟨cs,?_⟩
  show (st.H++yA oc)[q.1]? = _
  rw[bC (cF w1)];exact w1
 have rtAt:∀{i t B:Nat},(i,t)∈oc.cls->yL (fE oc.inn) t=some B->c1.rt i=c1.m B/\c1.rt i≠none/\∃cs,c1.H[B]? = some (.obj true cs):=fun {i t B} h1 h2=>by
  obtain⟨B',b,h3,h4,h5⟩:=rti.at_ _ h1
  simp only[jN,h2,cK,aD,dP.val.injEq,AV.ptr.injEq,and_true]at h3
  subst h3
  refine⟨by rw[hmO _ h4];exact h5,by show rt i≠none;rw[h5];simp,objAt _ h4⟩
 have at3:Hn p Z h rt (roI oc) c1 k st.H L:=by
  refine⟨rfl,rfl,rfl,rfl,fun i B hro=>?_,fun i hi hl=>bC hl,mnew⟩
  obtain⟨t,h1,h2⟩:=eM.1 hro
  obtain⟨q1,q2,cs,q3⟩:=rtAt (Mn h1) h2
  exact⟨q1,q2,_,q3,trivial⟩
 have ent:∀(B:Nat) z,c1.H[B]? = some z->(∃b cs ee,(B,b)∈O/\z = .obj true cs/\h[b]? = some (some ⟨ee.length,[ee]⟩)/\dB c1 cs ee)\/z = .gone\/(∃j w,B=k+j/\L[j]? = some w/\Ni p Z h rt (some z) w)\/
  (∃i t B',z = .rt i B'/\(i,t)∈oc.cls/\yL (fE oc.inn) t=some B'/\c1.m B=none/\c1.f B=[]):=by
  intro B z hz
  have hz:(st.H++yA oc)[B]? = some z:=hz
  rw[eR]at hz
  split at hz
  ·rename_i hl
   by_cases hO:B∈O.map Prod.fst
   ·obtain⟨q,hq,rfl⟩:=bI.1 hO
    obtain⟨cs,ee,w1,w2,w3⟩:=r4 q hq
    rw[hz]at w1;injection w1 with w1
    exact .inl ⟨q.2,cs,ee,hq,w1,w2,w3 c1 at3⟩
   ·by_cases hB:B<k
    ·rw[r2 B hB hO,kD,if_pos hB]at hz
     injection hz with hz;exact .inr (.inl hz.symm)
    ·rw[r1]at hl
     obtain⟨w,hw⟩:∃w,L[B-k]? = some w:=⟨_,aG (by omega)⟩
     have:=r3 _ w hw
     rw[show k+(B-k)=B by omega,hz]at this
     exact .inr (.inr (.inl ⟨_,w,by omega,hw,this⟩))
  ·rename_i hl
   obtain⟨i,t,B',rfl,h1,h2⟩:=Oj hz
   have:=mout B (by omega)
   exact .inr (.inr (.inr ⟨i,t,B',rfl,h1,h2,this.1,this.2⟩))
 have ownO:∀b,b∈cS L->¬∃q∈O,q.2=b:=fun b hb ⟨q,hq,e⟩=>(sep.obj q hq).2.1 (by rw[e];exact hb)
 subst hR
 refine⟨c1,rfl,rfl,rfl,rfl,rfl,⟨rfl,?_,?_,?_,?_,?_,?_,⟨aK _,fun b _ _=>rfl⟩,fun b hb=>⟨sep.zb b hb,.inl hb⟩,fun b hb=>hb,fun i b hi=>?_⟩,fun t=>?_,hmO⟩
 ·intro B z hz
  rcases ent B z hz with ⟨b,cs,ee,hb,rfl,w2,w3⟩|rfl|⟨j,w,rfl,hj,z',w1,_,w2⟩|⟨i,t,B',rfl,h1,h2,h3,h4⟩
  ·simp only[BR]
   exact⟨hfO B (Ok _ hb),b,hmO _ hb,ee,w2,w3⟩
  ·trivial
  ·injection w1 with w1;subst w1
   rw[(mnew j w hj).1,(mnew j w hj).2]
   exact w2 c1 rfl rfl rfl rfl
  ·simp only[BR]
   obtain⟨q1,q2,cs,q3⟩:=rtAt h1 h2
   exact⟨h3,h4,q1,q2,_,q3,trivial⟩
 ·intro B B' z z' b hz hz' hw hw' hm hm'
  rcases ent B z hz with ⟨b1,cs,ee,hb,rfl,w2,w3⟩|rfl|⟨j,w,rfl,hj,w1⟩|⟨i,t,B1,rfl,_⟩
  ·rw[ftO _ hb]at hm;simp at hm;subst hm
   rcases ent B' z' hz' with ⟨b2,cs',ee',hb',rfl,w2',w3'⟩|rfl|⟨j',w',rfl,hj',w1'⟩|⟨i,t,B1,rfl,_⟩
   ·rw[ftO _ hb']at hm';simp at hm';subst hm'
    exact sep.objI _ hb _ hb' rfl
   ·cases hw'
   ·rw[ftn j' w' hj']at hm'
    exact(ownO _ (fT hj' hm') ⟨_,hb,rfl⟩).elim
   ·cases hw'
  ·cases hw
  ·rw[ftn j w hj]at hm
   rcases ent B' z' hz' with ⟨b2,cs',ee',hb',rfl,w2',w3'⟩|rfl|⟨j',w',rfl,hj',w1'⟩|⟨i,t,B1,rfl,_⟩
   ·rw[ftO _ hb']at hm';simp at hm';subst hm'
    exact(ownO _ (fT hj hm) ⟨_,hb',rfl⟩).elim
   ·cases hw'
   ·rw[ftn j' w' hj']at hm'
    rw[rC sep.ownN hj hj' hm hm']
   ·cases hw'
  ·cases hw
 ·intro B z hz hw
  rcases ent B z hz with ⟨b1,cs,ee,hb,rfl,w2,w3⟩|rfl|⟨j,w,rfl,hj,w1⟩|⟨i,t,B1,rfl,_⟩
  ·rw[ftO _ hb];simp
  ·cases hw
  ·rw[ftn j w hj];exact uJ sep.ownN hj
  ·cases hw
 ·intro B z b hz hw hm
  rcases ent B z hz with ⟨b1,cs,ee,hb,rfl,w2,w3⟩|rfl|⟨j,w,rfl,hj,w1⟩|⟨i,t,B1,rfl,_⟩
  ·rw[ftO _ hb]at hm;simp at hm;subst hm
   exact⟨.inl (.inr ⟨_,hb,rfl⟩),(sep.obj _ hb).1⟩
  ·cases hw
  ·rw[ftn j w hj]at hm
   exact⟨.inl (.inl (fT hj hm)),(sep.own b (fT hj hm)).1⟩
  ·cases hw
 ·intro B z b hz hw hg hm
  rcases ent B z hz with ⟨b1,cs,ee,hb,rfl,w2,w3⟩|rfl|⟨j,w,rfl,hj,z',w1,w0,_⟩|⟨i,t,B1,rfl,_,_,h3,h4⟩
  ·cases hw
  ·exact(hg rfl).elim
  ·injection w1 with w1;subst w1;rw[w0]at hw;cases hw
  ·simp[Cf.ft,h3,h4]at hm
 ·intro B z b hz hg hm
  rcases ent B z hz with ⟨b1,cs,ee,hb,rfl,w2,w3⟩|rfl|⟨j,w,rfl,hj,w1⟩|⟨i,t,B1,rfl,_,_,h3,h4⟩
  ·rw[ftO _ hb]at hm;simp at hm;subst hm
   exact(sep.obj _ hb).2.2
  ·exact(hg rfl).elim
  ·rw[ftn j w hj]at hm
   exact(sep.own b (fT hj hm)).2
  ·simp[Cf.ft,h3,h4]at hm
 ·obtain⟨t,ht⟩:=rti.only i b hi
  obtain⟨B',b',h3,h4,h5⟩:=rti.at_ _ ht
  have hp:=(rJ h3).2
  have:(.rt i B':jY)∈yA oc:=by
   refine iZ.2 ⟨(i,t),ht,?_⟩
   obtain⟨j,h6,h7⟩:=aZ.1 h3
   injection h7 with h7;injection h7 with h7;subst h7
   simp[h6]
  obtain⟨j,hj⟩:=List.getElem?_of_mem this
  refine⟨st.H.length+j,B',?_⟩
  show (st.H++yA oc)[_]? = _
  rw[fH (by omega)]
  simpa using hj
 ·rcases r5 [] c1 at3 (fun a v h=>h.elim) (fun q hq=>⟨objAt q hq,hmO q hq⟩) t with h|⟨h,_⟩
  ·exact h
  ·rw[h]
   intro cs hcs
   obtain⟨iv,h⟩:=zC hcs
   cases h
theorem Ki {oc:OC} {p:Bool} {Z:Nat->Prop} {h:aN} {rt:Nat->Option Nat} {ivs:List IV} {x:DL oc.inn.hs} {L:Lo} {O:Oo} (sf:SF p Z h rt (fA 0 ivs) (jN oc.inn) Rz oc.inn x L O) (sep:Sep Z h L O) (rti:RtI rt (jN oc.inn) oc.cls O)
 {st:gJ} (e:Dr (roI oc) (jN oc.inn) oc.inn x (List.replicate (fE oc.inn).length .gone)=some st) {c1:Cf} (h1:c1.H=st.H++yA oc):∀q∈O,∃cs,c1.H[q.1]? = some (.obj true cs):=fun q hq=>by
 obtain⟨⟨_,_,_,r4⟩,_⟩:=xI sf e (fun q hq=>by
  obtain⟨t,ht⟩:=sG sf q hq
  have:=cF (rJ ht).2
  simpa using this) sep.objN
 obtain⟨cs,ee,w1,_⟩:=r4 q hq
 exact⟨cs,by rw[h1,bC (cF w1)];exact w1⟩
end Go.Ideal
namespace Go.Ideal
theorem gZ.get_app:∀{a b:gZ} {t:Nat},gZ.get (a++b) t=(gZ.get a t).orElse fun _=>gZ.get b t
 |[],b,t=>rfl
 |(k,v)::a,b,t=>by
  simp only[cG,gZ.get]
  split
  ·rfl
  ·exact gZ.get_app
theorem Fr.get_app:∀{a b:Fr} {t:Nat},Fr.get (a++b) t=(Fr.get a t).orElse fun _=>Fr.get b t
 |[],b,t=>rfl
 |(k,v)::a,b,t=>by
  simp only[cG,Fr.get]
  split
  ·rfl
  ·exact Fr.get_app
def Fj:Nat->List IV->Fr
 |_,[]=>[]
 |j,a::r=>(pE+j,.val a)::Fj (j+1) r
theorem Hx {c:Cf}:∀{as:List AV} {rs:List IV} {j:Nat},jP c as rs->∀t,(gZ.get (tT j as) t=none/\Fr.get (Fj j rs) t=none)\/∃a r,gZ.get (tT j as) t=some (.val a)/\Fr.get (Fj j rs) t=some (.val r)/\Va c a r
 |[],rs,j,h,t=>by simp only[jP]at h;subst h;exact .inl ⟨rfl,rfl⟩
 |a::as,rs,j,h,t=>by
  simp only[jP]at h
  obtain⟨u,v,rfl,h1,h2⟩:=h
  simp only[tT,Fj,gZ.get,Fr.get]
  by_cases e:pE+j=t
  ·rw[if_pos e,if_pos e];exact .inr ⟨a,u,rfl,rfl,h1⟩
  ·rw[if_neg e,if_neg e];exact Hx h2 t
theorem Fi:∀{rs:List IV} {j k:Nat} {r:IV},rs[k]? = some r->Fr.get (Fj j rs) (pE+(j+k))=some (.val r)
 |[],j,k,r,h=>by simp at h
 |a::rs,j,0,r,h=>by simp at h;subst h;simp[Fj,Fr.get]
 |a::rs,j,k+1,r,h=>by
  simp only[Fj,Fr.get]
  rw[if_neg (by omega),show j+(k+1)=(j+1)+k by omega]
  exact Fi (by simpa using h)
theorem Kt:∀{l:gZ} {t:Nat} {v:dP},l.get t=some v->(t,v)∈l
 |[],t,v,h=>by cases h
 |(k,w)::r,t,v,h=>by
  simp only[gZ.get]at h
  split at h
  ·rename_i e;subst e;injection h with h;subst h;simp
  ·exact bT _ (Kt h)
theorem yB {oc:OC} {t:Nat} {v:dP} (h:(sT oc).get t=some v):∃T j,(t,SK.root T)∈oc.inn/\v = .val (.ptr j (.st 0))/\jN oc.inn t=some v:=by
 have h1:=Kt h
 obtain⟨q,h2,h3⟩:=iZ.1 h1
 obtain⟨t',k⟩:=q
 cases k<;>simp only at h3<;>try (cases h3;done)
 obtain⟨v',h4,h5⟩:=aZ.1 h3
 injection h5 with h5 h6
 subst h5;subst h6
 obtain⟨j,_,h7⟩:=aZ.1 h4
 exact⟨_,j,h2,h7.symm,h4⟩
theorem Hh {p:Bool} {Z:Nat->Prop} {h:aN} {rt:Nat->Option Nat} {σ:Fr} {base:Nat->Option dP} {fk:dP->Option SV->Prop} {t:Nat} {T:Ty}:∀{sh:nY} {x:DL sh.hs} {L:Lo} {O:Oo},SF p Z h rt σ base fk sh x L O->(t,SK.root T)∈sh->∃B b,base t=some (.val (.ptr B (.st 0)))/\(B,b)∈O/\σ.get t=some (.val (.ptr b 1 0 0))
 |[],x,L,O,f,hm=>by simp at hm
 |(t0,k)::r,x,L,O,f,hm=>by
  obtain⟨L1,L2,O1,O2,rfl,rfl,f1,f2⟩:=f
  rcases aQ.1 hm with e|hm
  ·injection e with e1 e2;subst e1;subst e2
   obtain⟨B,b,e,h1,h2,_,_,rfl⟩:=f1
   exact⟨B,b,h1,by simp,h2⟩
  ·obtain⟨B,b,h1,h2,h3⟩:=Hh f2 hm
   exact⟨B,b,h1,by simp[h2],h3⟩
section
variable {prog:Nat->Option mO} {opn:Nat->Bool} {cs:Nat->Option Ct} {fns:Nat->Option gM}
theorem Sn (hcs:∀f ct,cs f=some ct->hQ prog opn f ct) {icall:∀R:Type,Nat->List AV->eB->(AV->eB->Option R)->Option R} (hic:∀R,mY prog opn (icall R)) {f:Nat} {af:gM} (hf:prog f=some af.fn) {oc:OC}
 (hF:∀x y,oc.F x=some y->Wu cs opn (fun _ _=>cL) icall af oc x=some y):eU prog opn f oc:=by
 intro p Z h rt ivs x L O hlen sf sep rti y hy
 have e:=hF _ _ hy
 unfold Wu at e
 split at e
 ·rename_i hok
  simp only[aF,decide_eq_true_eq]at hok
  obtain⟨st0,e0,e⟩:=aA.1 e
  simp only[Vi,mB]at e0
  obtain⟨st,e1,e0⟩:=aA.1 e0
  simp only[aD]at e0;subst e0
  obtain⟨c1,h1,h2,h3,h4,h5,g1,hfr,hm1⟩:=Tw sf sep rti e1 rfl
  have g0:G ⟨p,h.length,fun b=>b∈cS L\/∃q∈O,q.2=b,h,Z⟩ [] [] c1 ⟨st.fr,st.H++yA oc⟩ (fA 0 ivs,h):=⟨g1,h1,h2,⟨hfr,rfl,by simp,by simp⟩⟩
  obtain⟨ex,s',hev,st',c',g',le,e2⟩:=Vr hcs hic af.code e g0
  have hst:start af.fn ivs=some (fA 0 ivs):=by
   unfold start;rw[if_pos];rw[hlen];exact hok.2
  have fin:∀(hx:∀i,ex≠.exit i) (e2:Aq st' af.res (fun as=>if decide (as.length=oc.nres)&&tP (st.H++yA oc) st'.H then (Nr [] (fun _=>none) (jN oc.inn) true ⟨tT 0 as++sT oc,st'.H⟩ oc.out).bind fun z=>some z.1 else none)=some y),
   ∃(rs:List IV) (h':aN) (Z':Nat->Prop) (L':Lo) (O':Oo) (σ':Fr),eC prog opn f ivs h=some (gK rs,h')/\rs.length=oc.nres/\
   SF p Z' h' rt σ' (jN oc.inn) Rz oc.out (qQ y) L' O'/\(∀j r,rs[j]? = some r->σ'.get (pE+j)=some (.val r))/\(∀q∈O',q∈O)/\
   UF h.length (fun b=>b∈cS L\/∃q∈O,q.2=b) Z h Z' h' L' O'/\Ns Z Z' h h':=by
   intro hx e2
   obtain⟨as,rs,k1,k2,k3⟩:=tU g' e2
   split at k1
   ·rename_i hc
    simp only[aF,decide_eq_true_eq]at hc
    obtain⟨z,k4,k5⟩:=aA.1 k1
    injection k5 with k5;subst k5
    obtain⟨d,a1,a2,ok,hbx⟩:=zY k4
    have hcall:eC prog opn f ivs h=some (gK rs,s'.2):=by
     rw[rI,hf]
     simp only[aB]
     rw[hst]
     simp only[aB]
     rw[show af.fn.body=af.code.erase from rfl,hev]
     simp only[aB,jU]
     cases ex with
     |exit i=>exact(hx i rfl).elim
     |normal=>exact(congrArg (fun z=>Option.bind z _) k2).trans rfl
     |ret=>exact(congrArg (fun z=>Option.bind z _) k2).trans rfl
    let σ2:Fr:=Fj 0 rs++fA 0 ivs
    have gf2:GF [] [] c' (tT 0 as++sT oc) σ2:=by
     refine⟨fun t=>?_,rfl,by simp,by simp⟩
     simp only[σ2]
     rw[gZ.get_app,Fr.get_app]
     rcases Hx (j:=0) k3 t with ⟨q1,q2⟩|⟨a,r,q1,q2,q3⟩
     ·rw[q1,q2]
      simp only[nZ]
      cases hr:(sT oc).get t with
      |none=>
       intro cs hcs
       obtain⟨iv,hh⟩:=zC hcs
       cases hh
      |some v=>
       obtain⟨T,j,q3,rfl,q4⟩:=yB hr
       obtain⟨B,b,q5,q6,q7⟩:=Hh sf q3
       rw[q4]at q5;injection q5 with q5;injection q5 with q5;injection q5 with q5;subst q5
       refine⟨_,q7,cY.le le ?_⟩
       obtain⟨cs',hB⟩:∃cs',c1.H[j]? = some (.obj true cs'):=by
        have:=hfr t
        exact Ki sf sep rti e1 h1 _ q6
       simp only[cY,Va]
       exact⟨rfl,lV.mk (o:=.st 0) hB (hm1 _ q6)⟩
     ·rw[q1,q2]
      exact⟨_,rfl,q3⟩
    have ncst:∀{t i},(tT 0 as++sT oc).get t≠some (.cst i):=by
     intro t i hh
     rw[gZ.get_app]at hh
     rcases Hx (j:=0) k3 t with ⟨q1,q2⟩|⟨a,r,q1,q2,q3⟩
     ·rw[q1]at hh
      simp only[nZ]at hh
      obtain⟨_,_,_,h6,_⟩:=yB hh
      cases h6
     ·rw[q1]at hh;cases hh
    obtain⟨L',O',sf',hu'⟩:=rZ (T:=[]) (TI:=[]) (st:=⟨tT 0 as++sT oc,st'.H⟩) (s:=(σ2,s'.2)) (fk:=Rz) (Z:=oV c' z.2) g'.gh.blk (fun b hb=>.inl hb) g'.H gf2 (fun t _ ⟨i,hh,_⟩=>(ncst hh).elim) (.inl rfl) a1 (fun B hB b hm=>.inr ⟨B,hB,hm⟩)
    rw[<-g'.H]at ok
    have uf:=Cx g'.gh hu' ok
    have hp:c'.p=p:=le.p.trans h3
    have hh:c'.h=s'.2:=g'.h
    have hrt:c'.rt=rt:=by
     funext i
     cases hi:rt i with
     |some b=>exact le.rt i b (by rw[h5];exact hi)
     |none=>
      cases hi':c'.rt i with
      |none=>rfl
      |some b=>
       obtain⟨j,B,q1⟩:=g'.gh.rtd i b hi'
       rw[g'.H]at q1
       obtain⟨j',B',q2⟩:=Dc hc.2 q1
       have:=g1.blk j' _ (by rw[h1];exact q2)
       simp only[BR]at this
       exact(this.2.2.2.1 (by rw[h5];exact hi)).elim
    rw[hp,hrt]at sf'
    rw[hh]at sf' uf
    refine⟨rs,s'.2,oV c' z.2,L',O',σ2,hcall,by rw[k3.len];exact hc.1,by rw[a2,mB];exact sf',fun j r hj=>?_,fun q hq=>?_,uf,?_⟩
    ·simp only[σ2];rw[Fr.get_app]
     have:=Fi (j:=0) hj
     rw[bV]at this
     rw[this];rfl
    ·obtain⟨t,ht⟩:=sG sf' q hq
     obtain⟨j,hj,hj2⟩:=aZ.1 ht
     injection hj2 with hj2;injection hj2 with hj2;subst hj2
     obtain⟨B,b0,q1,q2⟩:=Eo sf t (aL (Dg hj))
     rw[ht]at q1;injection q1 with q1;injection q1 with q1;injection q1 with q1;subst q1
     obtain⟨cs',hB⟩:=Ki sf sep rti e1 h1 _ q2
     have m1:=(le.H _ _ hB).1
     have m2:=(hu'.o q hq).1
     rw[m1,hm1 _ q2]at m2
     injection m2 with m2
     have m2:b0=q.2:=m2
     subst m2;exact q2
    ·exact⟨fun b hb=>.inl (le.Z.z b (by rw[h4];exact hb)),fun b hb=>by rw[<-hh,<-h2];exact le.Z.h b (by rw[h4];exact hb)⟩
   ·cases k1
  cases ex with
  |exit i=>cases e2
  |normal=>exact fin (by simp) e2
  |ret=>exact fin (by simp) e2
 ·cases e
theorem Dt (hcs:∀f ct,cs f=some ct->hQ prog opn f ct) {os:Nat->Option OC} (hos:∀f oc,os f=some oc->eU prog opn f oc) (hfns:∀f af,fns f=some af->prog f=some af.fn):∀(n:Nat) (R:Type),mY prog opn (Ma cs opn (fun _ _=>cL) os fns n R)
 |0,R=>by
  intro f args H k r e R c ivs g hH h
  simp only[Ma]at e
  obtain⟨oc,e1,e⟩:=aA.1 e
  subst hH
  exact Fs (hos f oc e1) g h e
 |n+1,Rr=>by
  intro f args H k r e R c ivs g hH h
  simp only[Ma]at e
  split at e
  ·rename_i oc e1
   subst hH
   exact Fs (hos f oc e1) g h e
  ·obtain⟨af,e1,e⟩:=aA.1 e
   obtain⟨rs,s',h1,as,st',c',g',hh,hH',le,hv,hk⟩:=Aa hcs (Dt hcs hos hfns n) (hfns f af e1) e g hH h
   exact⟨gK rs,s'.2,h1,oP as,c',g',hh,le,vM hv,by rw[hH'];exact hk⟩
end
end Go.Ideal
namespace Go.Ideal
instance {n:Nat}:OfNat SX n:=⟨.t n⟩
def ci (n:Int):SX:=.c (.int .i64 n)
def ia (d:Nat) (o:gQ) (i:Nat):cH:=⟨i,none,some d,o⟩
def ib (o:gQ) (i:Nat):cH:=⟨i,none,none,o⟩
def ic (t:Nat) (w:Bool) (d:Nat) (o:gQ) (i:Nat):cH:=⟨i,some (t,w),some d,o⟩
def nuF:Nat->List (Nat->cH)->List cH
 |_,[]=>[]
 |i,f::r=>f i::nuF (i+1) r
def nu (l:List (Nat->cH)):List cH:=nuF 0 l
def dR (prog:Nat->Option mO) (opn:Nat->Bool):List (Nat×OC)->Prop
 |[]=>True
 |(f,c)::r=>eU prog opn f c/\dR prog opn r
theorem Dj {prog:Nat->Option mO} {opn:Nat->Bool}:∀{l:List (Nat×OC)},dR prog opn l->∀f oc,kG l f=some oc->eU prog opn f oc
 |[],_,f,ct,h=>by simp[kG]at h
 |(g,c)::r,hl,f,ct,h=>by
  simp only[kG]at h
  split at h
  ·rename_i e;simp at h;subst h
   rw[lF e];exact hl.1
  ·exact Dj hl.2 f ct h
section
variable (opn:Nat->Bool) (cs:List (Nat×Ct)) (os:List (Nat×OC)) (fns:List (Nat×gM))
noncomputable def theC (af:gM) (args res:List qL) (fresh:Bool) (x:(cW (args.map (·.t))).den):Option (cW (res.map (·.t))).den:=
 So (kG cs) opn (fun _ _=>cL) (Ma (kG cs) opn (fun _ _=>cL) (kG os) (kG fns) 10) af args res fresh x
noncomputable def theO (af:gM) (oc:OC) (x:(cW oc.inn.hs).den):Option (cW oc.out.hs).den:=
 Wu (kG cs) opn (fun _ _=>cL) (Ma (kG cs) opn (fun _ _=>cL) (kG os) (kG fns) 10) af oc x
end
section
variable {prog:Nat->Option mO} {opn:Nat->Bool} {cs:List (Nat×Ct)} {os:List (Nat×OC)} {fns:List (Nat×gM)}
theorem Si (hcs:gI prog opn cs) (hos:dR prog opn os) (hfns:Cv prog fns) {f:Nat} {af:gM} (hf:prog f=some af.fn) {args res:List qL} {fresh:Bool} (hd:(uQ args&&uQ res)=true)
 {F:(cW (args.map (·.t))).den->Option (cW (res.map (·.t))).den} (hF:∀x,theC opn cs os fns af args res fresh x=F x):hQ prog opn f ⟨args,res,fresh,F⟩:=
 Ju (xT hcs) (Dt (xT hcs) (Dj hos) (Iq hfns) 10) hf hd fun x r h=>(hF x).trans h
theorem Sh (hcs:gI prog opn cs) (hos:dR prog opn os) (hfns:Cv prog fns) {f:Nat} {af:gM} (hf:prog f=some af.fn) {oc:OC}
 (hF:∀x,theO opn cs os fns af oc x=oc.F x):eU prog opn f oc:=
 Sn (xT hcs) (Dt (xT hcs) (Dj hos) (Iq hfns) 10) hf fun x r h=>(hF x).trans h
end
end Go.Ideal
namespace Go.Ideal
def mv (d:Nat) (x:SX):Nat->cH:=ia d (.mov x)
def ld (d:Nat) (x:SX):Nat->cH:=ia d (.load none x)
def fa (d o:Nat) (x:SX):Nat->cH:=ia d (.fadr o x)
def bn (d:Nat) (o:BinOp) (x y:SX):Nat->cH:=ia d (.bin o x y)
def cl (d f:Nat) (l:List SX):Nat->cH:=ia d (.call f l)
def et (d:Nat) (x:SX) (i:Nat):Nat->cH:=ia d (.ext x i)
def sr (l:List (Nat->cH)) (live:List Nat) (a:iH):iH:=.seq (.reg (nu l) live) a
def rg (l:List (Nat->cH)) (live:List Nat):iH:=.reg (nu l) live
def sq (a b:iH):iH:=.seq a b
def cd (t:Nat) (a b:iH):iH:=.cond (.t t) a b
def vi:SK:=.val false false ⟨false,.int .i64⟩
def vb:SK:=.val false false ⟨false,.bool⟩
def kp (l:List Nat) (s:nY):nY:=l.map (fun t=>(t,SK.keep))++s
section
variable {prog:Nat->Option mO} {opn:Nat->Bool} {cs:List (Nat×Ct)} {os:List (Nat×OC)} {fns:List (Nat×gM)}
theorem lO (hcs:gI prog opn cs) (hos:dR prog opn os) (hfns:Cv prog fns) {f:Nat} (c:Ct) (af:gM) (hf:prog f=some af.fn) (hd:(uQ c.args&&uQ c.res)=true)
 (hF:∀x,theC opn cs os fns af c.args c.res c.fresh x=c.F x):hQ prog opn f c:=Si hcs hos hfns hf hd hF
theorem jI (hcs:gI prog opn cs) (hos:dR prog opn os) (hfns:Cv prog fns) {f:Nat} (c:OC) (af:gM) (hf:prog f=some af.fn)
 (hF:∀x,theO opn cs os fns af c x=c.F x):eU prog opn f c:=Sh hcs hos hfns hf hF
end
def Df (l:List (Nat×gM)) (f:Nat):Option mO:=(kG l f).map gM.fn
def Vu (P:Program) (opn:Nat->Bool):List (Nat×gM)->Prop
 |[]=>True
 |(f,a)::r=>cO P opn f a.fn/\Vu P opn r
theorem Pp {P:Program} {opn:Nat->Bool}:∀{l:List (Nat×gM)},Vu P opn l->∀f sf,Df l f=some sf->cO P opn f sf
 |[],_,f,sf,h=>by simp[Df,kG]at h
 |(g,a)::r,hl,f,sf,h=>by
  unfold Df at h
  simp only[kG]at h
  split at h
  ·rename_i e
   simp only[cK,aD]at h
   subst h
   rw[lF e]
   exact hl.1
  ·exact Pp hl.2 f sf h
end Go.Ideal
