/- States made of data. -/
import Derived.Test.YtbkfoogenhinfaaJb
import Derived.KernelRfl
import Derived.IntWalk
set_option linter.unusedVariables false
set_option linter.unusedSimpArgs false
set_option linter.unusedSectionVars false
namespace Go.Ideal
theorem OwnF.va {p Z h} {t:Ty} {x:List t.den} {iv:IV} {mb:Option Nat} (f:OwnF p Z h t x iv mb) {c:Cf} {B:Nat} {hp ln:Bool} (hB:c.H[B]? = some (.arr true hp ln t x)) (hm:c.m B=mb):Va c (.own B) iv:=by
 simp only[Va]
 refine⟨?_,.inr ⟨_,_,_,_,_,hB,by rw[hm];exact f.1⟩⟩
 have:=f.1
 unfold OwnR at this
 split at this
 ·rcases this with rfl|rfl<;>rfl
 ·subst this;rfl
section
variable {p:Bool} {Z:Nat→Prop} {h:Heap} {rt ro:Nat→Option Nat}
theorem OwnF.inv {t:Ty} {x:List t.den} {iv:IV} {mb:Option Nat} (f:OwnF p Z h t x iv mb) {H:AHp}:InvF p Z h rt ro H ([.own H.length],H++[.arr true (!t.flat) (!t.flat) t x]) [iv] [(mb,[])]:=by
 refine .one rfl (fun c k1 k2 k3 k4=>?_) (fun c k1 k2 k3=>?_)
 ·simp only[BR,true_and]
  have:=f.2
  cases mb with
  |none=>exact this
  |some b=>
   obtain⟨es,h1,h2⟩:=this
   exact⟨es,by rw[k3];exact h1,by rw[k1,k2,k3];exact h2.imp fun a b h=>TR.nf h⟩
 ·have hv:=f.va (c:=c) (B:=H.length) k1 k2
  exact(cell_val rfl).2 ⟨iv,rfl,one_iv rfl hv,hv⟩
theorem invC_ok:∀{cs:List SC} {x:DL (cs.map SC.hole)} {ivs:List IV} {L:Lo} {H:AHp},CF p Z h rt cs x ivs L→InvF p Z h rt ro H (invC ro cs x H) ivs L
 |[],x,ivs,L,H,f=>by
  obtain⟨rfl,rfl⟩:=f
  exact⟨by simp[invC],fun i _=>rfl,fun j mb hj=>by simp at hj,fun c3 _=>by simp[invC,Cas]⟩
 |.ty hp ln t::r,x,ivs,L,H,f=>by
  obtain⟨u,v,rfl,h1,h2⟩:=f
  exact(InvF.pure h1).app (invC_ok (H:=H) h2)
 |.mark::r,x,ivs,L,H,f=>by
  obtain⟨v,rfl,h2⟩:=f
  have h1:InvF p Z h rt ro H ([.mark],H) [.mark] []:=⟨by simp,fun _ _=>rfl,by simp,fun c3 a3=>by rw[Cas.single];simp[Ca]⟩
  exact h1.app (invC_ok (H:=H) h2)
 |.own t::r,x,ivs,L,H,f=>by
  obtain⟨iv,v,mb,L',rfl,rfl,h1,h2⟩:=f
  exact(h1.inv (H:=H)).app (invC_ok h2)
 |.ow k t::r,x,ivs,L,H,f=>by
  obtain⟨u,v,M,N,rfl,rfl,h1,h2⟩:=f
  exact(invT_ok (ro:=ro) (H:=H) h1).app (invC_ok h2)
variable {σ:Fr} {base:Nat→Option ASV} {fk:ASV→Option SV→Prop}
def ObjF (p:Bool) (Z:Nat→Prop) (h:Heap) (rt ro:Nat→Option Nat) (lo:Nat) (H:AHp) (L:Lo) (B b:Nat):Prop:=
 ∃cs e,H[B]? = some (.obj true cs)∧h[b]? = some (some ⟨e.length,[e]⟩)∧∀c3,At3 p Z h rt ro c3 lo H L→Cas c3 cs e
structure KOk (p:Bool) (Z:Nat→Prop) (h:Heap) (rt ro:Nat→Option Nat) (H H':AHp) (L:Lo) (O:Oo):Prop where
 len:H'.length=H.length+L.length
 old:∀i,i<H.length→i∉O.map Prod.fst→H'[i]? = H[i]?
 new:∀j q,L[j]? = some q→NewB p Z h rt (H'[H.length+j]?) q
 obj:∀q∈O,ObjF p Z h rt ro H.length H' L q.1 q.2
theorem KOk.of {H:AHp} {y:List AV×AHp} {ivs:List IV} {L:Lo} (a:InvF p Z h rt ro H y ivs L):KOk p Z h rt ro H y.2 L []:=⟨a.len,fun i hi _=>a.old i hi,a.new,by simp⟩
theorem KOk.set {H:AHp} {y:List AV×AHp} {e:List IV} {L:Lo} {B b:Nat} (a:InvF p Z h rt ro H y e L) (hBl:B<H.length) (h2:h[b]? = some (some ⟨e.length,[e]⟩)):KOk p Z h rt ro H (y.2.set B (.obj true y.1)) L [(B,b)]:=by
 have q1:=a.len
 refine⟨by simp only[List.length_set];exact q1,fun i hi hn=>?_,fun j mb hj=>?_,fun q hq=>?_⟩
 ·simp at hn
  rw[getE_set_ne hn];exact a.old i hi
 ·rw[getE_set_ne (by omega)];exact a.new j mb hj
 ·simp at hq;subst hq
  refine⟨y.1,e,by rw[List.getElem?_set,if_pos rfl,if_pos (by omega)],h2,fun c3 a3=>a.cas c3 ⟨a3.p,a3.Z,a3.h,a3.rt,a3.ro,fun i hi hl=>?_,a3.m⟩⟩
  rw[a3.H i hi (by simpa using hl)]
  rw[getE_set_ne (by omega)]
def isG:SK→Bool
 |.groot _=>true
 |_=>false
theorem invK_ok {t:Nat} {k:SK} {x:DL k.hs} {L:Lo} {O:Oo} {H:AHp} {y:Option ASV×AHp} (f:KF p Z h rt σ base fk t k x L O) (e:invK ro base t k x H=some y) (hO:∀q∈O,q.1<H.length):
 KOk p Z h rt ro H y.2 L O∧(y.1=none→isG k=true)∧
  ∀TI c3 a,y.1=some a→At3 p Z h rt ro c3 H.length y.2 L→(∀a v,fk a v→FR TI c3 (some a) v)→(∀q∈O,(∃cs,c3.H[q.1]? = some (.obj true cs))∧c3.m q.1=some q.2)→FR TI c3 (some a) (σ.get t):=by
 cases k with
 |keep=>
  obtain⟨f,rfl,rfl⟩:=f
  simp only[invK]at e
  obtain⟨a,e1,e⟩:=bind_some'.1 e
  simp at e;subst e
  exact⟨⟨by simp,fun i _ _=>rfl,by simp,by simp⟩,by simp,fun TI c3 a ha a3 hfk _=>by simp at ha;subst ha;exact hfk _ _ (f _ e1)⟩
 |val hp ln v=>
  obtain⟨⟨iv,h1,h2⟩,rfl,rfl⟩:=f
  simp only[invK]at e
  obtain⟨a,e1,e⟩:=bind_some'.1 e
  simp at e;subst e
  refine⟨⟨by simp,fun i _ _=>rfl,by simp,by simp⟩,by simp,fun TI c3 a ha a3 hfk _=>?_⟩
  simp at ha;subst ha
  exact⟨_,h1,ofV_ok (c:=c3) e1 (by rw[a3.p,a3.Z,a3.h];exact h2)⟩
 |own u=>
  obtain⟨iv,mb,h1,h2,rfl,rfl⟩:=f
  simp only[invK,Option.some.injEq]at e;subst e
  have hi:=h2.inv (rt:=rt) (ro:=ro) (H:=H)
  refine⟨.of hi,by simp,fun TI c3 a ha a3 hfk _=>?_⟩
  simp at ha;subst ha
  obtain⟨iv',q1,_,q2⟩:=(cell_val rfl).1 (Cas.single.1 (hi.cas c3 a3))
  simp at q1;subst q1
  exact⟨_,h1,q2⟩
 |box cs=>
  obtain⟨ivs,h1,h2,rfl⟩:=f
  simp only[invK,Option.some.injEq]at e;subst e
  have hi:=invC_ok (ro:=ro) (H:=H) h2
  refine⟨.of hi,by simp,fun TI c3 a ha a3 hfk _=>?_⟩
  simp at ha;subst ha
  exact⟨_,h1,hi.cas c3 a3⟩
 |obj cs=>
  obtain⟨B,b,ee,hb,h1,h2,h3,rfl⟩:=f
  simp only[invK,hb,Option.some.injEq]at e;subst e
  have hi:=invC_ok (ro:=ro) (H:=H) h3
  refine⟨.set hi (hO (B,b) (by simp)) h2,by simp,fun TI c3 a ha a3 hfk ho=>?_⟩
  simp at ha;subst ha
  obtain⟨⟨cs',ho1⟩,ho2⟩:=ho (B,b) (by simp)
  exact⟨_,h1,by simp only[SVa,Va];exact⟨rfl,PtrR.mk (o:=.st 0) ho1 ho2⟩⟩
 |root u=>
  obtain⟨B,b,ee,hb,h1,h2,h3,rfl⟩:=f
  simp only[invK,hb,Option.some.injEq]at e;subst e
  have hi:=invT_ok (ro:=ro) (H:=H) h3
  refine⟨.set hi (hO (B,b) (by simp)) h2,by simp,fun TI c3 a ha a3 hfk ho=>?_⟩
  simp at ha;subst ha
  obtain⟨⟨cs',ho1⟩,ho2⟩:=ho (B,b) (by simp)
  exact⟨_,h1,by simp only[SVa,Va];exact⟨rfl,PtrR.mk (o:=.st 0) ho1 ho2⟩⟩
 |groot u=>
  obtain⟨B,b,ee,hb,h2,h3,rfl⟩:=f
  simp only[invK,hb,Option.some.injEq]at e;subst e
  have hi:=invT_ok (ro:=ro) (H:=H) h3
  exact⟨.set hi (hO (B,b) (by simp)) h2,fun _=>rfl,fun TI c3 a ha=>by simp at ha⟩
 |agw u=>
  obtain⟨ivs,h1,h2,rfl⟩:=f
  simp only[invK,Option.some.injEq]at e;subst e
  have hi:=invT_ok (ro:=ro) (H:=H) h2
  refine⟨.of hi,by simp,fun TI c3 a' ha' a3 hfk _=>?_⟩
  simp at ha';subst ha'
  exact⟨_,h1,by simp only[SVa,Va];exact⟨_,rfl,hi.cas c3 a3⟩⟩
 |ow k u=>
  obtain⟨iv,h1,h2,rfl⟩:=f
  simp only[invK]at e
  have hi:=invT_ok (ro:=ro) (H:=H) h2
  split at e
  ·rename_i a ha
   simp only[Option.some.injEq]at e;subst e
   refine⟨.of hi,by simp,fun TI c3 a' ha' a3 hfk _=>?_⟩
   simp at ha';subst ha'
   have:=hi.cas c3 a3
   rw[ha,Cas.single]at this
   have ho:a.one=true:=by
    have hl:=(Ca.len this).1
    have h1:=(Ca.len this).2
    cases k<;>simp only[invT]at ha
    ·split at ha<;>(simp at ha;subst ha;rfl)
    ·simp at ha;subst ha;rfl
    ·simp at ha;subst ha;rfl
    ·split at ha<;>(simp at ha;subst ha;rfl)
   obtain⟨iv',q1,_,q2⟩:=(cell_val ho).1 this
   simp at q1;subst q1
   exact⟨_,h1,q2⟩
  ·cases e
theorem invS_ok:∀{sh:Shp} {x:DL sh.hs} {L:Lo} {O:Oo} {H:AHp} {y:ASt},SF p Z h rt σ base fk sh x L O→invS ro base sh x H=some y→(∀q∈O,q.1<H.length)→(O.map Prod.fst).Nodup→
 KOk p Z h rt ro H y.H L O∧
  ∀TI c3,At3 p Z h rt ro c3 H.length y.H L→(∀a v,fk a v→FR TI c3 (some a) v)→(∀q∈O,(∃cs,c3.H[q.1]? = some (.obj true cs))∧c3.m q.1=some q.2)→
   ∀t,(FR TI c3 (y.fr.get t) (σ.get t))∨(y.fr.get t=none∧∀q∈sh,q.1=t→isG q.2=true)
 |[],x,L,O,H,y,f,e,hO,hn=>by
  obtain⟨rfl,rfl⟩:=f
  simp[invS]at e;subst e
  exact⟨⟨by simp,fun i _ _=>rfl,by simp,by simp⟩,fun TI c3 a3 hfk _ t=>.inr ⟨rfl,by simp⟩⟩
 |(t0,k)::r,x,L,O,H,y,f,e,hO,hn=>by
  obtain⟨L1,L2,O1,O2,rfl,rfl,f1,f2⟩:=f
  simp only[invS]at e
  obtain⟨y1,e1,e⟩:=bind_some'.1 e
  obtain⟨z,e2,e⟩:=bind_some'.1 e
  simp only[Option.some.injEq]at e;subst e
  obtain⟨⟨q1,q2,q3,q4⟩,qg,q5⟩:=invK_ok f1 e1 (fun q hq=>hO q (by simp[hq]))
  rw[List.map_append,List.nodup_append]at hn
  obtain⟨n1,n2,n3⟩:=hn
  have hO2:∀q∈O2,q.1<H.length:=fun q hq=>hO q (by simp[hq])
  obtain⟨⟨p1,p2,p3,p4⟩,p5⟩:=invS_ok f2 e2 (fun q hq=>by have:=hO2 q hq;omega) n2
  have hmem:∀{i},i∈O2.map Prod.fst→i<H.length:=fun hi=>by obtain⟨q,hq,rfl⟩:=List.mem_map.1 hi;exact hO2 q hq
  have hsame:∀i,H.length≤i→i<y1.2.length→z.H[i]? = y1.2[i]?:=fun i hi hl=>p2 i hl (fun hm=>by have:=hmem hm;omega)
  have mono:∀{c3},At3 p Z h rt ro c3 H.length z.H (L1++L2)→At3 p Z h rt ro c3 H.length y1.2 L1:=fun a3=>a3.left q1 hsame (by rw[p1];omega)
  have mono2:∀{c3},At3 p Z h rt ro c3 H.length z.H (L1++L2)→At3 p Z h rt ro c3 y1.2.length z.H L2:=fun a3=>a3.right q1
  refine⟨⟨by simp only[List.length_append];rw[p1,q1];omega,fun i hi hn=>?_,fun j mb hj=>?_,fun q hq=>?_⟩,fun TI c3 a3 hfk ho t=>?_⟩
  ·simp only[List.map_append,List.mem_append,not_or]at hn
   rw[p2 i (by omega) hn.2,q2 i hi hn.1]
  ·rw[List.getElem?_append]at hj
   split at hj
   ·rename_i hl
    simp only
    rw[hsame _ (by omega) (by omega)];exact q3 j mb hj
   ·rename_i hl
    have:=p3 _ mb hj
    rw[q1,show H.length+L1.length+(j-L1.length)=H.length+j by omega]at this
    exact this
  ·rcases List.mem_append.1 hq with hq|hq
   ·obtain⟨cs,ee,w1,w2,w3⟩:=q4 q hq
    refine⟨cs,ee,?_,w2,fun c3 a3=>w3 c3 (mono a3)⟩
    have hlt:=hO q (by simp[hq])
    rw[p2 q.1 (by omega) (fun hm=>n3 q.1 (List.mem_map.2 ⟨q,hq,rfl⟩) q.1 hm rfl)];exact w1
   ·obtain⟨cs,ee,w1,w2,w3⟩:=p4 q hq
    exact⟨cs,ee,w1,w2,fun c3 a3=>w3 c3 (mono2 a3)⟩
  ·have rest:=p5 TI c3 (mono2 a3) hfk (fun q hq=>ho q (by simp[hq])) t
   cases ha:y1.1 with
   |none=>
    simp only[putF]
    rcases rest with w|⟨w1,w2⟩
    ·exact .inl w
    ·refine .inr ⟨w1,fun q hq=>?_⟩
     rcases List.mem_cons.1 hq with rfl|hq
     ·intro _;exact qg ha
     ·exact w2 q hq
   |some a=>
    simp only[putF,AFr.get]
    split
    ·rename_i ht;subst ht
     exact .inl (q5 TI c3 a ha (mono a3) hfk (fun q hq=>ho q (by simp[hq])))
    ·rename_i hne
     rcases rest with w|⟨w1,w2⟩
     ·exact .inl w
     ·refine .inr ⟨w1,fun q hq=>?_⟩
      rcases List.mem_cons.1 hq with rfl|hq
      ·exact fun h=>(hne h).elim
      ·exact w2 q hq
end
end Go.Ideal
set_option linter.unusedVariables false
set_option linter.unusedSimpArgs false
set_option linter.unusedSectionVars false
namespace Go.Ideal
theorem roB_wr (x:ABlk):(roB x).wr=false:=by cases x<;>rfl
theorem BR_roB {c:Cf} {x:ABlk} {m:Option Nat} {f:List Nat} (h:BR c x m f):BR c (roB x) m f:=by
 cases x with
 |gone=>trivial
 |arr=>simpa only[roB,BR]using h
 |obj=>simpa only[roB,BR]using h
 |arr2 wr t l op=>cases op<;>simpa only[roB,BR]using h
 |fold=>simpa only[roB,BR]using h
 |rt=>exact h
theorem blkLe_roB (m:Option Nat) (x:ABlk):roB x = .gone∨blkLe m x (roB x):=by cases x<;>simp[roB,blkLe]
def isOb:ABlk→Bool
 |.obj _ _=>true
 |.fold _ _ _=>true
 |_=>false
section
variable {Rt:Run} {c:Cf} {H0:AHp} {Z3:Nat→Prop} {h3:Heap} {rt3:Nat→Option Nat} {σ:Fr} {base:Nat→Option ASV} {fk:ASV→Option SV→Prop} {sh:Shp} {x:DL sh.hs} {L:Lo} {O:Oo} {y:ASt}
structure Rsh (Rt:Run) (c:Cf) (H0:AHp) (Z3:Nat→Prop) (h3:Heap) (rt3:Nat→Option Nat) (L:Lo) (O:Oo):Prop where
 len:H0.length=c.H.length
 br:BRs c
 p:c.p=Rt.p
 rt:∀i b,c.rt i=some b→rt3 i=some b
 kept:∀(i:Nat) x',H0[i]? = some x'→i∉O.map Prod.fst→x' = .gone∨∃x,c.H[i]? = some x∧(x'=x∨x'=roB x)∧∀b,b∈c.ft i→h3[b]? = c.h[b]?∧b<h3.length∧
  (x'.wr=true→(Rt.O0 b∨Rt.N≤b)∧¬Z3 b∧b∉foot L∧∀q∈O,q.2≠b)∧(x'.wr=false→b<Rt.N∧¬Rt.O0 b)
 inj:∀(B B':Nat) x x' b,H0[B]? = some x→H0[B']? = some x'→x.wr=true→x'.wr=true→b∈c.ft B→b∈c.ft B'→B=B'
 nd:∀(B:Nat) x,H0[B]? = some x→x.wr=true→(c.ft B).Nodup
 obj:∀q∈O,c.m q.1=some q.2∧(∃x0,c.H[q.1]? = some x0∧isOb x0=true)∧(Rt.O0 q.2∨Rt.N≤q.2)∧¬Z3 q.2∧q.2∉foot L∧q.2<h3.length
 rtd:∀i b,rt3 i=some b→∃(j:Nat) (B:Nat),H0[j]? = some (.rt i B)
 rtO:∀q∈O,∀i B,H0[q.1]?≠some (.rt i B)
 objN:(O.map Prod.fst).Nodup
 objI:∀q∈O,∀q'∈O,q.2=q'.2→q.1=q'.1
 own:∀b∈foot L,(Rt.O0 b∨Rt.N≤b)∧¬Z3 b∧b<h3.length
 ownN:(foot L).Nodup
 zle:ZLe c.Z Z3 c.h h3
 zb:∀b,Z3 b→b<h3.length∧(Rt.Z0 b∨Rt.O0 b∨Rt.N≤b)
 z0:∀b,Rt.Z0 b→Z3 b
 base:Rt.N≤h3.length∧∀b,b<Rt.N→¬Rt.O0 b→h3[b]? = Rt.h0[b]?
theorem roB_rt {x:ABlk} {i B:Nat} (h:roB x = .rt i B):x = .rt i B:=by cases x<;>simp[roB]at h;simp[h]
theorem reshape (q:Rsh Rt c H0 Z3 h3 rt3 L O) (f:SF c.p Z3 h3 rt3 σ base fk sh x L O) (e:invS (roOf H0) base sh x H0=some y):
 ∃c3,c3 = { p:=c.p,H:=y.H,m:=newM c L,Z:=Z3,h:=h3,f:=newFt c L (O.map Prod.fst),rt:=rt3 }∧GH Rt c3∧Le c c3∧
  ∀TI,(∀a v,fk a v→FR TI c3 (some a) v)→∀t,(FR TI c3 (y.fr.get t) (σ.get t))∨(y.fr.get t=none∧∀q∈sh,q.1=t→isG q.2=true):=by
 have hOlt:∀z∈O,z.1<H0.length:=fun z hz=>by
  obtain⟨_,⟨x0,h,_⟩,_⟩:=q.obj z hz
  rw[q.len];exact getE_lt h
 obtain⟨⟨r1,r2,r3,r4⟩,r5⟩:=invS_ok f e hOlt q.objN
 generalize hc3:({ p:=c.p,H:=y.H,m:=newM c L,Z:=Z3,h:=h3,f:=newFt c L (O.map Prod.fst),rt:=rt3 }:Cf)=c3
 have c3p:c3.p=c.p:=by rw[←hc3]
 have c3H:c3.H=y.H:=by rw[←hc3]
 have c3Z:c3.Z=Z3:=by rw[←hc3]
 have c3h:c3.h=h3:=by rw[←hc3]
 have c3rt:c3.rt=rt3:=by rw[←hc3]
 have hn:∀i,i<c.H.length→c3.m i=c.m i:=fun i hi=>by rw[←hc3];simp[newM,hi]
 have hf:∀i,i<c.H.length→i∉O.map Prod.fst→c3.f i=c.f i:=fun i hi hne=>by rw[←hc3];simp only[newFt,if_neg hne,if_pos hi]
 have hfO:∀i,i∈O.map Prod.fst→c3.f i=[]:=fun i hi=>by rw[←hc3];simp only[newFt,if_pos hi]
 have mnew:∀j z,L[j]? = some z→c3.m (c.H.length+j)=z.1∧c3.f (c.H.length+j)=z.2:=fun j z hj=>by
  have h1:¬(c.H.length+j<c.H.length):=by omega
  have h0:c.H.length+j∉O.map Prod.fst:=fun h=>by
   obtain⟨z,hz,h2⟩:=List.mem_map.1 h
   have:=hOlt z hz
   rw[q.len]at this;omega
  rw[←hc3]
  simp only[newM,newFt,if_neg h0,if_neg h1,show c.H.length+j-c.H.length=j by omega,hj,Option.map_some,Option.getD_some,and_self]
 have ftk:∀i,i<c.H.length→i∉O.map Prod.fst→c3.ft i=c.ft i:=fun i hi hne=>by simp only[Cf.ft,hn i hi,hf i hi hne]
 have ftO:∀z∈O,c3.ft z.1=[z.2]:=fun z hz=>by
  obtain⟨h1,⟨x0,h2,_⟩,_⟩:=q.obj z hz
  simp[Cf.ft,hn z.1 (getE_lt h2),h1,hfO z.1 (List.mem_map.2 ⟨z,hz,rfl⟩)]
 have ftn:∀j z,L[j]? = some z→c3.ft (c.H.length+j)=z.1.toList++z.2:=fun j z hj=>by simp only[Cf.ft,(mnew j z hj).1,(mnew j z hj).2]
 have old:∀(i:Nat),i<c.H.length→(∃b,(i,b)∈O)∨(i∉O.map Prod.fst∧y.H[i]? = H0[i]?):=fun i hi=>by
  by_cases hm:i∈O.map Prod.fst
  ·obtain⟨z,hz,rfl⟩:=List.mem_map.1 hm
   exact .inl ⟨z.2,hz⟩
  ·exact .inr ⟨hm,r2 i (by rw[q.len];exact hi) hm⟩
 have le:Le c c3:=by
  refine⟨c3p,fun B xx hB=>?_,by rw[c3Z,c3h];exact q.zle,fun i b h=>by rw[c3rt];exact q.rt i b h⟩
  have hl:=getE_lt hB
  refine⟨hn B hl,?_⟩
  rw[c3H]
  rcases old B hl with ⟨b,hb⟩|⟨hm,hh⟩
  ·obtain⟨cs,ee,w1,_⟩:=r4 _ hb
   obtain⟨h0,⟨x0,h1,hx0⟩,_⟩:=q.obj _ hb
   simp only at h1 w1 h0
   rw[hB]at h1;injection h1 with h1;subst h1
   refine⟨_,w1,.inr ?_⟩
   cases xx<;>simp only[isOb]at hx0<;>first|(cases hx0;done)|skip
   ·trivial
   ·simp only[blkLe,h0];simp
  ·rw[hh]
   have:∃x',H0[B]? = some x':=⟨_,List.getElem?_eq_getElem (by rw[q.len];exact hl)⟩
   obtain⟨x',hx'⟩:=this
   refine⟨x',hx',?_⟩
   rcases q.kept B x' hx' hm with rfl|⟨x0,h1,h2,_⟩
   ·exact .inl rfl
   ·rw[hB]at h1;injection h1 with h1;subst h1
    rcases h2 with rfl|rfl
    ·exact blkLe.rfl' _ x'
    ·exact blkLe_roB _ xx
 have at3:At3 c.p Z3 h3 rt3 (roOf H0) c3 H0.length y.H L:=by
  refine⟨c3p,c3Z,c3h,c3rt,fun i B hro=>?_,fun i _ _=>by rw[c3H],fun j z hj=>by rw[q.len];exact mnew j z hj⟩
  obtain⟨j,hj⟩:=roOf_mem hro
  have hjO:j∉O.map Prod.fst∨j∈O.map Prod.fst:=(Classical.em _).symm
  have hcj:c.H[j]? = some (.rt i B):=by
   by_cases hm:j∈O.map Prod.fst
   ·obtain⟨z,hz,rfl⟩:=List.mem_map.1 hm
    exact(q.rtO z hz _ _ hj).elim
   ·rcases q.kept j _ hj hm with h|⟨x0,h1,h2,_⟩
    ·cases h
    ·rcases h2 with rfl|h2
     ·exact h1
     ·rw[roB_rt h2.symm]at h1;exact h1
  have br:=q.br j _ hcj
  simp only[BR]at br
  obtain⟨_,_,k1,k2,z,k3,k4⟩:=br
  obtain⟨b,hb⟩:=Option.ne_none_iff_exists'.1 k2
  refine⟨by rw[c3rt,q.rt i b hb,hn B (getE_lt k3),←k1,hb],by rw[c3rt,q.rt i b hb];simp,?_⟩
  obtain⟨_,w,hw,hzw⟩:=le.H B z k3
  refine⟨w,hw,?_⟩
  rcases hzw with rfl|hzw
  ·trivial
  ·cases z<;>simp only at k4<;>cases w<;>simp only[blkLe]at hzw ⊢
 have ent:∀(B:Nat) z,y.H[B]? = some z→(B<c.H.length∧∃b cs ee,(B,b)∈O∧z = .obj true cs∧h3[b]? = some (some ⟨ee.length,[ee]⟩)∧Cas c3 cs ee)∨
  (B<c.H.length∧B∉O.map Prod.fst∧H0[B]? = some z)∨(∃j w,B=c.H.length+j∧L[j]? = some w∧NewB c.p Z3 h3 rt3 (some z) w):=by
  intro B z hz
  by_cases hl:B<c.H.length
  ·rcases old B hl with ⟨b,hb⟩|⟨hm,hh⟩
   ·obtain⟨cs,ee,w1,w2,w3⟩:=r4 _ hb
    simp only at w1
    rw[hz]at w1;injection w1 with w1
    exact .inl ⟨hl,b,cs,ee,hb,w1,w2,w3 _ at3⟩
   ·exact .inr (.inl ⟨hl,hm,by rw[←hh];exact hz⟩)
  ·have h1:=getE_lt hz
   rw[r1,q.len]at h1
   obtain⟨mb,hmb⟩:∃mb,L[B-c.H.length]? = some mb:=⟨_,List.getElem?_eq_getElem (by omega)⟩
   have h2:=r3 _ mb hmb
   rw[q.len,show c.H.length+(B-c.H.length)=B by omega,hz]at h2
   exact .inr (.inr ⟨_,mb,by omega,hmb,h2⟩)
 refine⟨c3,rfl,⟨c3p.trans q.p,?_,?_,?_,?_,?_,?_,by rw[c3h];exact q.base,by rw[c3Z,c3h];exact q.zb,by rw[c3Z];exact q.z0,fun i b h=>?_⟩,le,fun TI hfk t=>r5 TI _ at3 hfk (fun z hz=>?_) t⟩
 ·intro B z hz
  rw[c3H]at hz
  rcases ent B z hz with ⟨hl,b,cs,ee,hb,rfl,w2,w3⟩|⟨hl,hm,hh⟩|⟨j,w,rfl,hj,z',w1,_,w2⟩
  ·simp only[BR]
   refine⟨hfO B (List.mem_map.2 ⟨_,hb,rfl⟩),b,by rw[hn B hl];exact(q.obj _ hb).1,ee,by rw[c3h];exact w2,w3⟩
  ·rw[hn B hl,hf B hl hm]
   rcases q.kept B z hh hm with rfl|⟨x0,h1,h2,h4⟩
   ·trivial
   ·have:=(q.br B x0 h1).le le (fun i hi=>by rw[c3h];exact(h4 i (Cf.ft_iff.2 hi)).1)
    rcases h2 with rfl|rfl
    ·exact this
    ·exact BR_roB this
  ·injection w1 with w1;subst w1
   rw[(mnew j w hj).1,(mnew j w hj).2]
   exact w2 c3 c3p c3Z c3h c3rt
 ·intro B B' z z' b hz hz' hw hw' hm hm'
  rw[c3H]at hz hz'
  rcases ent B z hz with ⟨hl,b1,cs,ee,hb,rfl,w2,w3⟩|⟨hl,hno,hh⟩|⟨j,mb,rfl,hj,w1⟩
  ·rw[ftO _ hb]at hm;simp at hm;subst hm
   rcases ent B' z' hz' with ⟨hl',b2,cs',ee',hb',rfl,w2',w3'⟩|⟨hl',hno',hh'⟩|⟨j',mb',rfl,hj',w1'⟩
   ·rw[ftO _ hb']at hm';simp at hm';subst hm'
    exact q.objI _ hb _ hb' rfl
   ·rw[ftk B' hl' hno']at hm'
    rcases q.kept B' z' hh' hno' with rfl|⟨x0,h1,h2,h4⟩
    ·cases hw'
    ·exact(((h4 _ hm').2.2.1 hw').2.2.2 _ hb rfl).elim
   ·rw[ftn j' mb' hj']at hm'
    exact((q.obj _ hb).2.2.2.2.1 (foot_get hj' hm')).elim
  ·rw[ftk B hl hno]at hm
   rcases ent B' z' hz' with ⟨hl',b2,cs',ee',hb',rfl,w2',w3'⟩|⟨hl',hno',hh'⟩|⟨j',mb',rfl,hj',w1'⟩
   ·rw[ftO _ hb']at hm';simp at hm';subst hm'
    rcases q.kept B z hh hno with rfl|⟨x0,h1,h2,h4⟩
    ·cases hw
    ·exact(((h4 _ hm).2.2.1 hw).2.2.2 _ hb' rfl).elim
   ·rw[ftk B' hl' hno']at hm'
    exact q.inj B B' z z' b hh hh' hw hw' hm hm'
   ·rw[ftn j' mb' hj']at hm'
    rcases q.kept B z hh hno with rfl|⟨x0,h1,h2,h4⟩
    ·cases hw
    ·exact(((h4 _ hm).2.2.1 hw).2.2.1 (foot_get hj' hm')).elim
  ·rw[ftn j mb hj]at hm
   rcases ent B' z' hz' with ⟨hl',b2,cs',ee',hb',rfl,w2',w3'⟩|⟨hl',hno',hh'⟩|⟨j',mb',rfl,hj',w1'⟩
   ·rw[ftO _ hb']at hm';simp at hm';subst hm'
    exact((q.obj _ hb').2.2.2.2.1 (foot_get hj hm)).elim
   ·rw[ftk B' hl' hno']at hm'
    rcases q.kept B' z' hh' hno' with rfl|⟨x0,h1,h2,h4⟩
    ·cases hw'
    ·exact(((h4 _ hm').2.2.1 hw').2.2.1 (foot_get hj hm)).elim
   ·rw[ftn j' mb' hj']at hm'
    rw[foot_inj q.ownN hj hj' hm hm']
 ·intro B z hz hw
  rw[c3H]at hz
  rcases ent B z hz with ⟨hl,b1,cs,ee,hb,rfl,w2,w3⟩|⟨hl,hno,hh⟩|⟨j,mb,rfl,hj,w1⟩
  ·rw[ftO _ hb];simp
  ·rw[ftk B hl hno];exact q.nd B z hh hw
  ·rw[ftn j mb hj];exact foot_nd q.ownN hj
 ·intro B z b hz hw hm
  rw[c3H]at hz
  rw[c3Z]
  rcases ent B z hz with ⟨hl,b1,cs,ee,hb,rfl,w2,w3⟩|⟨hl,hno,hh⟩|⟨j,mb,rfl,hj,w1⟩
  ·rw[ftO _ hb]at hm;simp at hm;subst hm
   exact⟨(q.obj _ hb).2.2.1,(q.obj _ hb).2.2.2.1⟩
  ·rw[ftk B hl hno]at hm
   rcases q.kept B z hh hno with rfl|⟨x0,h1,h2,h4⟩
   ·cases hw
   ·exact⟨((h4 _ hm).2.2.1 hw).1,((h4 _ hm).2.2.1 hw).2.1⟩
  ·rw[ftn j mb hj]at hm
   have:=q.own b (foot_get hj hm)
   exact⟨this.1,this.2.1⟩
 ·intro B z b hz hw hg hm
  rw[c3H]at hz
  rcases ent B z hz with ⟨hl,b1,cs,ee,hb,rfl,w2,w3⟩|⟨hl,hno,hh⟩|⟨j,mb,rfl,hj,z',w1,w0,_⟩
  ·cases hw
  ·rw[ftk B hl hno]at hm
   rcases q.kept B z hh hno with rfl|⟨x0,h1,h2,h4⟩
   ·exact(hg rfl).elim
   ·exact(h4 _ hm).2.2.2 hw
  ·injection w1 with w1;subst w1;rw[w0]at hw;cases hw
 ·intro B z b hz hg hm
  rw[c3H]at hz
  rw[c3h]
  rcases ent B z hz with ⟨hl,b1,cs,ee,hb,rfl,w2,w3⟩|⟨hl,hno,hh⟩|⟨j,mb,rfl,hj,w1⟩
  ·rw[ftO _ hb]at hm;simp at hm;subst hm
   exact(q.obj _ hb).2.2.2.2.2
  ·rw[ftk B hl hno]at hm
   rcases q.kept B z hh hno with rfl|⟨x0,h1,h2,h4⟩
   ·exact(hg rfl).elim
   ·exact(h4 _ hm).2.1
  ·rw[ftn j mb hj]at hm
   exact(q.own b (foot_get hj hm)).2.2
 ·rw[c3rt]at h
  obtain⟨j,B,h⟩:=q.rtd i b h
  refine⟨j,B,?_⟩
  rw[c3H,r2 j (getE_lt h) (fun hm=>by obtain⟨z,hz,rfl⟩:=List.mem_map.1 hm;exact q.rtO z hz _ _ h)];exact h
 ·have:=q.obj z hz
  obtain⟨cs,ee,w1,_⟩:=r4 z hz
  exact⟨⟨cs,by rw[c3H];exact w1⟩,by rw[hn _ (getE_lt this.2.1.choose_spec.1)];exact this.1⟩
end
end Go.Ideal
set_option linter.unusedVariables false
set_option linter.unusedSimpArgs false
set_option linter.unusedSectionVars false
namespace Go.Ideal
theorem iterN_mono {S X:Type} {f:S→Option (S⊕X)}:∀(n m:Nat) (s:S) (x:X),n≤m→iterN f n s=some x→iterN f m s=some x
 |0,_,_,_,_,h=>by simp[iterN]at h
 |n+1,0,_,_,h,_=>by omega
 |n+1,m+1,s,x,hl,h=>by
  simp only[iterN]at h ⊢
  obtain⟨r,h1,h2⟩:=bind_some'.1 h
  rw[h1]
  cases r with
  |inl s'=>exact iterN_mono n m s' x (by omega) h2
  |inr x'=>exact h2
theorem iterL_some {S X:Type} {f:S→Option (S⊕X)} {s:S} {x:X}:iterL f s=some x↔∃n,iterN f n s=some x:=
 lim_some (F:=fun n=>iterN f n s) (fun n m r hl h=>iterN_mono n m s r hl h)
theorem iterL_eq {S X:Type} (f:S→Option (S⊕X)) (s:S):iterL f s=(f s).bind fun r=>match r with
 |.inl s=>iterL f s
 |.inr x=>some x:=by
 have key:∀x,iterL f s=some x↔((f s).bind fun r=>match r with
  |.inl s=>iterL f s
  |.inr x=>some x)=some x:=by
  intro x
  rw[iterL_some]
  constructor
  ·rintro⟨n,h⟩
   cases n with
   |zero=>simp[iterN]at h
   |succ n=>
    simp only[iterN]at h
    obtain⟨r,h1,h2⟩:=bind_some'.1 h
    rw[h1]
    cases r with
    |inl s'=>exact iterL_some.2 ⟨n,h2⟩
    |inr x'=>exact h2
  ·intro h
   obtain⟨r,h1,h2⟩:=bind_some'.1 h
   cases r with
   |inl s'=>
    obtain⟨n,h3⟩:=iterL_some.1 h2
    exact⟨n+1,by simp only[iterN,h1,Option.bind_some];exact h3⟩
   |inr x'=>exact⟨1,by simp only[iterN,h1,Option.bind_some];exact h2⟩
 cases h:iterL f s with
 |some x=>exact((key x).1 h).symm
 |none=>
  cases h':((f s).bind fun r=>match r with
  |.inl s=>iterL f s
  |.inr x=>some x) with
  |none=>rfl
  |some x=>rw[(key x).2 h']at h;cases h
theorem roIf_get (l:List Nat):∀(H:AHp) (o i:Nat),(roIf l o H)[i]? = (H[i]?).map fun x=>if l.contains (o+i) then x else roB x
 |[],o,i=>by simp[roIf]
 |x::r,o,0=>by simp[roIf]
 |x::r,o,i+1=>by
  simp only[roIf,List.getElem?_cons_succ]
  rw[roIf_get l r (o+1) i,show o+1+i=o+(i+1) by omega]
theorem goneIf_get (l:List Nat) (ro:Bool):∀(H:AHp) (o i:Nat),(goneIf l ro o H)[i]? = (H[i]?).map fun x=>if l.contains (o+i)&& !isRt x then .gone else if ro then roB x else x
 |[],o,i=>by simp[goneIf]
 |x::r,o,0=>by simp[goneIf]
 |x::r,o,i+1=>by
  simp only[goneIf,List.getElem?_cons_succ]
  rw[goneIf_get l ro r (o+1) i,show o+1+i=o+(i+1) by omega]
theorem roIf_len (l:List Nat):∀(H:AHp) (o:Nat),(roIf l o H).length=H.length
 |[],_=>rfl
 |x::r,o=>by simp[roIf,roIf_len l r]
theorem goneIf_rt {l:List Nat} {ro:Bool} {H:AHp} {j i B:Nat} (h:H[j]? = some (.rt i B)):(goneIf l ro 0 H)[j]? = some (.rt i B):=by
 rw[goneIf_get,h];cases ro<;>simp[isRt,roB]
theorem rtOk_ok {H H':AHp} (h:rtOk H H'=true) {j i B:Nat} (hj:H'[j]? = some (.rt i B)):∃(j':Nat) (B':Nat),H[j']? = some (.rt i B'):=by
 unfold rtOk at h
 have:=List.all_eq_true.1 h _ (List.mem_of_getElem? hj)
 simp only at this
 obtain⟨B',hB⟩:=Option.isSome_iff_exists.1 this
 obtain⟨j',hj'⟩:=roOf_mem hB
 exact⟨j',B',hj'⟩
theorem goneIf_len (l:List Nat) (ro:Bool):∀(H:AHp) (o:Nat),(goneIf l ro o H).length=H.length
 |[],_=>rfl
 |x::r,o=>by simp[goneIf,goneIf_len l ro r]
structure Sub (R:Run) (c:Cf) (gv:List Nat) (R1:Run):Prop where
 p:R1.p=R.p
 N:R1.N=c.h.length
 h0:R1.h0=c.h
 O0:∀b,R1.O0 b↔∃B x,c.H[B]? = some x∧B∈gv∧x.wr=true∧b∈c.ft B
 zl:∀b,c.Z b→R1.Z0 b
 zr:∀b,R1.Z0 b→c.Z b∨R1.O0 b
section
variable {R R1:Run} {c:Cf} {gv:List Nat} (g:GH R c) (sb:Sub R c gv R1)
include g sb
theorem Sub.kept {i:Nat} {x:ABlk} {b:Nat} (hi:i∉gv) (hx:c.H[i]? = some x) (hg:x≠.gone) (hm:b∈c.ft i):b<R1.N∧¬R1.O0 b:=by
 refine⟨by rw[sb.N];exact g.lt i x b hx hg hm,fun ho=>?_⟩
 obtain⟨B,x0,h1,h2,h3,h4⟩:=(sb.O0 b).1 ho
 by_cases hw:x.wr=true
 ·exact hi (by rw[g.inj i B x x0 b hx h1 hw h3 hm h4];exact h2)
 ·have h5:=g.ro i x b hx (by simpa using hw) hg hm
  rcases (g.wr B x0 b h1 h3 h4).1 with h6|h6
  ·exact h5.2 h6
  ·omega
theorem Sub.ours {b:Nat} (h:R1.O0 b∨R1.N≤b):R.O0 b∨R.N≤b:=by
 rcases h with h|h
 ·obtain⟨B,x0,h1,h2,h3,h4⟩:=(sb.O0 b).1 h
  exact(g.wr B x0 b h1 h3 h4).1
 ·rw[sb.N]at h;exact .inr (Nat.le_trans g.base.1 h)
end
def Z3of (c:Cf) (u:Use):Nat→Prop:=fun b=>c.Z b∨∃B∈u.frz,b∈c.ft B
theorem wrB_iff {H:AHp} {B:Nat}:wrB H B=true↔∃x,H[B]? = some x∧x.wr=true:=by
 unfold wrB
 cases H[B]?<;>simp
structure UF (N:Nat) (O0 Z0:Nat→Prop) (h0:Heap) (Z3:Nat→Prop) (h3:Heap) (L:Lo) (O:Oo):Prop where
 own:∀b∈foot L,(O0 b∨N≤b)∧¬Z3 b∧b<h3.length
 ownN:(foot L).Nodup
 obj:∀q∈O,(O0 q.2∨N≤q.2)∧¬Z3 q.2∧q.2∉foot L∧q.2<h3.length
 objN:(O.map Prod.fst).Nodup
 objI:∀q∈O,∀q'∈O,q.2=q'.2→q.1=q'.1
 base:N≤h3.length∧∀b,b<N→¬O0 b→h3[b]? = h0[b]?
 zb:∀b,Z3 b→b<h3.length∧(Z0 b∨O0 b∨N≤b)
 z0:∀b,Z0 b→Z3 b
abbrev Run.uf (R:Run) (Z3:Nat→Prop) (h3:Heap) (L:Lo) (O:Oo):Prop:=UF R.N R.O0 R.Z0 R.h0 Z3 h3 L O
theorem use_ok {R:Run} {c:Cf} (g:GH R c) {u:Use} {L:Lo} {O:Oo} (h:UOk c u L O) (ok:u.ok c.H=true):R.uf (Z3of c u) c.h L O:=by
 simp only[Use.ok,Bool.and_eq_true,nodupB_iff,List.all_eq_true,Bool.not_eq_true',List.contains_eq_mem,decide_eq_false_iff_not,wrB_iff]at ok
 obtain⟨⟨⟨k1,k2⟩,k3⟩,k4⟩:=ok
 have ow:∀b∈foot L,∃B∈u.own,b∈c.ft B∧∃x,c.H[B]? = some x∧x.wr=true:=fun b hb=>by
  replace hb:=h.own.mem_iff.1 hb
  obtain⟨B,hB,hm⟩:=List.mem_flatMap.1 hb
  exact⟨B,hB,hm,h.w B hB⟩
 have ob:∀q∈O,q.1∈u.obj∧q.2∈c.ft q.1∧∃x,c.H[q.1]? = some x∧x.wr=true:=fun q hq=>by
  obtain⟨h1,_,cs,h2⟩:=h.o q hq
  exact⟨by rw[←h.obj];exact List.mem_map.2 ⟨q,hq,rfl⟩,Cf.ft_m h1,_,h2,rfl⟩
 have nz:∀(B:Nat) x b,c.H[B]? = some x→x.wr=true→b∈c.ft B→B∉u.frz→¬Z3of c u b:=by
  rintro B x b h1 h2 h3 h4 (hz|⟨B',hB',hm⟩)
  ·exact(g.wr B x b h1 h2 h3).2 hz
  ·obtain⟨⟨⟨x',h5,h6⟩,_⟩,_⟩:=k3 B' hB'
   exact h4 (by rw[g.inj B B' x x' b h1 h5 h2 h6 h3 hm];exact hB')
 have frz:∀b,(∃B∈u.frz,b∈c.ft B)→(R.O0 b∨R.N≤b)∧b<c.h.length:=by
  rintro b ⟨B,hB,hm⟩
  obtain⟨⟨⟨x,h1,h2⟩,_⟩,_⟩:=k3 B hB
  exact⟨(g.wr B x b h1 h2 hm).1,g.lt B x b h1 (by intro e;subst e;cases h2) hm⟩
 refine⟨fun b hb=>?_,?_,fun q hq=>?_,by rw[h.obj];exact k2,fun q hq q' hq' e=>?_,g.base,fun b hz=>?_,fun b hb=>.inl (g.z0 b hb)⟩
 ·obtain⟨B,h1,h2,x,h3,h4⟩:=ow b hb
  exact⟨(g.wr B x b h3 h4 h2).1,nz B x b h3 h4 h2 fun hf=>(k3 B hf).1.2 h1,g.lt B x b h3 (by intro e;subst e;cases h4) h2⟩
 ·rw[h.own.nodup_iff]
  have:∀{l:List Nat},l.Nodup→(∀B∈l,∃x,c.H[B]? = some x∧x.wr=true)→(l.flatMap c.ft).Nodup:=by
   intro l
   induction l with
   |nil=>intro _ _;simp
   |cons B l ih=>
    intro hn hw
    rw[List.nodup_cons]at hn
    have ih:=ih hn.2 (fun B hB=>hw B (by simp[hB]))
    obtain⟨x,h1,h2⟩:=hw B (by simp)
    rw[List.flatMap_cons,List.nodup_append]
    refine⟨g.nd B x h1 h2,ih,fun a ha b hb e=>?_⟩
    subst e
    obtain⟨B',hB',hm'⟩:=List.mem_flatMap.1 hb
    obtain⟨x',h3,h4⟩:=hw B' (by simp[hB'])
    exact hn.1 (by rw[g.inj B B' x x' a h1 h3 h2 h4 ha hm'];exact hB')
  exact this k1 h.w
 ·obtain⟨h1,h2,x,h3,h4⟩:=ob q hq
  refine⟨(g.wr _ x _ h3 h4 h2).1,nz _ x _ h3 h4 h2 fun hf=>(k3 _ hf).2 h1,fun hb=>?_,g.lt _ x _ h3 (by intro e;subst e;cases h4) h2⟩
  obtain⟨B,h5,h6,x',h7,h8⟩:=ow _ hb
  have:=g.inj B q.1 x' x _ h7 h3 h8 h4 h6 h2
  exact k4 B h5 (by rw[this];exact h1)
 ·obtain⟨h1,h2,x,h3,h4⟩:=ob q hq
  obtain⟨h1',h2',x',h3',h4'⟩:=ob q' hq'
  exact g.inj _ _ x x' _ h3 h3' h4 h4' h2 (by rw[e];exact h2')
 ·rcases hz with hz|hz
  ·exact g.zb b hz
  ·exact⟨(frz b hz).2,.inr (frz b hz).1⟩
def objsOf (base:Nat→Option ASV):Shp→List Nat
 |[]=>[]
 |(t,k)::r=>(match k,base t with
  |.obj _,some (.val (.ptr B (.st 0)))=>[B]
  |.root _,some (.val (.ptr B (.st 0)))=>[B]
  |.groot _,some (.val (.ptr B (.st 0)))=>[B]
  |_,_=>[])++objsOf base r
theorem SF_objs {p:Bool} {Z:Nat→Prop} {h:Heap} {rt:Nat→Option Nat} {σ:Fr} {base:Nat→Option ASV} {fk:ASV→Option SV→Prop}:∀{sh:Shp} {x:DL sh.hs} {L:Lo} {O:Oo},SF p Z h rt σ base fk sh x L O→O.map Prod.fst=objsOf base sh
 |[],x,L,O,f=>by obtain⟨_,rfl⟩:=f;rfl
 |(t,k)::r,x,L,O,f=>by
  obtain⟨L1,L2,O1,O2,rfl,rfl,f1,f2⟩:=f
  have ih:=SF_objs f2
  rw[List.map_append,ih]
  cases k with
  |keep=>obtain⟨_,_,rfl⟩:=f1;simp[objsOf]
  |val=>obtain⟨_,_,rfl⟩:=f1;simp[objsOf]
  |own=>obtain⟨_,_,_,_,_,rfl⟩:=f1;simp[objsOf]
  |box=>obtain⟨_,_,_,rfl⟩:=f1;simp[objsOf]
  |ow=>obtain⟨_,_,_,rfl⟩:=f1;simp[objsOf]
  |agw=>obtain⟨_,_,_,rfl⟩:=f1;simp[objsOf]
  |obj=>obtain⟨B,b,e,hb,_,_,_,rfl⟩:=f1;simp[objsOf,hb]
  |root=>obtain⟨B,b,e,hb,_,_,_,rfl⟩:=f1;simp[objsOf,hb]
  |groot=>obtain⟨B,b,e,hb,_,_,rfl⟩:=f1;simp[objsOf,hb]
theorem SF_base {p:Bool} {Z:Nat→Prop} {h:Heap} {rt:Nat→Option Nat} {σ:Fr} {base:Nat→Option ASV} {fk:ASV→Option SV→Prop}:∀{sh:Shp} {x:DL sh.hs} {L:Lo} {O:Oo},SF p Z h rt σ base fk sh x L O→∀q∈O,∃t,base t=some (.val (.ptr q.1 (.st 0)))
 |[],x,L,O,f=>by obtain⟨_,rfl⟩:=f;simp
 |(t,k)::r,x,L,O,f=>by
  obtain⟨L1,L2,O1,O2,rfl,rfl,f1,f2⟩:=f
  intro q hq
  rcases List.mem_append.1 hq with hq|hq
  ·cases k with
   |keep=>obtain⟨_,_,rfl⟩:=f1;simp at hq
   |val=>obtain⟨_,_,rfl⟩:=f1;simp at hq
   |own=>obtain⟨_,_,_,_,_,rfl⟩:=f1;simp at hq
   |box=>obtain⟨_,_,_,rfl⟩:=f1;simp at hq
   |ow=>obtain⟨_,_,_,rfl⟩:=f1;simp at hq
   |agw=>obtain⟨_,_,_,rfl⟩:=f1;simp at hq
   |obj=>obtain⟨B,b,e,hb,_,_,_,rfl⟩:=f1;simp at hq;subst hq;exact⟨t,hb⟩
   |root=>obtain⟨B,b,e,hb,_,_,_,rfl⟩:=f1;simp at hq;subst hq;exact⟨t,hb⟩
   |groot=>obtain⟨B,b,e,hb,_,_,rfl⟩:=f1;simp at hq;subst hq;exact⟨t,hb⟩
  ·exact SF_base f2 q hq
section
variable {R R1:Run} {c:Cf} {gv:List Nat} (g:GH R c) (sb:Sub R c gv R1) {Z3:Nat→Prop} {h3:Heap} {rt3:Nat→Option Nat} {L:Lo} {O:Oo} (uf:R1.uf Z3 h3 L O)
 (zle:ZLe c.Z Z3 c.h h3) (hrt:∀i b,c.rt i=some b→rt3 i=some b) (hrd:∀i b,rt3 i=some b→∃(j:Nat) (B:Nat),c.H[j]? = some (.rt i B)) (hm:∀q∈O,c.m q.1=some q.2) (hobj:∀q∈O,∃x0,c.H[q.1]? = some x0∧isOb x0=true)
include g sb uf zle hrt hrd hm hobj
theorem leave:Rsh R c (goneIf gv false 0 c.H) Z3 h3 rt3 L O:=by
 have zsplit:∀b,Z3 b→R1.Z0 b∨(R1.O0 b∨R1.N≤b):=fun b hz=>(uf.zb b hz).2
 have hN:=sb.N
 refine⟨goneIf_len _ _ _ _,g.blk,g.p,hrt,?_,?_,?_,fun q hq=>⟨hm q hq,hobj q hq,sb.ours g (uf.obj q hq).1,(uf.obj q hq).2⟩,fun i b h=>by obtain⟨j,B,h⟩:=hrd i b h;exact⟨j,B,goneIf_rt h⟩,?_,uf.objN,uf.objI,fun b hb=>⟨sb.ours g (uf.own b hb).1,(uf.own b hb).2⟩,uf.ownN,zle,?_,fun b hb=>zle.z b (g.z0 b hb),?_,?_⟩
 ·intro i x' hx' hi
  rw[goneIf_get]at hx'
  cases hx:c.H[i]? with
  |none=>rw[hx]at hx';cases hx'
  |some x=>
   rw[hx]at hx'
   simp only[Option.map_some,Nat.zero_add,Option.some.injEq,List.contains_eq_mem,decide_eq_true_eq,Bool.false_eq_true,if_false,Bool.and_eq_true,Bool.not_eq_true']at hx'
   split at hx'
   ·exact .inl hx'.symm
   ·rename_i hgv
    subst hx'
    by_cases hgo:x = .gone
    ·exact .inl hgo
    by_cases hrt':isRt x=true
    ·refine .inr ⟨x,rfl,.inl rfl,fun b hb=>?_⟩
     have:=g.blk i x hx
     cases x<;>simp only[isRt]at hrt'<;>try (cases hrt';done)
     simp only[BR]at this
     simp[Cf.ft,this.1,this.2.1]at hb
    have hgv:i∉gv:=fun h=>hgv ⟨h,by simpa using hrt'⟩
    refine .inr ⟨x,rfl,.inl rfl,fun b hb=>?_⟩
    have hk:=sb.kept g hgv hx hgo hb
    refine⟨by rw[uf.base.2 b hk.1 hk.2,sb.h0],Nat.lt_of_lt_of_le hk.1 uf.base.1,fun hw=>?_,fun hw=>g.ro i x b hx hw hgo hb⟩
    have hwr:=g.wr i x b hx hw hb
    refine⟨hwr.1,fun hz=>?_,fun hb'=>?_,fun q hq e=>?_⟩
    ·rcases zsplit b hz with h|h|h
     ·rcases sb.zr b h with h|h
      ·exact hwr.2 h
      ·exact hk.2 h
     ·exact hk.2 h
     ·omega
    ·rcases (uf.own b hb').1 with h|h
     ·exact hk.2 h
     ·omega
    ·subst e
     rcases (uf.obj q hq).1 with h|h
     ·exact hk.2 h
     ·omega
 ·intro B B' x x' b hx hx' hw hw' hm hm'
  rw[goneIf_get]at hx hx'
  obtain⟨x0,h0,rfl⟩:=Option.map_eq_some_iff.1 hx
  obtain⟨x1,h1,rfl⟩:=Option.map_eq_some_iff.1 hx'
  simp only[Bool.false_eq_true,if_false]at hw hw'
  split at hw
  ·cases hw
  ·split at hw'
   ·cases hw'
   ·exact g.inj B B' x0 x1 b h0 h1 hw hw' hm hm'
 ·intro B x hx hw
  rw[goneIf_get]at hx
  obtain⟨x0,h0,rfl⟩:=Option.map_eq_some_iff.1 hx
  simp only[Bool.false_eq_true,if_false]at hw
  split at hw
  ·cases hw
  ·exact g.nd B x0 h0 hw
 ·intro q hq i B h
  obtain⟨x0,hB,ho⟩:=hobj q hq
  rw[goneIf_get,hB]at h
  simp only[Option.map_some,Option.some.injEq,Bool.false_eq_true,if_false]at h
  split at h
  ·cases h
  ·subst h;cases ho
 ·intro b hz
  refine⟨(uf.zb b hz).1,?_⟩
  rcases zsplit b hz with h|h
  ·rcases sb.zr b h with h|h
   ·exact(g.zb b h).2
   ·exact .inr (sb.ours g (.inl h))
  ·exact .inr (sb.ours g h)
 ·have:=uf.base.1
  rw[sb.N]at this
  exact Nat.le_trans g.base.1 this
 ·intro b hb ho
  have h1:b<R1.N:=by rw[sb.N];exact Nat.lt_of_lt_of_le hb g.base.1
  have h2:¬R1.O0 b:=fun h=>by
   rcases sb.ours g (.inl h)with h|h
   ·exact ho h
   ·omega
  rw[uf.base.2 b h1 h2,sb.h0]
  exact g.base.2 b hb ho
theorem goOn {gs:List Nat} (hgs:∀i,i∉gs→i∉O.map Prod.fst→i∉gv):Rsh R1 c (goneIf gs true 0 c.H) Z3 h3 rt3 L O:=by
 refine⟨goneIf_len _ _ _ _,g.blk,g.p.trans sb.p.symm,hrt,?_,?_,?_,fun q hq=>⟨hm q hq,hobj q hq,uf.obj q hq⟩,fun i b h=>by obtain⟨j,B,h⟩:=hrd i b h;exact⟨j,B,goneIf_rt h⟩,?_,uf.objN,uf.objI,uf.own,uf.ownN,zle,uf.zb,uf.z0,uf.base⟩
 ·intro i x' hx' hi
  rw[goneIf_get]at hx'
  cases hx:c.H[i]? with
  |none=>rw[hx]at hx';cases hx'
  |some x=>
   rw[hx]at hx'
   simp only[Option.map_some,Nat.zero_add,Option.some.injEq,List.contains_eq_mem,decide_eq_true_eq,if_true,Bool.and_eq_true,Bool.not_eq_true']at hx'
   split at hx'
   ·exact .inl hx'.symm
   ·rename_i hg
    subst hx'
    by_cases hgo:x = .gone
    ·subst hgo;exact .inl rfl
    by_cases hrt':isRt x=true
    ·refine .inr ⟨x,rfl,.inr rfl,fun b hb=>?_⟩
     have:=g.blk i x hx
     cases x<;>simp only[isRt]at hrt'<;>try (cases hrt';done)
     simp only[BR]at this
     simp[Cf.ft,this.1,this.2.1]at hb
    have hg:i∉gs:=fun h=>hg ⟨h,by simpa using hrt'⟩
    refine .inr ⟨x,rfl,.inr rfl,fun b hb=>?_⟩
    have hk:=sb.kept g (hgs i hg hi) hx hgo hb
    refine⟨by rw[uf.base.2 b hk.1 hk.2,sb.h0],Nat.lt_of_lt_of_le hk.1 uf.base.1,fun hw=>?_,fun _=>hk⟩
    rw[roB_wr]at hw;cases hw
 ·intro B B' x x' b hx hx' hw hw' hm hm'
  rw[goneIf_get]at hx
  obtain⟨x0,h0,rfl⟩:=Option.map_eq_some_iff.1 hx
  simp only[if_true]at hw
  split at hw
  ·cases hw
  ·rw[roB_wr]at hw;cases hw
 ·intro B x hx hw
  rw[goneIf_get]at hx
  obtain⟨x0,h0,rfl⟩:=Option.map_eq_some_iff.1 hx
  simp only[if_true]at hw
  split at hw
  ·cases hw
  ·rw[roB_wr]at hw;cases hw
 ·intro q hq i B h
  obtain⟨x0,hB,ho⟩:=hobj q hq
  rw[goneIf_get,hB]at h
  simp only[Option.map_some,Option.some.injEq,if_true]at h
  split at h
  ·cases h
  ·rw[roB_rt h]at ho;cases ho
end
theorem enter {R:Run} {c:Cf} (g:GH R c) {u:Use} {L:Lo} {O:Oo} (hu:UOk c u L O) (ok:u.ok c.H=true) (R1:Run)
 (hR:R1 = { p:=R.p,N:=c.h.length,O0:=fun b=>∃B x,c.H[B]? = some x∧B∈u.own++u.frz++u.obj∧x.wr=true∧b∈c.ft B,h0:=c.h,Z0:=Z3of c u }):
 Sub R c (u.own++u.frz++u.obj) R1∧R1.uf (Z3of c u) c.h L O:=by
 have uf:=use_ok g hu ok
 have ok':=ok
 simp only[Use.ok,Bool.and_eq_true,nodupB_iff,List.all_eq_true,Bool.not_eq_true',List.contains_eq_mem,decide_eq_false_iff_not,wrB_iff]at ok'
 obtain⟨⟨⟨k1,k2⟩,k3⟩,k4⟩:=ok'
 have sb:Sub R c (u.own++u.frz++u.obj) R1:=by
  subst hR
  refine⟨rfl,rfl,rfl,fun b=>Iff.rfl,fun b hb=>.inl hb,fun b hb=>?_⟩
  rcases hb with hb|⟨B,hB,hm⟩
  ·exact .inl hb
  ·obtain⟨⟨⟨x,h1,h2⟩,_⟩,_⟩:=k3 B hB
   exact .inr ⟨B,x,h1,by simp[hB],h2,hm⟩
 refine⟨sb,fun b hb=>⟨.inl ?_,(uf.own b hb).2⟩,uf.ownN,fun q hq=>⟨.inl ?_,(uf.obj q hq).2⟩,uf.objN,uf.objI,⟨by rw[hR];exact Nat.le_refl _,fun b _ _=>by rw[hR]⟩,fun b hz=>⟨(uf.zb b hz).1,.inl (by rw[hR];exact hz)⟩,fun b hb=>by rw[hR]at hb;exact hb⟩
 ·replace hb:=hu.own.mem_iff.1 hb
  obtain⟨B,hB,hm⟩:=List.mem_flatMap.1 hb
  obtain⟨x,h1,h2⟩:=hu.w B hB
  exact(sb.O0 b).2 ⟨B,x,h1,by simp[hB],h2,hm⟩
 ·obtain⟨h1,_,cs,h2⟩:=hu.o q hq
  exact(sb.O0 _).2 ⟨q.1,_,h2,by rw[←hu.obj];simp only[List.mem_append];exact .inr (List.mem_map.2 ⟨q,hq,rfl⟩),rfl,Cf.ft_m h1⟩
theorem objm {c c2:Cf} (le:Le c c2) {u:Use} {L:Lo} {O:Oo} (hu:UOk c2 u L O) (hobj:∀q∈O,∃x0,c.H[q.1]? = some x0∧isOb x0=true):∀q∈O,c.m q.1=some q.2:=fun q hq=>by
 obtain⟨x0,h,_⟩:=hobj q hq
 obtain⟨h1,_⟩:=hu.o q hq
 rw[←(le.H _ _ h).1];exact h1
theorem zleOf {c c2:Cf} (le:Le c c2) (u:Use):ZLe c.Z (Z3of c2 u) c.h c2.h:=⟨fun b hb=>.inl (le.Z.z b hb),le.Z.h⟩
end Go.Ideal
set_option linter.unusedVariables false
set_option linter.unusedSimpArgs false
set_option linter.unusedSectionVars false
namespace Go.Ideal
theorem evIts_app {call:Nat→List IV→Heap→Option (IV×Heap)} {opn:Nat→Bool}:∀{a b:List Item} {s:St},evIts call opn (a++b) s=(evIts call opn a s).bind fun s=>evIts call opn b s
 |[],b,s=>rfl
 |it::a,b,s=>by
  simp only[List.cons_append,evIts]
  cases evIt call opn it s with
  |none=>rfl
  |some s1=>simp only[Option.bind_some];exact evIts_app
theorem evBs_flat {call:Nat→List IV→Heap→Option (IV×Heap)} {opn:Nat→Bool}:∀{bs:List DB} {s:St},bs.all (fun b=>b.cs.isEmpty)=true→evBs call opn bs s=evIts call opn (bs.flatMap fun b=>b.w::b.qs) s
 |[],s,_=>rfl
 |b::r,s,h=>by
  simp only[List.all_cons,Bool.and_eq_true,List.isEmpty_iff]at h
  simp only[evBs,List.flatMap_cons,List.cons_append,evIts,evIts_app]
  cases evIt call opn b.w s with
  |none=>rfl
  |some s1=>
   simp only[Option.bind_some,h.1,sames,List.all_nil,if_true]
   cases evIts call opn b.qs s1 with
   |none=>rfl
   |some s2=>simp only[Option.bind_some];exact evBs_flat h.2
structure Cst (T:List ASV) (TI:List SV) (σ:Fr) (c:Cf) (i:Nat) (y:AFr×List ASV×List (Nat×Nat)) (TJ:List SV):Prop where
 len:TJ.length=y.2.1.length
 T:∀(j:Nat) a,y.2.1[j]? = some a→∃sv,TJ[j]? = some sv∧SVa c a sv
 tl:∀s∈TJ,∀n o,s≠SV.lptr n o
 fr:∀t v,y.1.get t=some v→((∀k,v≠.cst k)∧∃sv,σ.get t=some sv∧SVa c v sv)∨∃j sv,v = .cst (i+j)∧TJ[j]? = some sv∧σ.get t=some sv
 pos:∀t k,(t,k)∈y.2.2→∃j sv,k=i+j∧TJ[j]? = some sv∧σ.get t=some sv
theorem Cst.cons {T:List ASV} {TI:List SV} {σ:Fr} {c:Cf} {i:Nat} {y:AFr×List ASV×List (Nat×Nat)} {TJ:List SV} (h:Cst T TI σ c (i+1) y TJ) {t:Nat} {a:ASV} {sv:SV} (ha:σ.get t=some sv) (hv:SVa c a sv) (hb:∀n o,sv≠.lptr n o):
 Cst T TI σ c i ((t,.cst i)::y.1,a::y.2.1,(t,i)::y.2.2) (sv::TJ):=by
 refine⟨by simp[h.len],fun j b hj=>?_,fun s hs=>?_,fun t' v hv'=>?_,fun t' k hk=>?_⟩
 ·cases j with
  |zero=>simp at hj;subst hj;exact⟨sv,rfl,hv⟩
  |succ j=>simpa using h.T j b (by simpa using hj)
 ·rcases List.mem_cons.1 hs with rfl|hs
  ·exact hb
  ·exact h.tl s hs
 ·simp only[AFr.get]at hv'
  split at hv'
  ·rename_i e;subst e
   simp at hv';subst hv'
   exact .inr ⟨0,sv,rfl,rfl,ha⟩
  ·rcases h.fr t' v hv' with h1|⟨j,s,h1,h2,h3⟩
   ·exact .inl h1
   ·exact .inr ⟨j+1,s,by rw[h1];congr 1;omega,by simpa using h2,h3⟩
 ·simp only[List.mem_cons,Prod.mk.injEq]at hk
  rcases hk with ⟨rfl,rfl⟩|hk
  ·exact⟨0,sv,rfl,rfl,ha⟩
  ·obtain⟨j,s,h1,h2,h3⟩:=h.pos t' k hk
   exact⟨j+1,s,by omega,by simpa using h2,h3⟩
theorem Cst.raw {T:List ASV} {TI:List SV} {σ:Fr} {c:Cf} {i:Nat} {y:AFr×List ASV×List (Nat×Nat)} {TJ:List SV} (h:Cst T TI σ c i y TJ) {t:Nat} {a:ASV} {sv:SV} (ha:σ.get t=some sv) (hv:SVa c a sv) (hc:∀k,a≠.cst k):
 Cst T TI σ c i ((t,a)::y.1,y.2) TJ:=by
 refine⟨h.len,h.T,h.tl,fun t' v hv'=>?_,h.pos⟩
 simp only[AFr.get]at hv'
 split at hv'
 ·rename_i e;subst e
  simp at hv';subst hv'
  exact .inl ⟨hc,sv,ha,hv⟩
 ·exact h.fr t' v hv'
section
variable {T:List ASV} {TI:List SV} {c:Cf} {fr:AFr} {σ:Fr} (g:GF T TI c fr σ)
include g
theorem constS_ok (raw:List Nat):∀(l:AFr) (i:Nat),∃TJ,Cst T TI σ c i (constS T fr raw l i) TJ∧∀t,(constS T fr raw l i).1.get t=none→l.get t=none∨∀cs,σ.get t≠some (.box cs)
 |[],i=>⟨[],⟨rfl,by simp[constS],by simp,by simp[constS,AFr.get],by simp[constS]⟩,fun t _=>.inl rfl⟩
 |(t,v0)::r,i=>by
  have none':∀{y:AFr},(∀t',y.get t'=none→AFr.get r t'=none∨∀cs,σ.get t'≠some (.box cs))→∀v1,∀t',(AFr.get ((t,v1)::y) t'=none→AFr.get ((t,v0)::r) t'=none∨∀cs,σ.get t'≠some (.box cs)):=by
   intro y hy v1 t' h
   simp only[AFr.get]at h ⊢
   split at h
   ·cases h
   ·rename_i hne;rw[if_neg hne];exact hy t' h
  simp only[constS]
  split
  ·rename_i a ha
   obtain⟨sv,h1,h2⟩:=aget_ok g ha
   split
   ·obtain⟨TJ,h3,h4⟩:=constS_ok raw r i
    exact⟨TJ,h3.raw h1 h2 (by simp),none' h4 _⟩
   ·obtain⟨TJ,h3,h4⟩:=constS_ok raw r (i+1)
    exact⟨sv::TJ,h3.cons h1 h2 (by rintro n o rfl;simp[SVa]at h2),none' h4 _⟩
  ·rename_i a ha
   obtain⟨sv,h1,h2⟩:=aget_ok g ha
   split
   ·obtain⟨TJ,h3,h4⟩:=constS_ok raw r i
    exact⟨TJ,h3.raw h1 h2 (by simp),none' h4 _⟩
   ·obtain⟨TJ,h3,h4⟩:=constS_ok raw r (i+1)
    exact⟨sv::TJ,h3.cons h1 h2 (by rintro n o rfl;simp[SVa]at h2),none' h4 _⟩
  ·rename_i hn1 hn2
   obtain⟨TJ,h3,h4⟩:=constS_ok raw r i
   refine⟨TJ,h3,fun t' h=>?_⟩
   simp only[AFr.get]
   by_cases e:t=t'
   ·subst e
    rw[if_pos rfl]
    right
    intro cs hcs
    have:=g.fr t
    cases hf:fr.get t with
    |none=>rw[hf]at this;exact this cs hcs
    |some a=>
     rw[hf]at this
     cases a with
     |val a=>exact hn1 a (by simp[aget,hf])
     |box a=>exact hn2 a (by simp[aget,hf])
     |lptr n o=>
      obtain⟨s,h1,h2⟩:=this
      rw[hcs]at h1;injection h1 with h1;subst h1;simp[SVa]at h2
     |cst k=>
      obtain⟨s,h1,h2⟩:=this
      rw[hcs]at h1;injection h1 with h1;subst h1
      have hl:=getE_lt h2
      rw[g.len]at hl
      obtain⟨s',h5,h6⟩:=g.T k _ (List.getElem?_eq_getElem hl)
      rw[h2]at h5;injection h5 with h5;subst h5
      have ha:aget T fr t=some (T[k]):=by simp[aget,hf,List.getElem?_eq_getElem hl]
      cases hTk:T[k] with
      |val a=>exact hn1 a (by rw[ha,hTk])
      |box a=>exact hn2 a (by rw[ha,hTk])
      |lptr _ _=>rw[hTk]at h6;simp[SVa]at h6
      |cst _=>rw[hTk]at h6;simp[SVa]at h6
   ·rw[if_neg e];exact h4 t' h
theorem keepsOf_ok:∀(l:Shp) (i:Nat),∃TJ,Cst T TI σ c i (keepsOf T fr l i) TJ
 |[],i=>⟨[],⟨rfl,by simp[keepsOf],by simp,by simp[keepsOf,AFr.get],by simp[keepsOf]⟩⟩
 |(t,k)::r,i=>by
  cases k with
  |keep=>
   simp only[keepsOf]
   split
   ·rename_i a ha
    obtain⟨sv,h1,h2⟩:=aget_ok g ha
    obtain⟨TJ,h3⟩:=keepsOf_ok r (i+1)
    exact⟨sv::TJ,h3.cons h1 h2 (by rintro n o rfl;simp[SVa]at h2)⟩
   ·rename_i a ha
    obtain⟨sv,h1,h2⟩:=aget_ok g ha
    obtain⟨TJ,h3⟩:=keepsOf_ok r (i+1)
    exact⟨sv::TJ,h3.cons h1 h2 (by rintro n o rfl;simp[SVa]at h2)⟩
   ·exact keepsOf_ok r i
  |val=>exact keepsOf_ok r i
  |own=>exact keepsOf_ok r i
  |box=>exact keepsOf_ok r i
  |obj=>exact keepsOf_ok r i
  |ow=>exact keepsOf_ok r i
  |root=>exact keepsOf_ok r i
  |groot=>exact keepsOf_ok r i
  |agw=>exact keepsOf_ok r i
end
theorem posOf_ok {T:List ASV} {TI:List SV} {σ:Fr} {c:Cf} {y:AFr×List ASV×List (Nat×Nat)} {TJ:List SV} (h:Cst T TI σ c 0 y TJ) {t i:Nat} (e:posOf y.2.2 t=some i):∃sv,TJ[i]? = some sv∧σ.get t=some sv:=by
 unfold posOf at e
 obtain⟨q,h1,rfl⟩:=Option.map_eq_some_iff.1 e
 have h2:=List.mem_of_find?_eq_some h1
 have h3:=List.find?_some h1
 simp only[beq_iff_eq]at h3
 obtain⟨j,sv,h4,h5,h6⟩:=h.pos q.1 q.2 h2
 simp only[Nat.zero_add]at h4
 exact⟨sv,by rw[h4];exact h5,by rw[←h3];exact h6⟩
theorem abs_eq {T:List ASV} {pos:Nat→Option Nat} {base:Nat→Option ASV} {chk:Bool} {st:ASt} {sh:Shp} {x:(rowTy sh.hs).den×Use} (e:abs T pos base chk st sh=some x):
 ∃d,absS T pos base chk st sh=some (d,x.2)∧x.1=pack d∧x.2.ok st.H=true∧boxesIn T st.fr sh=true:=by
 unfold abs at e
 obtain⟨y,e1,e⟩:=bind_some'.1 e
 split at e
 ·rename_i h
  simp only[Bool.and_eq_true]at h
  simp at e;subst e
  exact⟨y.1,e1,rfl,h.1,h.2⟩
 ·cases e
theorem absX_inv {Rr:Type} {T:List ASV} {pos:Nat→Option Nat} {base base':Nat→Option ASV} {ex:Ex} {st:ASt} {H:AHp} {k:Ex→ASt→Option Rr} {r:Rr}:∀{xs:List (Ex×Shp)} {v:XT xs},absX T pos base ex st xs=some v→invX base' H xs v k=some r→
 ∃sh x y,abs T pos base true st sh=some x∧inv base' sh x.1 H=some y∧k ex y=some r
 |[],v,e,_=>by simp[absX]at e
 |[x],v,e,e'=>by
  simp only[absX]at e
  split at e
  ·rename_i hx;subst hx
   obtain⟨y,e1,e⟩:=bind_some'.1 e
   injection e with e;subst e
   simp only[invX]at e'
   obtain⟨z,e2,e'⟩:=bind_some'.1 e'
   exact⟨x.2,y,z,e1,e2,e'⟩
  ·cases e
 |x::w::xs,v,e,e'=>by
  simp only[absX]at e
  split at e
  ·rename_i hx;subst hx
   obtain⟨y,e1,e⟩:=bind_some'.1 e
   injection e with e;subst e
   simp only[invX]at e'
   obtain⟨z,e2,e'⟩:=bind_some'.1 e'
   exact⟨x.2,y,z,e1,e2,e'⟩
  ·obtain⟨z,e1,e⟩:=bind_some'.1 e
   injection e with e;subst e
   simp only[invX]at e'
   exact absX_inv e1 e'
theorem boxes_ok {T:List ASV} {TI:List SV} {c:Cf} {st:ASt} {σ:Fr} (g:GF T TI c st.fr σ) {sh:Shp} (h:boxesIn T st.fr sh=true) {t:Nat} (hn:∀q∈sh,q.1=t→isG q.2=true):∀cs,σ.get t≠some (.box cs):=by
 intro cs hcs
 have hf:=afree_ok g (t:=t)
 have h0:=g.fr t
 cases hg:st.fr.get t with
 |none=>rw[hg]at h0;exact h0 cs hcs
 |some a=>
  have hm:∃v,(t,v)∈st.fr:=by
   have:∀{l:AFr} {v},l.get t=some v→∃v,(t,v)∈l:=by
    intro l
    induction l with
    |nil=>intro v h;cases h
    |cons p l ih=>
     intro v h
     obtain⟨q,w⟩:=p
     simp only[AFr.get]at h
     split at h
     ·rename_i e;subst e;exact⟨w,by simp⟩
     ·obtain⟨v',hv'⟩:=ih h;exact⟨v',by simp[hv']⟩
   exact this hg
  obtain⟨v,hv⟩:=hm
  have:=List.all_eq_true.1 h _ hv
  simp only[Bool.or_eq_true,List.any_eq_true,Bool.and_eq_true,beq_iff_eq]at this
  rcases this with h1|⟨q,hq,e,hg⟩
  ·have:=hf h1
   unfold lptrFree at this
   rw[hcs]at this;cases this
  ·have:=hn q hq e
   revert hg this
   cases q.2<;>simp[isG]
section
variable {prog:Nat→Option SFn} {opn:Nat→Bool} {cs:Nat→Option Ct} {ety:Nat→Option Ty} {icall:∀R:Type,Nat→List AV→AHp→(AV→AHp→Option R)→Option R}
def CodeOk (prog:Nat→Option SFn) (opn:Nat→Bool) (cs:Nat→Option Ct) (ety:Nat→Option Ty) (icall:∀R:Type,Nat→List AV→AHp→(AV→AHp→Option R)→Option R) (code:ACode):Prop:=
 ∀{Rr:Type} {T:List ASV} {st:ASt} {k:Ex→ASt→Option Rr} {r:Rr},aC cs opn ety icall (fun _ _=>iterL) code T st k=some r→
  ∀{R:Run} {TI:List SV} {c:Cf} {s:St},G R T TI c st s→
   ∃ex s',evL prog opn code.erase s=some (ex,s')∧∃st' c',G R T TI c' st' s'∧Le c c'∧k ex st'=some r
variable (hcs:∀f ct,cs f=some ct→CtOk prog opn f ct) (hic:∀R,ICallOk prog opn (icall R))
include hcs hic
def fkOf (TI:List SV) (c:Cf):ASV→Option SV→Prop:=fun a v=>match a with
    |.cst i=>∃sv,v=some sv∧TI[i]? = some sv
    |a=>∃sv,v=some sv∧SVa c a sv
omit hcs hic in
theorem fkOf_le {TI:List SV} {c c1:Cf} (le:Le c c1) {a:ASV} {v:Option SV} (h:fkOf TI c a v):FR TI c1 (some a) v:=by
 cases a with
 |cst i=>exact h
 |val _=>obtain⟨sv,h1,h2⟩:=h;exact⟨sv,h1,h2.le le⟩
 |box _=>obtain⟨sv,h1,h2⟩:=h;exact⟨sv,h1,h2.le le⟩
 |lptr _ _=>obtain⟨sv,h1,h2⟩:=h;exact⟨sv,h1,h2.le le⟩
omit hcs hic in
theorem ghostOb {R:Run} {c:Cf} (g:GH R c) {t B:Nat} {o:Off} (h:ghostOf c.H t=some (.val (.ptr B o))):∃x0,c.H[B]? = some x0∧(x0 = .gone∨isOb x0=true):=by
 unfold ghostOf at h
 split at h
 ·obtain⟨B',h1,h2⟩:=Option.map_eq_some_iff.1 h
  injection h2 with h2;injection h2 with h2;subst h2
  obtain⟨_,_,y,h3,h4⟩:=g.ro' h1
  refine⟨y,h3,?_⟩
  cases y<;>simp only at h4<;>first|exact .inl rfl|exact .inr rfl
 ·cases h
omit hcs hic in
theorem ptrOb {c:Cf} {B:Nat} {o:Off} {iv:IV} (h:PtrR c B o iv):∃x0,c.H[B]? = some x0∧(x0 = .gone∨isOb x0=true):=by
 unfold PtrR at h
 cases hB:c.H[B]? with
 |none=>rw[hB]at h;exact h.elim
 |some x=>
  rw[hB]at h
  refine⟨x,rfl,?_⟩
  cases x<;>simp only at h<;>first|exact .inl rfl|exact .inr rfl
theorem leave_ok {R R1:Run} {T T':List ASV} {TI TJ:List SV} {c c2:Cf} {st st2:ASt} {s s2:St} {gv:List Nat} (g:G R T TI c st s) (sb:Sub R c gv R1) (g2:G R1 T' TJ c2 st2 s2) (le:Le c c2) {pos:Nat→Option Nat}
 (hpos:∀t i,pos t=some i→∃sv,TJ[i]? = some sv∧s.1.get t=some sv) {sh:Shp} {x:(rowTy sh.hs).den×Use} {y:ASt} (e:abs T' pos (baseOf T st.H st.fr) true st2 sh=some x) (e2:inv (baseOf T st.H st.fr) sh x.1 (goneIf gv false 0 st.H)=some y) (hro:rtOk st.H st2.H=true):
 ∃c3,G R T TI c3 y s2∧Le c c3:=by
 obtain⟨d,e1,e3,ok,hbx⟩:=abs_eq e
 rw[e3]at e2
 simp only[inv,unpack_pack]at e2
 have base1:∀{t},t<ghost→baseOf T st.H st.fr t=match st.fr.get t with
  |some (.cst i)=>some (.cst i)
  |_=>aget T st.fr t:=fun {t} ht=>by
  have:ghostOf st.H t=none:=by unfold ghostOf;rw[if_neg (by omega)]
  unfold baseOf;rw[this];rfl
 have bfk:∀t a,t<ghost→baseOf T st.H st.fr t=some a→fkOf TI c a (s.1.get t):=by
  intro t a ht ha
  rw[base1 ht]at ha
  split at ha
  ·rename_i i hi
   simp at ha;subst ha
   have:=g.gf.fr t
   rw[hi]at this
   exact this
  ·obtain⟨sv,h1,h2⟩:=aget_ok g.gf ha
   cases a with
   |cst i=>cases sv<;>simp[SVa]at h2
   |val _=>exact⟨sv,h1,h2⟩
   |box _=>exact⟨sv,h1,h2⟩
   |lptr _ _=>exact⟨sv,h1,h2⟩
 have hk:∀t,t<ghost→(∃i,st2.fr.get t=some (.cst i)∧pos t=some i)→∀a,baseOf T st.H st.fr t=some a→fkOf TI c a (s2.1.get t):=by
  rintro t ht ⟨i,h1,h2⟩ a ha
  obtain⟨sv,h3,h4⟩:=hpos t i h2
  have:=g2.gf.fr t
  rw[h1]at this
  obtain⟨sv2,h7,h8⟩:=this
  rw[h3]at h8;injection h8 with h8;subst h8
  have:=bfk t a ht ha
  rw[h4]at this
  rw[h7];exact this
 obtain⟨L,O,f,hu⟩:=absS_ok (fk:=fkOf TI c) (Z:=Z3of c2 x.2) g2.gh.blk (fun b hb=>.inl hb) g2.H g2.gf hk (.inl rfl) e1 (fun B hB b hm=>.inr ⟨B,hB,hm⟩)
 have hobj:∀q∈O,∃x0,c.H[q.1]? = some x0∧isOb x0=true:=fun q hq=>by
  obtain⟨t,ht⟩:=SF_base f q hq
  have key:∃x0,c.H[q.1]? = some x0∧(x0 = .gone∨isOb x0=true):=by
   by_cases hg:ghost≤t
   ·have h1:baseOf T st.H st.fr t=(ghostOf st.H t).orElse fun _=>_:=rfl
    cases hgo:ghostOf st.H t with
    |none=>
     unfold baseOf at ht
     rw[hgo]at ht
     simp only[Option.orElse_none]at ht
     have:∃sv,s.1.get t=some sv∧SVa c (.val (.ptr q.1 (.st 0))) sv:=by
      split at ht
      ·cases ht
      ·exact aget_ok g.gf ht
     obtain⟨sv,_,h2⟩:=this
     cases sv<;>simp only[SVa,Va]at h2
     exact ptrOb h2.2
    |some a=>
     unfold baseOf at ht
     rw[hgo]at ht
     simp only[Option.orElse_some,Option.some.injEq]at ht;subst ht
     rw[←g.H]at hgo
     exact ghostOb g.gh hgo
   ·obtain⟨sv,h1,h2⟩:=bfk t _ (by omega) ht
    cases sv<;>simp only[SVa,Va]at h2
    exact ptrOb h2.2
  obtain⟨x0,h1,rfl|h2⟩:=key
  ·have:=le.gone h1
   obtain⟨_,_,cs,h3⟩:=hu.o q hq
   rw[this]at h3;cases h3
  ·exact⟨x0,h1,h2⟩
 rw[←g2.H]at ok
 have rs:=leave g.gh sb (use_ok g2.gh hu ok) (zleOf le x.2) le.rt (fun i b h=>by obtain⟨j,B,h⟩:=g2.gh.rtd i b h;rw[g2.H]at h;rw[g.H];exact rtOk_ok hro h) (objm le hu hobj) hobj
 rw[←g.H]at e2
 have hp:c2.p=c.p:=le.p
 rw[hp]at f
 rw[g.H]at rs e2
 obtain⟨c3,hc3,g3,le3,h3⟩:=reshape rs f e2
 refine⟨c3,⟨g3,by rw[hc3],by rw[hc3];exact g2.h,⟨fun t=>?_,g.gf.len,fun i a h=>?_,g.gf.tl⟩⟩,le3⟩
 ·rcases h3 TI (fun a v hv=>fkOf_le le3 hv) t with h|⟨h,h'⟩
  ·exact h
  ·rw[h];exact boxes_ok g2.gf hbx h'
 ·obtain⟨sv,h1,h2⟩:=g.gf.T i a h
  exact⟨sv,h1,h2.le le3⟩
theorem join_ok {raw:List Nat} {exits:List (Ex×Shp)} {cd:ACode} (ih:CodeOk prog opn cs ety icall cd):CodeOk prog opn cs ety icall (.join raw exits cd):=by
 intro Rr T st k r e R TI c s g
 simp only[aC]at e
 obtain⟨v,e1,e2⟩:=bind_some'.1 e
 obtain⟨TJ,hC,hN⟩:=constS_ok g.gf raw st.fr 0
 let gv:=raw.flatMap (leadsS T st)
 let R1:Run:={ p:=R.p,N:=c.h.length,O0:=fun b=>∃B x,c.H[B]? = some x∧B∈gv∧x.wr=true∧b∈c.ft B,h0:=c.h,Z0:=c.Z }
 have sb:Sub R c gv R1:=⟨rfl,rfl,rfl,fun b=>Iff.rfl,fun b h=>h,fun b h=>.inl h⟩
 let c1:Cf:={ c with H:=roIf gv 0 st.H }
 have hget:∀(i:Nat) x',c1.H[i]? = some x'→∃x,c.H[i]? = some x∧((i∈gv∧x'=x)∨(i∉gv∧x'=roB x)):=fun i x' h=>by
  simp only[c1]at h
  rw[roIf_get,←g.H]at h
  obtain⟨x,h1,h2⟩:=Option.map_eq_some_iff.1 h
  simp only[Nat.zero_add,List.contains_eq_mem,decide_eq_true_eq]at h2
  split at h2
  ·rename_i hm;exact⟨x,h1,.inl ⟨hm,h2.symm⟩⟩
  ·rename_i hm;exact⟨x,h1,.inr ⟨hm,h2.symm⟩⟩
 have le1:Le c c1:=by
  refine⟨rfl,fun B x hB=>⟨rfl,?_⟩,⟨fun _ h=>h,fun _ _=>rfl⟩,fun _ _ h=>h⟩
  have:c1.H[B]? = some (if gv.contains (0+B) then x else roB x):=by
   simp only[c1];rw[roIf_get,←g.H,hB];rfl
  refine⟨_,this,?_⟩
  split
  ·exact blkLe.rfl' _ x
  ·exact blkLe_roB _ x
 have gh1:GH R1 c1:=by
  refine⟨g.gh.p,?_,?_,?_,?_,?_,?_,⟨Nat.le_refl _,fun b _ _=>rfl⟩,fun b hb=>⟨(g.gh.zb b hb).1,.inl hb⟩,fun b hb=>hb,fun i b h=>?_⟩
  ·intro B x' hB
   obtain⟨x,h1,h2⟩:=hget B x' hB
   have:=(g.gh.blk B x h1).le le1 (fun _ _=>rfl)
   rcases h2 with ⟨_,rfl⟩|⟨_,rfl⟩
   ·exact this
   ·exact BR_roB this
  ·intro B B' x x' b hB hB' hw hw' hm hm'
   obtain⟨x0,h1,h2⟩:=hget B x hB
   obtain⟨x1,h3,h4⟩:=hget B' x' hB'
   rcases h2 with ⟨_,rfl⟩|⟨_,rfl⟩
   ·rcases h4 with ⟨_,rfl⟩|⟨_,rfl⟩
    ·exact g.gh.inj B B' _ _ b h1 h3 hw hw' hm hm'
    ·rw[roB_wr]at hw';cases hw'
   ·rw[roB_wr]at hw;cases hw
  ·intro B x hB hw
   obtain⟨x0,h1,h2⟩:=hget B x hB
   rcases h2 with ⟨h,rfl⟩|⟨_,rfl⟩
   ·exact g.gh.nd B x h1 hw
   ·rw[roB_wr]at hw;cases hw
  ·intro B x b hB hw hm
   obtain⟨x0,h1,h2⟩:=hget B x hB
   rcases h2 with ⟨h,rfl⟩|⟨_,rfl⟩
   ·exact⟨.inl ⟨B,x,h1,h,hw,hm⟩,(g.gh.wr B x b h1 hw hm).2⟩
   ·rw[roB_wr]at hw;cases hw
  ·intro B x b hB hw hg hm
   obtain⟨x0,h1,h2⟩:=hget B x hB
   rcases h2 with ⟨h,rfl⟩|⟨h,rfl⟩
   ·refine⟨g.gh.lt B x b h1 hg hm,?_⟩
    rintro⟨B',x',h3,h4,h5,h6⟩
    have h7:=g.gh.ro B x b h1 hw hg hm
    rcases (g.gh.wr B' x' b h3 h5 h6).1 with h8|h8
    ·exact h7.2 h8
    ·omega
   ·exact sb.kept g.gh h h1 (by intro e;subst e;exact hg rfl) hm
  ·intro B x b hB hg hm
   obtain⟨x0,h1,h2⟩:=hget B x hB
   refine g.gh.lt B x0 b h1 (fun e=>?_) hm
   subst e
   rcases h2 with ⟨_,rfl⟩|⟨_,rfl⟩<;>exact hg rfl
  ·obtain⟨j,B,h⟩:=g.gh.rtd i b h
   refine⟨j,B,?_⟩
   simp only[c1];rw[roIf_get,←g.H,h];simp[roB]
 have g1:G R1 (constS T st.fr raw st.fr 0).2.1 TJ c1 ⟨(constS T st.fr raw st.fr 0).1,roIf gv 0 st.H⟩ s:=by
  refine⟨gh1,rfl,g.h,⟨fun t=>?_,hC.len,fun i a h=>?_,hC.tl⟩⟩
  ·cases h:(constS T st.fr raw st.fr 0).1.get t with
   |none=>
    rcases hN t h with h|h
    ·have:=g.gf.fr t;rw[h]at this;exact this
    ·exact h
   |some v=>
    rcases hC.fr t v h with ⟨h1,sv,h2,h3⟩|⟨j,sv,rfl,h2,h3⟩
    ·cases v with
     |cst k=>exact(h1 k rfl).elim
     |val _=>exact⟨sv,h2,h3.le le1⟩
     |box _=>exact⟨sv,h2,h3.le le1⟩
     |lptr _ _=>exact⟨sv,h2,h3.le le1⟩
    ·exact⟨sv,h3,by rw[Nat.zero_add];exact h2⟩
  ·obtain⟨sv,h1,h2⟩:=hC.T i a h
   exact⟨sv,h1,h2.le le1⟩
 obtain⟨ex,s',h1,st2,c2,g2,le2,h2⟩:=ih e1 g1
 have hro:rtOk st.H st2.H=true:=by
  split at h2
  ·assumption
  ·cases h2
 rw[if_pos hro]at h2
 obtain⟨sh,x,y,h3,h4,h5⟩:=absX_inv h2 e2
 obtain⟨c3,g3,le3⟩:=leave_ok hcs hic g sb g2 (le1.trans le2) (fun t i hp=>posOf_ok hC hp) h3 h4 hro
 exact⟨ex,s',h1,y,c3,g3,le3,h5⟩
end
end Go.Ideal
set_option linter.unusedVariables false
set_option linter.unusedSimpArgs false
set_option linter.unusedSectionVars false
namespace Go.Ideal
section
variable {prog:Nat→Option SFn} {opn:Nat→Bool} {cs:Nat→Option Ct} {ety:Nat→Option Ty} {icall:∀R:Type,Nat→List AV→AHp→(AV→AHp→Option R)→Option R}
variable (hcs:∀f ct,cs f=some ct→CtOk prog opn f ct) (hic:∀R,ICallOk prog opn (icall R))
include hcs hic
theorem loop_ok {head:Shp} {exits:List (Ex×Shp)} {cd:ACode} (ih:CodeOk prog opn cs ety icall cd):CodeOk prog opn cs ety icall (.loop head exits cd):=by
 intro Rr T st k r e R TI c s g
 simp only[aC]at e
 obtain⟨x,e1,e⟩:=bind_some'.1 e
 obtain⟨v,e2,e3⟩:=bind_some'.1 e
 obtain⟨TJ,hC⟩:=keepsOf_ok g.gf head 0
 generalize hks:keepsOf T st.fr head 0=ks at *
 generalize hbh:(fun t=>match posOf ks.2.2 t with|some i=>some (ASV.cst i)|none=>(ghostOf st.H t).orElse fun _=>aget T st.fr t)=bh at *
 have bh_eq:∀t,bh t=match posOf ks.2.2 t with|some i=>some (ASV.cst i)|none=>(ghostOf st.H t).orElse fun _=>aget T st.fr t:=fun t=>by rw[←hbh]
 let fk:ASV→Option SV→Prop:=fun a v=>match a with
  |.cst i=>∃sv,v=some sv∧TJ[i]? = some sv
  |a=>∃sv,v=some sv∧SVa c a sv
 have fk0:∀t a,t<ghost→bh t=some a→fk a (s.1.get t):=by
  intro t a ht ha
  rw[bh_eq]at ha
  cases hp:posOf ks.2.2 t with
  |some i=>
   rw[hp]at ha;simp at ha;subst ha
   obtain⟨sv,h1,h2⟩:=posOf_ok hC hp
   exact⟨sv,h2,h1⟩
  |none=>
   have hg:ghostOf st.H t=none:=by unfold ghostOf;rw[if_neg (by omega)]
   rw[hp]at ha
   simp only[hg,Option.orElse_none]at ha
   obtain⟨sv,h1,h2⟩:=aget_ok g.gf ha
   cases a with
   |cst i=>cases sv<;>simp[SVa]at h2
   |val _=>exact⟨sv,h1,h2⟩
   |box _=>exact⟨sv,h1,h2⟩
   |lptr _ _=>exact⟨sv,h1,h2⟩
 have fkFR:∀{c1},Le c c1→∀a v,fk a v→FR TJ c1 (some a) v:=by
  intro c1 le a v h
  cases a with
  |cst i=>exact h
  |val _=>obtain⟨sv,h1,h2⟩:=h;exact⟨sv,h1,h2.le le⟩
  |box _=>obtain⟨sv,h1,h2⟩:=h;exact⟨sv,h1,h2.le le⟩
  |lptr _ _=>obtain⟨sv,h1,h2⟩:=h;exact⟨sv,h1,h2.le le⟩
 have bobj:∀{t B},bh t=some (.val (.ptr B (.st 0)))→c.H[B]?≠some .gone→∃x0,c.H[B]? = some x0∧isOb x0=true:=by
  intro t B h hg
  have key:∃x0,c.H[B]? = some x0∧(x0 = .gone∨isOb x0=true):=by
   rw[bh_eq]at h
   cases hp:posOf ks.2.2 t with
   |some i=>rw[hp]at h;cases h
   |none=>
    rw[hp]at h
    cases hgo:ghostOf st.H t with
    |none=>
     simp only[hgo,Option.orElse_none]at h
     obtain⟨sv,h1,h2⟩:=aget_ok g.gf h
     cases sv<;>simp only[SVa,Va]at h2
     exact ptrOb h2.2
    |some a=>
     simp only[hgo,Option.orElse_some,Option.some.injEq]at h;subst h
     rw[←g.H]at hgo
     exact ghostOb g.gh hgo
  obtain⟨x0,h1,rfl|h2⟩:=key
  ·exact(hg h1).elim
  ·exact⟨x0,h1,h2⟩
 obtain⟨d,a1,a2,ok,hbx⟩:=abs_eq e1
 obtain⟨L,O,f,hu⟩:=absS_ok (fk:=fk) (Z:=Z3of c x.2) g.gh.blk (fun b hb=>.inl hb) g.H g.gf (fun t ht _=>fun a=>fk0 t a ht) (.inr fk0) a1 (fun B hB b hm=>.inr ⟨B,hB,hm⟩)
 rw[←g.H]at ok
 obtain⟨sb,uf⟩:=enter g.gh hu ok _ rfl
 generalize hR1:({ p:=R.p,N:=c.h.length,O0:=fun b=>∃B x0,c.H[B]? = some x0∧B∈x.2.own++x.2.frz++x.2.obj∧x0.wr=true∧b∈c.ft B,h0:=c.h,Z0:=Z3of c x.2 }:Run)=R1 at *
 have hobjs:O.map Prod.fst=objsOf bh head:=SF_objs f
 have gsOk:∀(O2:Oo),O2.map Prod.fst=objsOf bh head→∀i,i∉x.2.own++x.2.frz→i∉O2.map Prod.fst→i∉x.2.own++x.2.frz++x.2.obj:=fun O2 h i h1 h2=>by
  rw[h,←hobjs,hu.obj]at h2
  simp only[List.mem_append,not_or]at h1 ⊢
  exact⟨h1,h2⟩
 have hobj1:∀q∈O,∃x0,c.H[q.1]? = some x0∧isOb x0=true:=fun q hq=>by
  obtain⟨_,_,cs,h⟩:=hu.o q hq;exact⟨_,h,rfl⟩
 have rs:=goOn g.gh sb uf (zleOf (Le.refl c) x.2) (fun _ _ h=>h) g.gh.rtd (fun q hq=>(hu.o q hq).1) hobj1 (gsOk O hobjs)
 have mk:∀{y:ASt} {si:(rowTy head.hs).den} {s2:St} {Z3:Nat→Prop} {rt3:Nat→Option Nat} {d:DL head.hs} {L:Lo} {O:Oo},Rsh R1 c (goneIf (x.2.own++x.2.frz) true 0 c.H) Z3 s2.2 rt3 L O→SF c.p Z3 s2.2 rt3 s2.1 bh fk head d L O→si=pack d→
  (∀t,(∀q∈head,q.1=t→isG q.2=true)→∀cs,s2.1.get t≠some (.box cs))→inv bh head si (goneIf (x.2.own++x.2.frz) true 0 st.H)=some y→∃c1,G R1 ks.2.1 TJ c1 y s2∧Le c c1:=by
  intro y si s2 Z3 rt3 d L O rs f hsi hbx e
  subst hsi
  simp only[inv,unpack_pack]at e
  rw[←g.H]at e
  obtain⟨c1,hc1,g1,le1,h1⟩:=reshape rs f e
  refine⟨c1,⟨g1,by rw[hc1],by rw[hc1],⟨fun t=>?_,hC.len,fun i a h=>?_,hC.tl⟩⟩,le1⟩
  ·rcases h1 TJ (fkFR le1) t with h|⟨h,h'⟩
   ·exact h
   ·rw[h];exact hbx t h'
  ·obtain⟨sv,h2,h3⟩:=hC.T i a h
   exact⟨sv,h2,h3.le le1⟩
 have main:∀(n:Nat) (si:(rowTy head.hs).den) (s2:St),(∀y,inv bh head si (goneIf (x.2.own++x.2.frz) true 0 st.H)=some y→∃c1,G R1 ks.2.1 TJ c1 y s2∧Le c c1)→
  ∀F,F=(fun s=>(inv bh head s (goneIf (x.2.own++x.2.frz) true 0 st.H)).bind fun st1=>
   aC cs opn ety icall (fun _ _=>iterL) cd ks.2.1 st1 (R:=(rowTy head.hs).den⊕XT exits) fun ex st'=>match ex with
    |.normal=>if rtOk st.H st'.H then (abs ks.2.1 (posOf ks.2.2) bh true st' head).bind fun y=>some (.inl y.1) else none
    |ex=>if rtOk st.H st'.H then (absX ks.2.1 (posOf ks.2.2) (baseOf T st.H st.fr) ex st' exits).bind fun y=>some (.inr y) else none)→iterN F n si=some v→
  ∃ex s',loopL (evL prog opn cd.erase) s2=some (ex,s')∧∃st' c',G R T TI c' st' s'∧Le c c'∧k ex st'=some r:=by
  intro n
  induction n with
  |zero=>intro si s2 _ F _ h;simp[iterN]at h
  |succ n ihn=>
   intro si s2 hs2 F hF h
   simp only[iterN]at h
   obtain⟨res,h1,h2⟩:=bind_some'.1 h
   rw[hF]at h1
   obtain⟨y,h3,h4⟩:=bind_some'.1 h1
   obtain⟨c1,g1,le1⟩:=hs2 y h3
   obtain⟨ex,s3,h5,st3,c3,g3,le3,h6⟩:=ih h4 g1
   rw[loopL_eq,h5]
   have le03:=le1.trans le3
   cases ex with
   |normal=>
    simp only at h6
    have hro:rtOk st.H st3.H=true:=by
     split at h6
     ·assumption
     ·cases h6
    rw[if_pos hro]at h6
    obtain⟨y2,h7,h8⟩:=bind_some'.1 h6
    injection h8 with h8;subst h8
    simp only at h2
    simp only[Option.bind_some]
    refine ihn y2.1 s3 (fun z hz=>?_) F hF h2
    obtain⟨d2,b1,b2,ok2,hbx2⟩:=abs_eq h7
    have hk:∀t,t<ghost→(∃i,st3.fr.get t=some (.cst i)∧posOf ks.2.2 t=some i)→∀a,bh t=some a→fk a (s3.1.get t):=by
     rintro t ht ⟨i,q1,q2⟩ a ha
     rw[bh_eq,q2]at ha;simp at ha;subst ha
     have:=g3.gf.fr t
     rw[q1]at this
     exact this
    obtain⟨L2,O2,f2,hu2⟩:=absS_ok (fk:=fk) (Z:=Z3of c3 y2.2) g3.gh.blk (fun b hb=>.inl hb) g3.H g3.gf hk (.inl rfl) b1 (fun B hB b hm=>.inr ⟨B,hB,hm⟩)
    rw[←g3.H]at ok2
    have hobj2:∀q∈O2,∃x0,c.H[q.1]? = some x0∧isOb x0=true:=fun q hq=>by
     obtain⟨t,ht⟩:=SF_base f2 q hq
     refine bobj ht fun hg=>?_
     have:=le03.gone hg
     obtain⟨_,_,cs',h3⟩:=hu2.o q hq
     rw[this]at h3;cases h3
    have rs2:=goOn g.gh sb (use_ok g3.gh hu2 ok2) (zleOf le03 y2.2) le03.rt (fun i b h=>by obtain⟨j,B,h⟩:=g3.gh.rtd i b h;rw[g3.H]at h;rw[g.H];exact rtOk_ok hro h) (objm le03 hu2 hobj2) hobj2 (gsOk O2 (SF_objs f2))
    rw[le03.p]at f2
    rw[g3.h]at rs2 f2
    exact mk rs2 f2 b2 (fun t ht=>boxes_ok g3.gf hbx2 ht) hz
   |exit i=>
    simp only at h6
    have hro:rtOk st.H st3.H=true:=by
     split at h6
     ·assumption
     ·cases h6
    rw[if_pos hro]at h6
    obtain⟨v',h7,h8⟩:=bind_some'.1 h6
    injection h8 with h8;subst h8
    simp only[Option.some.injEq]at h2;subst h2
    obtain⟨sh,xx,yy,q1,q2,q3⟩:=absX_inv h7 e3
    obtain⟨c4,g4,le4⟩:=leave_ok hcs hic g sb g3 le03 (fun t i hp=>posOf_ok hC hp) q1 q2 hro
    exact⟨.exit i,s3,rfl,yy,c4,g4,le4,q3⟩
   |ret=>
    simp only at h6
    have hro:rtOk st.H st3.H=true:=by
     split at h6
     ·assumption
     ·cases h6
    rw[if_pos hro]at h6
    obtain⟨v',h7,h8⟩:=bind_some'.1 h6
    injection h8 with h8;subst h8
    simp only[Option.some.injEq]at h2;subst h2
    obtain⟨sh,xx,yy,q1,q2,q3⟩:=absX_inv h7 e3
    obtain⟨c4,g4,le4⟩:=leave_ok hcs hic g sb g3 le03 (fun t i hp=>posOf_ok hC hp) q1 q2 hro
    exact⟨.ret,s3,rfl,yy,c4,g4,le4,q3⟩
 obtain⟨n,hn⟩:=iterL_some.1 e2
 rw[g.h]at rs f
 exact main n x.1 s (fun y hy=>mk rs f a2 (fun t ht=>boxes_ok g.gf hbx ht) hy) _ rfl hn
theorem aC_ok (code:ACode):CodeOk prog opn cs ety icall code:=by
 induction code with
 |skip=>
  intro Rr T st k r e R TI c s g
  simp only[aC]at e
  exact⟨.normal,s,rfl,st,c,g,Le.refl c,e⟩
 |reg its live=>
  intro Rr T st k r e R TI c s g
  simp only[aC]at e
  obtain⟨s1,h1,st1,c1,g1,le1,e1⟩:=aIts_ok hcs (hic Rr) g e
  exact⟨.normal,(s1.1.keep live,s1.2),by simp only[evL,ACode.erase,evC,h1,Option.bind_some],{ st1 with fr:=st1.fr.keep live },c1,⟨g1.gh,g1.H,g1.h,gkeep_ok g1.gf live⟩,le1,e1⟩
 |drw q0 bs live=>
  intro Rr T st k r e R TI c s g
  simp only[aC]at e
  split at e
  ·rename_i hc
   obtain⟨s1,h1,st1,c1,g1,le1,e1⟩:=aDs_ok hcs (hic Rr) g (by simp) e
   refine⟨.normal,(s1.1.keep live,s1.2),?_,{ st1 with fr:=st1.fr.keep live },c1,⟨g1.gh,g1.H,g1.h,gkeep_ok g1.gf live⟩,le1,e1⟩
   have df:∀{its:List Item},adstFree T st.fr its=true→dstFree s.1 its=true:=by
    intro its h
    unfold adstFree at h
    unfold dstFree
    rw[List.all_eq_true]at h ⊢
    intro it hit
    have:=h it hit
    cases hd:it.dst with
    |none=>rfl
    |some t=>rw[hd]at this;exact afree_ok g.gf this
   have h2:=df hc
   simp only[flatD,dstFree,List.all_append,Bool.and_eq_true,List.all_flatMap]at h2
   have:(dstFree s.1 q0&&bs.all fun b=>dstFree s.1 (b.w::b.qs))=true:=by
    simp only[dstFree,Bool.and_eq_true];exact h2
   simp only[evL,ACode.erase,evC,evDs]
   rw[if_pos this,←evZ_eq,h1];rfl
  ·cases e
 |seq a b iha ihb=>
  intro Rr T st k r e R TI c s g
  simp only[aC]at e
  obtain⟨ex,s1,h1,st1,c1,g1,le1,e1⟩:=iha e g
  cases ex with
  |normal=>
   simp only at e1
   obtain⟨ex2,s2,h2,st2,c2,g2,le2,e2⟩:=ihb e1 g1
   refine⟨ex2,s2,?_,st2,c2,g2,le1.trans le2,e2⟩
   simp only[evL,ACode.erase,evC]at h1 h2 ⊢
   rw[h1];exact h2
  |exit i=>
   refine⟨.exit i,s1,?_,st1,c1,g1,le1,e1⟩
   simp only[evL,ACode.erase,evC]at h1 ⊢
   rw[h1];rfl
  |ret=>
   refine⟨.ret,s1,?_,st1,c1,g1,le1,e1⟩
   simp only[evL,ACode.erase,evC]at h1 ⊢
   rw[h1];rfl
 |cond cx a b iha ihb=>
  intro Rr T st k r e R TI c s g
  simp only[aC]at e
  split at e
  ·rename_i b' hb
   obtain⟨iv,h1,h2⟩:=av_ok g.gf hb
   simp only[Va]at h2;subst h2
   cases b' with
   |true=>
    simp only[cond_true]at e
    obtain⟨ex,s1,h3,rest⟩:=iha e g
    refine⟨ex,s1,?_,rest⟩
    simp only[evL,ACode.erase,evC,h1,Option.bind_some]at h3 ⊢
    exact h3
   |false=>
    simp only[cond_false]at e
    obtain⟨ex,s1,h3,rest⟩:=ihb e g
    refine⟨ex,s1,?_,rest⟩
    simp only[evL,ACode.erase,evC,h1,Option.bind_some]at h3 ⊢
    exact h3
  ·cases e
 |block id a iha=>
  intro Rr T st k r e R TI c s g
  simp only[aC]at e
  obtain⟨ex,s1,h1,st1,c1,g1,le1,e1⟩:=iha e g
  simp only[evL]at h1
  split at e1
  ·rename_i hx
   refine⟨.normal,s1,?_,st1,c1,g1,le1,e1⟩
   simp only[evL,ACode.erase,evC,h1,Option.bind_some]
   rw[if_pos hx]
  ·rename_i hx
   refine⟨ex,s1,?_,st1,c1,g1,le1,e1⟩
   simp only[evL,ACode.erase,evC,h1,Option.bind_some]
   rw[if_neg hx]
 |loop head exits a iha=>exact loop_ok hcs hic iha
 |exit i=>
  intro Rr T st k r e R TI c s g
  simp only[aC]at e
  exact⟨.exit i,s,rfl,st,c,g,Le.refl c,e⟩
 |ret=>
  intro Rr T st k r e R TI c s g
  simp only[aC]at e
  exact⟨.ret,s,rfl,st,c,g,Le.refl c,e⟩
 |bad=>
  intro Rr T st k r e R TI c s g
  simp only[aC]at e;cases e
 |prim p=>
  intro Rr T st k r e R TI c s g
  simp only[aC]at e;cases e
 |join raw exits a iha=>exact join_ok hcs hic iha
end
end Go.Ideal
set_option linter.unusedVariables false
set_option linter.unusedSimpArgs false
set_option linter.unusedSectionVars false
namespace Go.Ideal
structure AFn where
 np:Nat
 res:List RV
 code:ACode
 ety:List (Nat×Ty)
def AFn.fn (a:AFn):SFn:=⟨a.np,a.res,a.code.erase⟩
def etyOf (l:List (Nat×Ty)) (t:Nat):Option Ty:=(l.find? (·.1==t)).map (·.2)
def ainit (i:Nat):List AV→AFr
 |[]=>[]
 |v::vs=>(i,.val v)::ainit (i+1) vs
def resA {R:Type} (st:ASt):List RV→(List AV→Option R)→Option R
 |[],k=>k []
 |.tmp t::r,k=>(av [] st.fr (.t t)).bind fun a=>resA st r fun as=>k (a::as)
 |.cell t n::r,k=>(ax [] st.fr (.t t)).bind fun p=>match n with
  |none=>acells [] st p 1 fun cs=>match cs with
   |[v]=>if v.one then resA st r fun as=>k (v::as) else none
   |_=>none
  |some n=>acells [] st p n fun cs=>resA st r fun as=>k (.agg cs::as)
def atupled:List AV→AV
 |[a]=>a
 |l=>.tup l
section
variable (cs:Nat→Option Ct) (opn:Nat→Bool) (lp:∀S X:Type,(S→Option (S⊕X))→S→Option X)
noncomputable def aBody (icall:∀R:Type,Nat→List AV→AHp→(AV→AHp→Option R)→Option R) {R:Type} (af:AFn) (args:List AV) (H:AHp) (k:List AV→ASt→Option R):Option R:=
 if args.length≤af.np then aC cs opn (etyOf af.ety) icall lp af.code [] ⟨ainit 0 args,H⟩ fun ex st=>match ex with
  |.exit _=>none
  |_=>resA st af.res fun as=>k as st
 else none
noncomputable def inl (fns:Nat→Option AFn):Nat→∀R:Type,Nat→List AV→AHp→(AV→AHp→Option R)→Option R
 |0,_,_,_,_,_=>none
 |n+1,R,f,args,H,k=>(fns f).bind fun af=>aBody cs opn lp (inl fns n) af args H fun as st=>k (atupled as) st.H
noncomputable def runG (icall:∀R:Type,Nat→List AV→AHp→(AV→AHp→Option R)→Option R) (af:AFn) (args res:List VTy) (fresh:Bool) (x:(rowTy (args.map (·.t))).den):Option (rowTy (res.map (·.t))).den:=
 (ofVs false true args x).bind fun as=>aBody cs opn lp icall af as [] fun rs st=>if fresh&&lnVs st.H rs then none else toVs st.H res rs
noncomputable def runF (fns:Nat→Option AFn) (n:Nat) (af:AFn) (args res:List VTy) (fresh:Bool) (x:(rowTy (args.map (·.t))).den):Option (rowTy (res.map (·.t))).den:=runG cs opn lp (inl cs opn lp fns n) af args res fresh x
end
section
variable {prog:Nat→Option SFn} {opn:Nat→Bool} {cs:Nat→Option Ct} {fns:Nat→Option AFn}
theorem resA_ok {Rr:Type} {R:Run} {TI:List SV} {c:Cf} {st:ASt} {s:St} (g:G R [] TI c st s):∀{rs:List RV} {k:List AV→Option Rr} {r:Rr},resA st rs k=some r→∃as ivs,k as=some r∧mapO (results1 s) rs=some ivs∧Vas c as ivs
 |[],k,r,e=>⟨[],[],e,rfl,rfl⟩
 |.tmp t::rs,k,r,e=>by
  simp only[resA]at e
  obtain⟨a,e1,e⟩:=bind_some'.1 e
  obtain⟨iv,h1,h2⟩:=av_ok g.gf e1
  obtain⟨as,ivs,h3,h4,h5⟩:=resA_ok g e
  exact⟨a::as,iv::ivs,h3,by simp[mapO,results1,h1,h4],⟨iv,ivs,rfl,h2,h5⟩⟩
 |.cell t n::rs,k,r,e=>by
  simp only[resA]at e
  obtain⟨p,e1,e⟩:=bind_some'.1 e
  obtain⟨sv,h1,h2⟩:=ax_ok g.gf e1
  cases n with
  |none=>
   simp only at e
   obtain⟨out,ivs,h3,h4,h5⟩:=acells_ok g h2 e
   split at h3
   ·split at h3
    ·rename_i v hv
     rw[Cas.single]at h5
     obtain⟨iv,rfl,_,h6⟩:=(cell_val hv).1 h5
     obtain⟨as,ivs',h7,h8,h9⟩:=resA_ok g h3
     exact⟨v::as,iv::ivs',h7,by simp[mapO,results1,h1,h4,h8],⟨iv,ivs',rfl,h6,h9⟩⟩
    ·cases h3
   ·cases h3
  |some n=>
   simp only at e
   obtain⟨out,ivs,h3,h4,h5⟩:=acells_ok g h2 e
   obtain⟨as,ivs',h7,h8,h9⟩:=resA_ok g h3
   exact⟨.agg out::as,.agg ivs::ivs',h7,by simp[mapO,results1,h1,h4,h8],⟨.agg ivs,ivs',rfl,by simp only[Va];exact⟨_,rfl,h5⟩,h9⟩⟩
theorem ainit_ok {c:Cf}:∀{as:List AV} {ivs:List IV} {i:Nat},Vas c as ivs→∀t,FR [] c ((ainit i as).get t) ((initFr i ivs).get t)
 |[],ivs,i,h,t=>by simp only[Vas]at h;subst h;simp[ainit,initFr,AFr.get,Fr.get,FR]
 |a::as,ivs,i,h,t=>by
  simp only[Vas]at h
  obtain⟨u,v,rfl,h1,h2⟩:=h
  simp only[ainit,initFr,AFr.get,Fr.get]
  split
  ·exact⟨_,rfl,h1⟩
  ·exact ainit_ok h2 t
theorem aBody_ok (hcs:∀f ct,cs f=some ct→CtOk prog opn f ct) {icall:∀R:Type,Nat→List AV→AHp→(AV→AHp→Option R)→Option R} (hic:∀R,ICallOk prog opn (icall R)) {Rr:Type} {af:AFn} {f:Nat} (hf:prog f=some af.fn) {args:List AV} {H:AHp} {k:List AV→ASt→Option Rr} {r:Rr}
 (e:aBody cs opn (fun _ _=>iterL) icall af args H k=some r) {R:Run} {c:Cf} {ivs:List IV} (g:GH R c) (hH:c.H=H) (h:Vas c args ivs):
 ∃(rs:List IV) (s':St),callL prog opn f ivs c.h=some (tupled rs,s'.2)∧∃as st' c',GH R c'∧c'.h=s'.2∧c'.H=st'.H∧Le c c'∧Vas c' as rs∧k as st'=some r:=by
 unfold aBody at e
 split at e
 ·rename_i hl
  have g0:G R [] [] c ⟨ainit 0 args,H⟩ (initFr 0 ivs,c.h):=⟨g,hH,rfl,⟨ainit_ok h,rfl,by simp,by simp⟩⟩
  obtain⟨ex,s',h1,st',c',g',le,h2⟩:=aC_ok hcs hic af.code e g0
  have hst:start af.fn ivs=some (initFr 0 ivs):=by
   unfold start;rw[if_pos];rw[h.len];exact hl
  have fin:∀(hx:∀i,ex≠.exit i) (h2:resA st' af.res (fun as=>k as st')=some r),∃(rs:List IV) (s':St),callL prog opn f ivs c.h=some (tupled rs,s'.2)∧∃as st' c',GH R c'∧c'.h=s'.2∧c'.H=st'.H∧Le c c'∧Vas c' as rs∧k as st'=some r:=by
   intro hx h2
   obtain⟨as,rs,h3,h4,h5⟩:=resA_ok g' h2
   refine⟨rs,s',?_,as,st',c',g'.gh,g'.h,g'.H,le,h5,h3⟩
   rw[callL_eq,hf]
   simp only[Option.bind_some]
   rw[hst]
   simp only[Option.bind_some]
   rw[show af.fn.body=af.code.erase from rfl,h1]
   simp only[Option.bind_some,finish]
   cases ex with
   |exit i=>exact(hx i rfl).elim
   |normal=>exact(congrArg (fun z=>Option.bind z _) h4).trans rfl
   |ret=>exact(congrArg (fun z=>Option.bind z _) h4).trans rfl
  cases ex with
  |exit i=>cases h2
  |normal=>exact fin (by simp) h2
  |ret=>exact fin (by simp) h2
 ·cases e
theorem tupled_va {c:Cf} {as:List AV} {rs:List IV} (h:Vas c as rs):Va c (atupled as) (tupled rs):=by
 have hl:=h.len
 unfold atupled
 split
 ·simp only[Vas]at h
  obtain⟨u,v,rfl,h1,rfl⟩:=h
  exact h1
 ·rename_i hno
  refine⟨rs,?_,h⟩
  unfold tupled
  split
  ·obtain⟨a,rfl⟩:=List.length_eq_one_iff.1 hl.symm
   exact(hno a rfl).elim
  ·rfl
theorem inl_ok (hcs:∀f ct,cs f=some ct→CtOk prog opn f ct) (hfns:∀f af,fns f=some af→prog f=some af.fn):∀(n:Nat) (R:Type),ICallOk prog opn (inl cs opn (fun _ _=>iterL) fns n R)
 |0,R=>by intro f args H k r e;simp[inl]at e
 |n+1,Rr=>by
  intro f args H k r e R c ivs g hH h
  simp only[inl]at e
  obtain⟨af,e1,e⟩:=bind_some'.1 e
  obtain⟨rs,s',h1,as,st',c',g',hh,hH',le,hv,hk⟩:=aBody_ok hcs (inl_ok hcs hfns n) (hfns f af e1) e g hH h
  exact⟨tupled rs,s'.2,h1,atupled as,c',g',hh,le,tupled_va hv,by rw[hH'];exact hk⟩
def depOk (vs:List VTy):Bool:=vs.all fun v=>decide (v.t.dep<18)
theorem fz_tup {h:Heap} {d:Nat} {cs cs':List IV} (e:mapO (fz h d) cs=some cs'):fz h (d+1) (.tup cs)=some (.tup cs'):=by
 unfold fz
 split
 ·simp[e]
 ·rename_i ho
  have hno:∀v∈cs,v.own=false:=by
   intro v hv
   simp only[IV.own,IV.ownL_eq]at ho
   rw[Bool.not_eq_true,List.any_eq_false]at ho
   simpa using ho v hv
  have:mapO (fz h d) cs=some cs:=by
   clear e ho
   induction cs with
   |nil=>rfl
   |cons a l ih=>simp[mapO,fz_not (hno a (by simp)),ih (fun v hv=>hno v (by simp[hv]))]
  rw[this]at e;injection e with e;subst e;rfl
theorem runG_ok (hcs:∀f ct,cs f=some ct→CtOk prog opn f ct) {icall:∀R:Type,Nat→List AV→AHp→(AV→AHp→Option R)→Option R} (hic:∀R,ICallOk prog opn (icall R)) {f:Nat} {af:AFn} (hf:prog f=some af.fn) {args res:List VTy} {fresh:Bool} (hd:(depOk args&&depOk res)=true)
 {F:(rowTy (args.map (·.t))).den→Option (rowTy (res.map (·.t))).den} (hF:∀x r,F x=some r→runG cs opn (fun _ _=>iterL) icall af args res fresh x=some r):CtOk prog opn f ⟨args,res,fresh,F⟩:=by
 simp only[Bool.and_eq_true,depOk,List.all_eq_true,decide_eq_true_eq]at hd
 refine⟨fun v hv=>Nat.lt_succ_of_lt (hd.1 v hv),fun p x ivs r hx hr=>?_⟩
 have e:=hF x r hr
 unfold runG at e
 obtain⟨as,e1,e⟩:=bind_some'.1 e
 let c:Cf:=⟨p,[],fun _=>none,Zn,[],fun _=>[],fun _=>none⟩
 let R:Run:=⟨p,0,fun _=>False,[],Zn⟩
 have g:GH R c:=by
  refine⟨rfl,?_,?_,?_,?_,?_,?_,⟨Nat.le_refl _,fun b hb=>absurd hb (Nat.not_lt_zero _)⟩,fun b hb=>hb.elim,fun b hb=>hb,fun i b h=>by simp[c]at h⟩
  ·intro B x h;simp[c]at h
  ·intro B B' x x' b h;simp[c]at h
  ·intro B x h;simp[c]at h
  ·intro B x b h;simp[c]at h
  ·intro B x b h;simp[c]at h
  ·intro B x b h;simp[c]at h
 have hv:Vas c as ivs:=ofVs_ok (c:=c) e1 hx
 obtain⟨rs,s',h1,as',st',c',g',hh,hH,le,hv',hk⟩:=aBody_ok hcs hic hf e g rfl hv
 split at hk
 ·cases hk
 ·rename_i hfr
  rw[←hH]at hk hfr
  have hln:lnVs c'.H as'=true→(!fresh)=true:=by
   intro h;rw[h,Bool.and_true]at hfr;simpa using hfr
  obtain⟨q18,k1,k2,_⟩:=toVs_fz g'.blk (d:=18) hk hv' (fun v hv=>hd.2 v hv)
  obtain⟨q19,k3,k4,_⟩:=toVs_fz g'.blk (d:=19) hk hv' (fun v hv=>Nat.lt_succ_of_lt (hd.2 v hv))
  have hp:c'.p=p:=le.p
  rw[hp]at k2 k4
  rw[hh]at k1 k3
  by_cases hone:∃v,rs=[v]
  ·obtain⟨v,rfl⟩:=hone
   obtain⟨w,h2,rfl⟩:=mapO_single k3
   exact⟨_,_,w,h1,h2,[w],k4.flags hln id,rfl⟩
  ·have ht:tupled rs = .tup rs:=by
    unfold tupled;split
    ·exact(hone ⟨_,rfl⟩).elim
    ·rfl
   have hl:q18.length=rs.length:=by
    have:∀{l:List IV} {m:List IV},mapO (fz s'.2 (18+1)) l=some m→m.length=l.length:=by
     intro l
     induction l with
     |nil=>intro m h;simp[mapO]at h;subst h;rfl
     |cons a l ih=>
      intro m h
      simp only[mapO]at h
      obtain⟨b,_,h⟩:=bind_some'.1 h
      obtain⟨bs,h2,h⟩:=bind_some'.1 h
      simp at h;subst h
      simp[ih h2]
    exact this k1
   have ht':tupled q18 = .tup q18:=by
    unfold tupled;split
    ·rename_i v
     obtain⟨a,ha⟩:=List.length_eq_one_iff.1 hl.symm
     exact(hone ⟨a,ha⟩).elim
    ·rfl
   rw[ht]at h1
   exact⟨_,_,.tup q18,h1,fz_tup k1,q18,k2.flags hln id,ht'.symm⟩
theorem runF_ok (hcs:∀f ct,cs f=some ct→CtOk prog opn f ct) (hfns:∀f af,fns f=some af→prog f=some af.fn) {f:Nat} {af:AFn} (hf:prog f=some af.fn) {args res:List VTy} {fresh:Bool} (hd:(depOk args&&depOk res)=true)
 {n:Nat} {F:(rowTy (args.map (·.t))).den→Option (rowTy (res.map (·.t))).den} (hF:∀x r,F x=some r→runF cs opn (fun _ _=>iterL) fns n af args res fresh x=some r):CtOk prog opn f ⟨args,res,fresh,F⟩:=runG_ok hcs (inl_ok hcs hfns n) hf hd hF
end
end Go.Ideal
set_option linter.unusedVariables false
namespace Go.Ideal
def tabOf {α:Type} (l:List (Nat×α)) (f:Nat):Option α:=match l with
 |[]=>none
 |(g,c)::r=>if Nat.beq f g=true then some c else tabOf r f
def TabOk (prog:Nat→Option SFn) (opn:Nat→Bool):List (Nat×Ct)→Prop
 |[]=>True
 |(f,c)::r=>CtOk prog opn f c∧TabOk prog opn r
theorem tab_ok {prog:Nat→Option SFn} {opn:Nat→Bool}:∀{l:List (Nat×Ct)},TabOk prog opn l→∀f ct,tabOf l f=some ct→CtOk prog opn f ct
 |[],_,f,ct,h=>by simp[tabOf]at h
 |(g,c)::r,hl,f,ct,h=>by
  simp only[tabOf]at h
  split at h
  ·rename_i e;simp at h;subst h
   rw[Nat.eq_of_beq_eq_true e];exact hl.1
  ·exact tab_ok hl.2 f ct h
def FnsOk (prog:Nat→Option SFn):List (Nat×AFn)→Prop
 |[]=>True
 |(f,a)::r=>prog f=some a.fn∧FnsOk prog r
theorem fns_ok {prog:Nat→Option SFn}:∀{l:List (Nat×AFn)},FnsOk prog l→∀f af,tabOf l f=some af→prog f=some af.fn
 |[],_,f,af,h=>by simp[tabOf]at h
 |(g,c)::r,hl,f,af,h=>by
  simp only[tabOf]at h
  split at h
  ·rename_i e;simp at h;subst h
   rw[Nat.eq_of_beq_eq_true e];exact hl.1
  ·exact fns_ok hl.2 f af h
theorem evalCt {prog:Nat→Option SFn} {opn:Nat→Bool} {f:Nat} (n:Nat) (h:(match evCall prog opn n f [] []with|some (.bool true,_)=>true|_=>false)=true):
 CtOk prog opn f ⟨[],[⟨false,.bool⟩],true,fun _=>some true⟩:=by
 refine⟨by simp,fun p x ivs r hx hr=>?_⟩
 simp only[TVs]at hx;subst hx
 injection hr with hr;subst hr
 split at h
 ·rename_i hh e
  exact⟨.bool true,hh,.bool true,(callL_some prog opn).2 ⟨n,e⟩,fz_not rfl,[.bool true],⟨.bool true,[],rfl,(by simp only[TV];rw[if_neg (by simp)];exact rfl),rfl⟩,rfl⟩
 ·cases h
end Go.Ideal
set_option linter.unusedVariables false
set_option linter.unusedSimpArgs false
namespace Go.Ideal
section
variable (P:Program)
def fieldsP (f:TypeId→Option (List Ty)):List Field→Option (List Ty)
 |[]=>some []
 |fd::r=>(f fd.type).bind fun a=>(fieldsP f r).bind fun b=>some (a++b)
def cellsP:Nat→TypeId→Option (List Ty)
 |0,_=>none
 |m+1,t=>match P.underlying t with
  |some .bool=>some [.bool]
  |some (.int k)=>some [.int k]
  |some .string=>some [.str]
  |some (.slice e)=>(cellsP m e).bind fun l=>some [.lst (rowTy l)]
  |some (.struct fs)=>fieldsP (cellsP m) fs.toList
  |some (.array n e)=>(cellsP m e).bind fun l=>some [.arr n (rowTy l)]
  |_=>none
end
def Wf:(t:Ty)→t.den→Prop
 |.int k,n=>k.min≤n∧n≤k.max
 |.bool,_=>True
 |.str,s=>s.length≤maxLen
 |.unit,_=>True
 |.lst t,l=>l.length≤maxLen∧∀x∈l,Wf t x
 |.pair a b,x=>Wf a x.1∧Wf b x.2
 |.arr n t,l=>l.length=n∧∀x∈l,Wf t x
 |.ow _ t,x=>False
def CellsR (p:Bool) (ln:Bool):(l:List Ty)→DL l→List IV→Prop
 |[],_,cs=>cs=[]
 |t::r,x,cs=>∃u v,cs=u++v∧(TR p Zn [] ln t false x.1 u∧Wf t x.1)∧CellsR p ln r x.2 v
theorem CellsR.app {p ln:Bool}:∀{a b:List Ty} {x:DL a} {y:DL b} {u v:List IV},CellsR p ln a x u→CellsR p ln b y v→CellsR p ln (a++b) (DL.app x y) (u++v)
 |[],b,x,y,u,v,h,h'=>by simp only[CellsR]at h;subst h;exact h'
 |t::a,b,x,y,u,v,h,h'=>by
  simp only[CellsR]at h
  obtain⟨u1,u2,rfl,h1,h2⟩:=h
  exact⟨u1,u2++v,by simp,h1,CellsR.app h2 h'⟩
theorem CellsR.row {p ln:Bool}:∀{l:List Ty} {x:DL l} {u:List IV},CellsR p ln l x u→TR p Zn [] ln (rowTy l) false (pack x) u∧Wf (rowTy l) (pack x)
 |[],x,u,h=>by simp only[CellsR]at h;subst h;exact⟨rfl,trivial⟩
 |[t],x,u,h=>by
  simp only[CellsR]at h
  obtain⟨u1,u2,rfl,h1,rfl⟩:=h
  simpa [rowTy,pack]using h1
 |t::s::r,x,u,h=>by
  unfold CellsR at h
  obtain⟨u1,u2,rfl,h1,h2⟩:=h
  have ih:=CellsR.row h2
  exact⟨⟨u1,u2,rfl,h1.1,ih.1⟩,h1.2,ih.2⟩
theorem enc_fields {P:Program} {m:Nat} {p ln:Bool} (ih:∀(t:TypeId) (cs:List IV) (l:List Ty),Enc P m t cs→cellsP P m t=some l→∃x,CellsR p ln l x cs):
 ∀(fs:List Field) (cs:List IV) (l:List Ty),EncF (Enc P m) fs cs→fieldsP (cellsP P m) fs=some l→∃x,CellsR p ln l x cs
 |[],cs,l,h,e=>by simp only[EncF]at h;subst h;simp only[fieldsP,Option.some.injEq]at e;subst e;exact⟨(),rfl⟩
 |fd::r,cs,l,h,e=>by
  simp only[EncF]at h
  obtain⟨c1,c2,rfl,h1,h2⟩:=h
  simp only[fieldsP]at e
  obtain⟨a,e1,e⟩:=bind_some'.1 e
  obtain⟨b,e2,e⟩:=bind_some'.1 e
  simp only[Option.some.injEq]at e;subst e
  obtain⟨x,hx⟩:=ih _ _ _ h1 e1
  obtain⟨y,hy⟩:=enc_fields ih r c2 b h2 e2
  exact⟨_,hx.app hy⟩
theorem choose_list {α β:Type} {r:α→β→Prop}:∀{es:List β},(∀e∈es,∃a,r a e)→∃l,All2 r l es
 |[],_=>⟨[],trivial⟩
 |e::es,h=>by
  obtain⟨a,ha⟩:=h e (by simp)
  obtain⟨l,hl⟩:=choose_list (fun e he=>h e (by simp[he])) (es:=es)
  exact⟨a::l,ha,hl⟩
theorem All2.mem_l {α β:Type} {r:α→β→Prop}:∀{l:List α} {m:List β},All2 r l m→∀a∈l,∃b,r a b
 |a::l,b::m,h,x,hx=>by
  rcases List.mem_cons.1 hx with rfl|hx
  ·exact⟨b,h.1⟩
  ·exact All2.mem_l h.2 x hx
 |[],[],_,x,hx=>by simp at hx
 |[],_::_,h,_,_=>h.elim
 |_::_,[],h,_,_=>h.elim
theorem enc_cells {P:Program} {p ln:Bool}:∀(m:Nat) (t:TypeId) (cs:List IV) (l:List Ty),Enc P m t cs→cellsP P m t=some l→∃x,CellsR p ln l x cs
 |0,t,cs,l,h,e=>by simp[cellsP]at e
 |m+1,t,cs,l,h,e=>by
  have ih:=enc_cells (P:=P) (p:=p) (ln:=ln) m
  unfold Enc at h
  unfold cellsP at e
  cases hu:P.underlying t with
  |none=>simp[hu]at e
  |some d=>
   simp only[hu]at h e
   cases d<;>simp only at h e<;>try (cases e;done)
   case bool=>
    simp only[Option.some.injEq]at e;subst e
    obtain⟨b,rfl⟩:=h
    exact⟨(b,()),[.bool b],[],rfl,⟨rfl,trivial⟩,rfl⟩
   case int k=>
    simp only[Option.some.injEq]at e;subst e
    obtain⟨n,rfl,hw⟩:=h
    refine⟨(n,()),[.int k n],[],rfl,⟨rfl,?_⟩,rfl⟩
    simpa [Lit.wf,Wf]using hw
   case string=>
    simp only[Option.some.injEq]at e;subst e
    obtain⟨s,rfl,hs⟩:=h
    exact⟨(s,()),[.str s],[],rfl,⟨rfl,hs⟩,rfl⟩
   case slice el=>
    obtain⟨l',e1,e⟩:=bind_some'.1 e
    simp only[Option.some.injEq]at e;subst e
    rcases h with rfl|⟨es,rfl,hl,h⟩
    ·exact⟨([],()),[.nils],[],rfl,⟨⟨_,rfl,.inl ⟨rfl,.inl rfl⟩⟩,by simp[Wf]⟩,rfl⟩
    ·obtain⟨xs,hx⟩:=choose_list (r:=fun(x:(rowTy l').den) c=>TR p Zn [] ln (rowTy l') false x c∧Wf (rowTy l') x) (es:=es) (fun c hc=>by
      obtain⟨x,hx⟩:=ih el c l' (h c hc) e1
      exact⟨pack x,hx.row⟩)
     refine⟨(xs,()),[.ro false es],[],rfl,⟨⟨_,rfl,.inr (.inl ⟨false,es,rfl,by simp,hx.imp fun a b h=>h.1⟩)⟩,?_,fun x hm=>?_⟩,rfl⟩
     ·rw[←hx.len];exact hl
     ·obtain⟨c,_,h2⟩:=hx.mem_l x hm;exact h2
   case struct fs=>exact enc_fields ih fs.toList cs l h e
   case array n el=>
    obtain⟨l',e1,e⟩:=bind_some'.1 e
    simp only[Option.some.injEq]at e;subst e
    obtain⟨es,rfl,hl,h⟩:=h
    obtain⟨xs,hx⟩:=choose_list (r:=fun(x:(rowTy l').den) c=>TR p Zn [] ln (rowTy l') false x c∧Wf (rowTy l') x) (es:=es) (fun c hc=>by
     obtain⟨x,hx⟩:=ih el c l' (h c hc) e1
     exact⟨pack x,hx.row⟩)
    refine⟨(xs,()),es.flatten,[],by simp,⟨⟨es,rfl,hl,hx.imp fun a b h=>h.1⟩,?_,fun x hm=>?_⟩,rfl⟩
    ·rw[←hx.len];exact hl
    ·obtain⟨c,_,h2⟩:=hx.mem_l x hm;exact h2
def argsP (P:Program) (m:Nat):List TypeId→Option (List VTy)
 |[]=>some []
 |t::r=>(cellsP P m t).bind fun l=>(argsP P m r).bind fun vs=>some (⟨aggT P t,rowTy l⟩::vs)
def WfA:(vs:List VTy)→(rowTy (vs.map (·.t))).den→Prop
 |[],_=>True
 |v::vs,x=>Wf v.t (headD v.t (vs.map (·.t)) x)∧WfA vs (tailD v.t (vs.map (·.t)) x)
theorem enc_args {P:Program} {p:Bool} {m:Nat}:∀(ts:List TypeId) (ivs:List IV) (vs:List VTy),EncAll P m ts ivs→argsP P m ts=some vs→∃x,TVs p Zn [] true false vs x ivs∧WfA vs x
 |[],ivs,vs,h,e=>by simp only[argsP,Option.some.injEq]at e;subst e;exact⟨(),h,trivial⟩
 |t::ts,ivs,vs,h,e=>by
  simp only[argsP]at e
  obtain⟨l,e1,e⟩:=bind_some'.1 e
  obtain⟨vs',e2,e⟩:=bind_some'.1 e
  simp only[Option.some.injEq]at e;subst e
  simp only[EncAll]at h
  obtain⟨iv,r,rfl,h1,h2⟩:=h
  obtain⟨y,hy,hw⟩:=enc_args ts r vs' h2 e2
  obtain⟨cs,h3,h4⟩:=h1
  obtain⟨d,hd⟩:=enc_cells (p:=p) (ln:=true) m t cs l h3 e1
  have hrow:=hd.row
  refine⟨consD _ _ (pack d) y,?_,?_⟩
  ·refine⟨iv,r,rfl,?_,?_⟩
   ·rw[headD_consD]
    unfold TV
    rcases h4 with ⟨ha,rfl⟩|⟨ha,rfl⟩
    ·rw[if_pos ha];exact⟨cs,rfl,hrow.1⟩
    ·rw[if_neg (by simp[ha])];exact hrow.1
   ·rw[tailD_consD];exact hy
  ·simp only[WfA]
   rw[headD_consD,tailD_consD];exact⟨hrow.2,hw⟩
theorem fz_bool {h:Heap} {d:Nat} {iv:IV} {b:Bool} (e:fz h d iv=some (.bool b)):iv = .bool b:=by
 cases d with
 |zero=>
  unfold fz at e
  split at e
  ·cases e
  ·simpa using e
 |succ d=>
  unfold fz at e
  split at e
  ·rename_i ho
   cases iv<;>simp only[IV.own]at ho<;>try (cases ho;done)
   all_goals simp only at e
   ·obtain⟨_,_,e⟩:=bind_some'.1 e
    obtain⟨_,_,e⟩:=bind_some'.1 e
    obtain⟨_,_,e⟩:=bind_some'.1 e
    simp at e
   ·obtain⟨_,_,e⟩:=bind_some'.1 e
    split at e
    ·obtain⟨_,_,e⟩:=bind_some'.1 e
     simp at e
    ·cases e
   ·obtain⟨_,_,e⟩:=bind_some'.1 e
    simp at e
   ·obtain⟨_,_,e⟩:=bind_some'.1 e
    simp at e
   ·obtain⟨_,_,e⟩:=bind_some'.1 e
    simp at e
   ·obtain⟨_,_,e⟩:=bind_some'.1 e
    obtain⟨_,_,e⟩:=bind_some'.1 e
    simp at e
  ·simpa using e
theorem law_of {P:Program} {prog:Nat→Option SFn} {opn:Nat→Bool} {f m:Nat} {ct:Ct} {ts:List TypeId} (hc:CtOk prog opn f ct) (hres:ct.res=[⟨false,.bool⟩]) (hargs:argsP P m ts=some ct.args)
 (law:∀x,WfA ct.args x→∃r,ct.F x=some r∧∀p iv,TRes p (!ct.fresh) ct.res r iv→iv = .bool true):∀ivs,EncAll P m ts ivs→∃n h,evCall prog opn n f ivs []=some (.bool true,h):=by
 intro ivs hi
 obtain⟨x,h1,h2⟩:=enc_args (p:=true) ts ivs ct.args hi hargs
 obtain⟨r,h3,h4⟩:=law x h2
 obtain⟨iv,h',iv',h5,h6,h7⟩:=hc.ok true x ivs r h1 h3
 have:=h4 _ _ h7
 subst this
 have:=fz_bool h6
 subst this
 obtain⟨n,hn⟩:=(callL_some prog opn).1 h5
 exact⟨n,h',hn⟩
theorem bool_res {p ln:Bool} {r:Bool} {iv:IV} (h:TRes p ln [⟨false,.bool⟩] r iv) (hr:r=true):iv = .bool true:=by
 obtain⟨ivs,h,rfl⟩:=h
 obtain⟨iv,rr,rfl,h1,rfl⟩:=h
 unfold TV at h1
 rw[if_neg (by simp)]at h1
 simp only[TR,headD,List.cons.injEq,and_true]at h1
 subst hr;exact h1
end Go.Ideal
set_option linter.unusedVariables false
namespace Go.Ideal
section
variable {S X A E:Type}
theorem iterL_inl {f:S→Option (S⊕X)} {s s':S} (h:f s=some (.inl s')):iterL f s=iterL f s':=by rw[iterL_eq,h];rfl
theorem iterL_inr {f:S→Option (S⊕X)} {s:S} {x:X} (h:f s=some (.inr x)):iterL f s=some x:=by rw[iterL_eq,h];rfl
def runL (step:A→Nat→E→Option (A⊕X)) (fin:A→Option X):Nat→A→List E→Option X
 |_,a,[]=>fin a
 |i,a,e::r=>(step a i e).bind fun y=>match y with
  |.inl a'=>runL step fin (i+1) a' r
  |.inr x=>some x
theorem iter_run_from {l:List E} {f:S→Option (S⊕X)} {mk:A→Int→S} {step:A→Nat→E→Option (A⊕X)} {fin:A→Option X} (inv:Nat→A→Prop)
 (h1:∀a i e,l[i]? = some e→inv i a→f (mk a i)=(step a i e).map fun y=>match y with | .inl a'=>.inl (mk a' ((i+1:Nat):Int)) | .inr x=>.inr x)
 (hi:∀a i e a',l[i]? = some e→inv i a→step a i e=some (.inl a')→inv (i+1) a') (h2:∀a,inv l.length a→f (mk a l.length)=(fin a).map .inr):
 ∀(r:List E) (i:Nat) (a:A),l=l.take i++r→i+r.length=l.length→inv i a→iterL f (mk a i)=runL step fin i a r
 |[],i,a,hl,hn,hv=>by
  simp only[List.length_nil,Nat.add_zero]at hn
  subst hn
  rw[iterL_eq,h2 a hv]
  simp only[runL]
  cases fin a<;>rfl
 |e::r,i,a,hl,hn,hv=>by
  have he:l[i]? = some e:=by
   have hlen:(l.take i).length=i:=by simp only[List.length_take,List.length_cons]at hn ⊢;omega
   rw[hl,List.getElem?_append_right (by omega),hlen];simp
  rw[iterL_eq,h1 a i e he hv]
  simp only[runL]
  cases hs:step a i e with
  |none=>rfl
  |some y=>
   cases y with
   |inl a'=>
    simp only[Option.map_some,Option.bind_some]
    refine iter_run_from inv h1 hi h2 r (i+1) a' ?_ (by simp only[List.length_cons]at hn;omega) (hi a i e a' he hv hs)
    have hlt:i<l.length:=by simp only[List.length_cons]at hn;omega
    have hg:l[i]=e:=by rw[List.getElem?_eq_getElem hlt]at he;injection he
    conv=>lhs;rw[hl]
    rw[List.take_add_one,he];simp
   |inr x=>rfl
theorem iter_run {l:List E} {f:S→Option (S⊕X)} {mk:A→Int→S} {step:A→Nat→E→Option (A⊕X)} {fin:A→Option X} (inv:Nat→A→Prop)
 (h1:∀a i e,l[i]? = some e→inv i a→f (mk a i)=(step a i e).map fun y=>match y with | .inl a'=>.inl (mk a' ((i+1:Nat):Int)) | .inr x=>.inr x)
 (hi:∀a i e a',l[i]? = some e→inv i a→step a i e=some (.inl a')→inv (i+1) a') (h2:∀a,inv l.length a→f (mk a l.length)=(fin a).map .inr) {a:A} (h0:inv 0 a):
 iterL f (mk a 0)=runL step fin 0 a l:=by
 have:=iter_run_from inv h1 hi h2 l 0 a (by simp) (by simp) h0
 simpa using this
def stepS (g:A→E→A):A→Nat→E→Option (A⊕X):=fun a _ e=>some (.inl (g a e))
theorem runL_fold {g:A→E→A} {fin:A→Option X}:∀{l:List E} {i:Nat} {a:A},runL (stepS g) fin i a l=fin (l.foldl g a)
 |[],_,_=>rfl
 |e::l,i,a=>by simp only[runL,stepS,Option.bind_some,List.foldl_cons];exact runL_fold
end
theorem wsucc {i:Nat} (h:i<2^62):IntKind.i64.wrap ((i:Int)+1)=((i+1:Nat):Int):=by
 rw[Go.IntWalk.i64_in _ (by omega)];rfl
theorem getE_bound {α:Type} {l:List α} {i:Nat} {e:α} (h:l[i]? = some e):i<l.length:=(List.getElem?_eq_some_iff.1 h).1
theorem cond_ite {α:Type} (p:Prop) [Decidable p] (a b:α):(bif decide p then a else b)=if p then a else b:=by by_cases h:p<;>simp[h]
end Go.Ideal
set_option linter.unusedVariables false
set_option linter.unusedSimpArgs false
set_option linter.unusedSectionVars false
namespace Go.Ideal
def resB:Nat:=2000000
structure OC where
 n:Nat
 inn:Shp
 out:Shp
 cls:List (Nat×Nat)
 nres:Nat
 F:(rowTy inn.hs).den→Option (rowTy out.hs).den
def isRoot:SK→Bool
 |.root _=>true
 |.groot _=>true
 |_=>false
def rootsOf (sh:Shp):List Nat:=(sh.filter (isRoot ·.2)).map (·.1)
def posL:List Nat→Nat→Option Nat
 |[],_=>none
 |a::r,t=>if Nat.beq a t then some 0 else (posL r t).map (· + 1)
theorem posL_ok:∀{l:List Nat} {t j:Nat},posL l t=some j→l[j]? = some t
 |[],t,j,h=>by cases h
 |a::r,t,j,h=>by
  simp only[posL]at h
  split at h
  ·rename_i e;injection h with h;subst h
   simp[Nat.eq_of_beq_eq_true e]
  ·obtain⟨i,h1,rfl⟩:=Option.map_eq_some_iff.1 h
   simpa using posL_ok h1
def baseI (inn:Shp) (t:Nat):Option ASV:=(posL (rootsOf inn) t).map fun j=>.val (.ptr j (.st 0))
theorem baseI_ok {inn:Shp} {t B:Nat} {o:Off} (h:baseI inn t=some (.val (.ptr B o))):o = .st 0∧(rootsOf inn)[B]? = some t:=by
 obtain⟨j,h1,h2⟩:=Option.map_eq_some_iff.1 h
 injection h2 with h2;injection h2 with h2 h3
 subst h2
 exact⟨h3.symm,posL_ok h1⟩
def kindOk:SK→Bool
 |.val _ _ _=>true
 |.own _=>true
 |.ow _ _=>true
 |.agw _=>true
 |.root _=>true
 |.groot _=>true
 |_=>false
def Ty.rts:Ty→List Nat
 |.pair a b=>a.rts++b.rts
 |.ow (.root i) _=>[i]
 |.ow _ t=>t.rts
 |_=>[]
theorem TF_rt {p:Bool} {Z:Nat→Prop} {h:Heap} {rt rt':Nat→Option Nat}:∀{t:Ty} {x:t.den} {c:List IV} {L:Lo},(∀i∈t.rts,rt' i=rt i)→TF p Z h rt t x c L→TF p Z h rt' t x c L
 |.pair a b,x,c,L,hr,e=>by
  simp only[TF]at e ⊢
  obtain⟨u,v,M,N,rfl,rfl,h1,h2⟩:=e
  exact⟨u,v,M,N,rfl,rfl,TF_rt (fun i hi=>hr i (by simp[Ty.rts,hi])) h1,TF_rt (fun i hi=>hr i (by simp[Ty.rts,hi])) h2⟩
 |.ow .own t,x,c,L,hr,e=>by
  simp only[TF]at e ⊢
  obtain⟨iv,mb,f,rfl,rfl,h1,h2⟩:=e
  refine⟨iv,mb,f,rfl,rfl,h1,?_⟩
  cases mb with
  |none=>exact h2
  |some b=>
   obtain⟨es,Ms,h3,h4,rfl⟩:=h2
   exact⟨es,Ms,h3,h4.imp fun a e M hM g=>TF_rt (fun i hi=>hr i (by simp[Ty.rts,hi])) g,rfl⟩
 |.ow .obj t,x,c,L,hr,e=>by
  simp only[TF]at e ⊢
  obtain⟨b,e,M,rfl,h1,h2,rfl⟩:=e
  exact⟨b,e,M,rfl,h1,TF_rt (fun i hi=>hr i (by simp[Ty.rts,hi])) h2,rfl⟩
 |.ow .opt t,x,c,L,hr,e=>by
  simp only[TF]at e ⊢
  rcases e with e|⟨v,b,e,M,rfl,rfl,h1,h2,rfl⟩
  ·exact .inl e
  ·exact .inr ⟨v,b,e,M,rfl,rfl,h1,TF_rt (fun i hi=>hr i (by simp[Ty.rts,hi])) h2,rfl⟩
 |.ow (.root i) t,x,c,L,hr,e=>by
  simp only[TF]at e ⊢
  rw[hr i (by simp[Ty.rts])];exact e
 |.int k,x,c,L,hr,e=>by simpa only[TF]using e
 |.bool,x,c,L,hr,e=>by simpa only[TF]using e
 |.str,x,c,L,hr,e=>by simpa only[TF]using e
 |.unit,x,c,L,hr,e=>by simpa only[TF]using e
 |.lst t,x,c,L,hr,e=>by simpa only[TF]using e
 |.arr n t,x,c,L,hr,e=>by simpa only[TF]using e
def SK.rts:SK→List Nat
 |.ow k t=>(Ty.ow k t).rts
 |.agw t=>t.rts
 |.root t=>t.rts
 |.groot t=>t.rts
 |_=>[]
def Shp.rts (sh:Shp):List Nat:=sh.flatMap (·.2.rts)
theorem SF_rt {p:Bool} {Z:Nat→Prop} {h:Heap} {rt rt':Nat→Option Nat} {σ:Fr} {base:Nat→Option ASV} {fk:ASV→Option SV→Prop}:∀{sh:Shp} {x:DL sh.hs} {L:Lo} {O:Oo},(∀i∈sh.rts,rt' i=rt i)→sh.all (kindOk ·.2)=true→SF p Z h rt σ base fk sh x L O→SF p Z h rt' σ base fk sh x L O
 |[],x,L,O,_,_,f=>f
 |(t,k)::r,x,L,O,hr,hk,f=>by
  obtain⟨L1,L2,O1,O2,rfl,rfl,f1,f2⟩:=f
  simp only[List.all_cons,Bool.and_eq_true]at hk
  refine⟨L1,L2,O1,O2,rfl,rfl,?_,SF_rt (fun i hi=>hr i (by simp only[Shp.rts,List.flatMap_cons,List.mem_append];exact .inr hi)) hk.2 f2⟩
  have hr:∀i∈k.rts,rt' i=rt i:=fun i hi=>hr i (by simp only[Shp.rts,List.flatMap_cons,List.mem_append];exact .inl hi)
  cases k with
  |keep=>cases hk.1
  |val=>exact f1
  |own=>exact f1
  |box=>cases hk.1
  |obj=>cases hk.1
  |agw u=>obtain⟨cs,h1,h2,h3⟩:=f1;exact⟨cs,h1,TF_rt hr h2,h3⟩
  |ow k u=>obtain⟨iv,h1,h2,h3⟩:=f1;exact⟨iv,h1,TF_rt hr h2,h3⟩
  |root u=>obtain⟨B,b,e,h1,h2,h3,h4,h5⟩:=f1;exact⟨B,b,e,h1,h2,h3,TF_rt hr h4,h5⟩
  |groot u=>obtain⟨B,b,e,h1,h2,h4,h5⟩:=f1;exact⟨B,b,e,h1,h2,TF_rt hr h4,h5⟩
theorem SF_mono {p:Bool} {Z:Nat→Prop} {h:Heap} {rt rt':Nat→Option Nat} {σ:Fr} {base:Nat→Option ASV} {fk:ASV→Option SV→Prop} (hr:∀i b,rt i=some b→rt' i=some b):∀{sh:Shp} {x:DL sh.hs} {L:Lo} {O:Oo},sh.all (kindOk ·.2)=true→SF p Z h rt σ base fk sh x L O→SF p Z h rt' σ base fk sh x L O
 |[],x,L,O,_,f=>f
 |(t,k)::r,x,L,O,hk,f=>by
  obtain⟨L1,L2,O1,O2,rfl,rfl,f1,f2⟩:=f
  simp only[List.all_cons,Bool.and_eq_true]at hk
  refine⟨L1,L2,O1,O2,rfl,rfl,?_,SF_mono hr hk.2 f2⟩
  have hz:ZLe Z Z h h:=⟨fun _ h=>h,fun _ _=>rfl⟩
  cases k with
  |keep=>cases hk.1
  |val=>exact f1
  |own=>exact f1
  |box=>cases hk.1
  |obj=>cases hk.1
  |agw u=>obtain⟨cs,h1,h2,h3⟩:=f1;exact⟨cs,h1,TF.mono hz hr h2 fun _ _=>rfl,h3⟩
  |ow k u=>obtain⟨iv,h1,h2,h3⟩:=f1;exact⟨iv,h1,TF.mono hz hr h2 fun _ _=>rfl,h3⟩
  |root u=>obtain⟨B,b,e,h1,h2,h3,h4,h5⟩:=f1;exact⟨B,b,e,h1,h2,h3,TF.mono hz hr h4 fun _ _=>rfl,h5⟩
  |groot u=>obtain⟨B,b,e,h1,h2,h4,h5⟩:=f1;exact⟨B,b,e,h1,h2,TF.mono hz hr h4 fun _ _=>rfl,h5⟩
def Corr (base base':Nat→Option ASV) (q q':Nat×Nat):Prop:=q'.2=q.2∧∃t,base t=some (.val (.ptr q.1 (.st 0)))∧base' t=some (.val (.ptr q'.1 (.st 0)))
theorem SF_reb {p:Bool} {Z:Nat→Prop} {h:Heap} {rt:Nat→Option Nat} {σ:Fr} {base base':Nat→Option ASV} {fk fk':ASV→Option SV→Prop}:∀{sh:Shp} {x:DL sh.hs} {L:Lo} {O:Oo},sh.all (kindOk ·.2)=true→(∀t∈rootsOf sh,∃B',base' t=some (.val (.ptr B' (.st 0))))→SF p Z h rt σ base fk sh x L O→
 ∃O',SF p Z h rt σ base' fk' sh x L O'∧All2 (Corr base base') O O'
 |[],x,L,O,_,_,f=>by obtain⟨rfl,rfl⟩:=f;exact⟨[],⟨rfl,rfl⟩,trivial⟩
 |(t,k)::r,x,L,O,hk,hb,f=>by
  obtain⟨L1,L2,O1,O2,rfl,rfl,f1,f2⟩:=f
  simp only[List.all_cons,Bool.and_eq_true]at hk
  have hb2:∀t'∈rootsOf r,∃B',base' t'=some (.val (.ptr B' (.st 0))):=fun t' ht=>hb t' (by
   unfold rootsOf at ht ⊢
   rw[List.filter_cons]
   split
   ·simp only[List.map_cons,List.mem_cons];exact .inr ht
   ·exact ht)
  have hb1:isRoot k=true→∃B',base' t=some (.val (.ptr B' (.st 0))):=fun h=>hb t (by
   unfold rootsOf
   rw[List.filter_cons,if_pos h];simp)
  obtain⟨O2',g2,g3⟩:=SF_reb (fk':=fk') hk.2 hb2 f2
  have fin:∀O1',KF p Z h rt σ base' fk' t k x.fst L1 O1'→All2 (Corr base base') O1 O1'→∃O',SF p Z h rt σ base' fk' ((t,k)::r) x (L1++L2) O'∧All2 (Corr base base') (O1++O2) O':=
   fun O1' g g'=>⟨O1'++O2',⟨L1,L2,O1',O2',rfl,rfl,g,g2⟩,g'.app g3⟩
  cases k with
  |keep=>cases hk.1
  |val=>obtain⟨h1,h2,rfl⟩:=f1;exact fin [] ⟨h1,h2,rfl⟩ trivial
  |own=>obtain⟨iv,mb,h1,h2,h3,rfl⟩:=f1;exact fin [] ⟨iv,mb,h1,h2,h3,rfl⟩ trivial
  |box=>cases hk.1
  |obj=>cases hk.1
  |agw u=>obtain⟨cs,h1,h2,rfl⟩:=f1;exact fin [] ⟨cs,h1,h2,rfl⟩ trivial
  |ow k u=>obtain⟨iv,h1,h2,rfl⟩:=f1;exact fin [] ⟨iv,h1,h2,rfl⟩ trivial
  |root u=>
   obtain⟨B,b,e,h1,h2,h3,h4,rfl⟩:=f1
   obtain⟨B',hB'⟩:=hb1 rfl
   exact fin [(B',b)] ⟨B',b,e,hB',h2,h3,h4,rfl⟩ ⟨⟨rfl,t,h1,hB'⟩,trivial⟩
  |groot u=>
   obtain⟨B,b,e,h1,h2,h4,rfl⟩:=f1
   obtain⟨B',hB'⟩:=hb1 rfl
   exact fin [(B',b)] ⟨B',b,e,hB',h2,h4,rfl⟩ ⟨⟨rfl,t,h1,hB'⟩,trivial⟩
structure Sep (Z:Nat→Prop) (h:Heap) (L:Lo) (O:Oo):Prop where
 own:∀b∈foot L,¬Z b∧b<h.length
 ownN:(foot L).Nodup
 obj:∀q∈O,¬Z q.2∧q.2∉foot L∧q.2<h.length
 objN:(O.map Prod.fst).Nodup
 objI:∀q∈O,∀q'∈O,q.2=q'.2→q.1=q'.1
 zb:∀b,Z b→b<h.length
structure RtI (rt:Nat→Option Nat) (base:Nat→Option ASV) (cls:List (Nat×Nat)) (O:Oo):Prop where
 at_:∀q∈cls,∃B b,base q.2=some (.val (.ptr B (.st 0)))∧(B,b)∈O∧rt q.1=some b
 only:∀i b,rt i=some b→∃t,(i,t)∈cls
def fkN:ASV→Option SV→Prop:=fun _ _=>False
def OCtOk (prog:Nat→Option SFn) (opn:Nat→Bool) (f:Nat) (oc:OC):Prop:=
 ∀(p:Bool) (Z:Nat→Prop) (h:Heap) (rt:Nat→Option Nat) (ivs:List IV) (x:DL oc.inn.hs) (L:Lo) (O:Oo),ivs.length=oc.n→SF p Z h rt (initFr 0 ivs) (baseI oc.inn) fkN oc.inn x L O→Sep Z h L O→RtI rt (baseI oc.inn) oc.cls O→
  ∀y,oc.F (pack x)=some y→∃(rs:List IV) (h':Heap) (Z':Nat→Prop) (L':Lo) (O':Oo) (σ':Fr),callL prog opn f ivs h=some (tupled rs,h')∧rs.length=oc.nres∧
   SF p Z' h' rt σ' (baseI oc.inn) fkN oc.out (unpack y) L' O'∧(∀j r,rs[j]? = some r→σ'.get (resB+j)=some (.val r))∧(∀q∈O',q∈O)∧
   UF h.length (fun b=>b∈foot L∨∃q∈O,q.2=b) Z h Z' h' L' O'∧ZLe Z Z' h h'
end Go.Ideal
set_option linter.unusedVariables false
set_option linter.unusedSimpArgs false
set_option linter.unusedSectionVars false
namespace Go.Ideal
section
variable {R:Type}
def unfB (B:Nat) (H:AHp) (k:AHp→Option R):Option R:=match H[B]? with
 |some (.fold true t x)=>x.bind fun v=>let y:=invT (roOf H) t v H;k (y.2.set B (.obj true y.1))
 |_=>k H
def unfBs:List Nat→AHp→(AHp→Option R)→Option R
 |[],H,k=>k H
 |B::r,H,k=>unfB B H fun H=>unfBs r H k
def baseA (H:AHp) (args:List AV) (t:Nat):Option ASV:=if ghost≤t then ghostOf H t else (args[t]?).map .val
def ptrsOf (base:Nat→Option ASV) (l:List Nat):Option (List Nat):=mapO (fun t=>match base t with
 |some (.val (.ptr B (.st 0)))=>some B
 |_=>none) l
def nameRt (args:List AV):List (Nat×Nat)→AHp→Option AHp
 |[],H=>some H
 |(i,t)::r,H=>match baseA H args t with
  |some (.val (.ptr B (.st 0)))=>(match roOf H i,H[B]? with
   |some B',_=>if B'=B then nameRt args r H else none
   |none,some (.obj true _)=>nameRt args r (H++[.rt i B])
   |_,_=>none)
  |_=>none
def OC.ok (oc:OC):Bool:=oc.inn.all (kindOk ·.2)&&oc.out.all (kindOk ·.2)&&(oc.inn.rts++oc.out.rts).all (fun i=>(oc.cls.map (·.1)).contains i)&&nodupB (objsOf (baseI oc.inn) oc.inn)&&(rootsOf oc.out).all (fun t=>(rootsOf oc.inn).contains t)&&oc.cls.all (fun q=>(rootsOf oc.inn).contains q.2)
def Ty.noZ:Ty→Bool
 |.pair a b=>a.noZ&&b.noZ
 |.ow (.root _) _=>true
 |.ow _ t=>t.noZ
 |.lst _=>false
 |.arr _ t=>t.flat
 |_=>true
def SK.noZ:SK→Bool
 |.val hp _ v=>!hp||v.t.flat
 |.own u=>u.flat
 |.ow k t=>(Ty.ow k t).noZ
 |.agw t=>t.noZ
 |.root t=>t.noZ
 |.groot t=>t.noZ
 |_=>false
def OC.bor (oc:OC):Bool:=oc.out.all (·.2.noZ)
def OC.use (oc:OC) (u:Use):Use:=bif oc.bor then ⟨u.own,[],u.obj⟩ else u
def resOf (fr:AFr) (n:Nat):Option (List AV):=mapO (fun j=>match fr.get (resB+j) with
 |some (.val a)=>some a
 |_=>none) (List.range n)
def ocall (oc:OC) (args:List AV) (H:AHp) (k:AV→AHp→Option R):Option R:=
 if oc.ok&&decide (args.length=oc.n) then
  (ptrsOf (baseA H args) (rootsOf oc.inn)).bind fun Bs=>
  unfBs Bs H fun H=>
  (nameRt args oc.cls H).bind fun H=>
  (ptrsOf (baseA H args) (rootsOf oc.inn)).bind fun _=>
  (abs [] (fun _=>none) (baseA H args) true ⟨ainit 0 args,H⟩ oc.inn).bind fun x=>
  (oc.F x.1).bind fun y=>
  (inv (baseA H args) oc.out y (goneIf ((oc.use x.2).own++(oc.use x.2).frz++(oc.use x.2).obj) false 0 H)).bind fun st=>
  (resOf st.fr oc.nres).bind fun as=>k (atupled as) st.H
 else none
end
theorem unfBs_ok {Rr:Type} {R:Run}:∀{Bs:List Nat} {c:Cf} {k:AHp→Option Rr} {r:Rr},GH R c→unfBs Bs c.H k=some r→∃c',GH R c'∧Le c c'∧c'.h=c.h∧k c'.H=some r
 |[],c,k,r,g,e=>⟨c,g,Le.refl c,rfl,e⟩
 |B::Bs,c,k,r,g,e=>by
  simp only[unfBs,unfB]at e
  split at e
  ·rename_i t x hB
   obtain⟨v,hx,e2⟩:=bind_some'.1 e
   subst hx
   obtain⟨c1,h1,h2,g1,le1⟩:=unfold_ok g hB
   rw[←h1]at e2
   obtain⟨c2,g2,le2,h3,h4⟩:=unfBs_ok g1 e2
   exact⟨c2,g2,le1.trans le2,h3.trans h2,h4⟩
  ·exact unfBs_ok g e
theorem roOf_some {H:AHp} {i j B:Nat} (h:H[j]? = some (.rt i B)):roOf H i≠none:=by
 unfold roOf
 intro e
 rw[List.findSome?_eq_none_iff]at e
 have:=e _ (List.mem_of_getElem? h)
 simp at this
theorem roOf_app {H:AHp} {x:ABlk} {i B:Nat} (h:roOf H i=some B):roOf (H++[x]) i=some B:=by
 unfold roOf at h ⊢
 rw[List.findSome?_append,h];rfl
theorem GH.pushRt {R:Run} {c:Cf} (g:GH R c) {i B b:Nat} {cs:List AV} (hB:c.H[B]? = some (.obj true cs)) (hm:c.m B=some b) (hro:roOf c.H i=none):
 ∃c',c'.H=c.H++[.rt i B]∧c'.h=c.h∧GH R c'∧Le c c':=by
 have hrt:c.rt i=none:=by
  cases h:c.rt i with
  |none=>rfl
  |some b'=>obtain⟨j,B',h'⟩:=g.rtd i b' h;exact(roOf_some h' hro).elim
 have hBl:=getE_lt hB
 refine⟨{ c with H:=c.H++[.rt i B],m:=upd c.m c.H.length none,f:=updf c.f c.H.length [],rt:=fun j=>if j=i then some b else c.rt j },rfl,rfl,g.gen' rfl rfl (fun j b' h=>?_) (fun j b' h=>?_) (Nat.le_refl _) (fun _=>False) (fun _ h=>h.elim) (fun b hb _=>rfl) (fun B' x hB'=>?_) (fun le B' y hB'=>?_)⟩
 ·by_cases hj:j=i
  ·subst hj;rw[hrt]at h;cases h
  ·simp only[if_neg hj];exact h
 ·by_cases hj:j=i
  ·subst hj;exact⟨c.H.length,B,getE_len⟩
  ·simp only[if_neg hj]at h
   obtain⟨k,B',h'⟩:=g.rtd j b' h
   exact⟨k,B',getE_app_lt h'⟩
 ·have:=getE_lt hB'
  exact le_same (getE_app_lt hB') (by simp[upd];omega)
 ·rcases getE_app hB' with h|⟨rfl,rfl⟩
  ·have:=getE_lt h
   exact .inr (.inl ⟨h,by simp[upd];omega,by simp[updf];omega,fun _ _ h=>h⟩)
  ·refine .inr (.inr (.inr ⟨?_,by simp[Cf.ft,upd,updf]⟩))
   simp only[BR,upd,updf,if_true,true_and]
   rw[if_neg (by omega)]
   exact⟨hm.symm,by simp,_,getE_app_lt hB,trivial⟩
theorem nameRt_ok {R:Run} {args:List AV}:∀{cls:List (Nat×Nat)} {c:Cf} {H':AHp},GH R c→nameRt args cls c.H=some H'→∃c',c'.H=H'∧GH R c'∧Le c c'∧c'.h=c.h∧∀q∈cls,∃B,baseA H' args q.2=some (.val (.ptr B (.st 0)))∧roOf H' q.1=some B
 |[],c,H',g,e=>by simp[nameRt]at e;exact⟨c,e,g,Le.refl c,rfl,by simp⟩
 |(i,t)::r,c,H',g,e=>by
  simp only[nameRt]at e
  split at e
  ·rename_i B hb
   have stay:∀{H0:AHp} {B:Nat},nameRt args r H0=some H'→roOf H0 i=some B→baseA H0 args t=some (.val (.ptr B (.st 0)))→roOf H' i=some B∧baseA H' args t=some (.val (.ptr B (.st 0))):=by
    intro H0 B h1 h2 h3
    have:∀{r:List (Nat×Nat)} {H0:AHp},nameRt args r H0=some H'→(∀i B,roOf H0 i=some B→roOf H' i=some B):=by
     intro r
     induction r with
     |nil=>intro H0 h;simp[nameRt]at h;subst h;exact fun _ _ h=>h
     |cons q r ih=>
      intro H0 h
      obtain⟨i',t'⟩:=q
      simp only[nameRt]at h
      split at h
      ·split at h
       ·split at h
        ·exact ih h
        ·cases h
       ·exact fun i B hi=>ih h i B (roOf_app hi)
       ·cases h
      ·cases h
    have key:=this h1
    refine⟨key i B h2,?_⟩
    unfold baseA ghostOf at h3 ⊢
    split at h3
    ·rename_i hg
     obtain⟨B0,hro,h4⟩:=Option.map_eq_some_iff.1 h3
     rw[if_pos hg,if_pos hg,key _ _ hro,Option.map_some,h4]
    ·rename_i hg;rw[if_neg hg];exact h3
   split at e
   ·rename_i B' hro
    split at e
    ·rename_i hBB;subst hBB
     obtain⟨c',h1,h2,h3,h4,h5⟩:=nameRt_ok g e
     obtain⟨k1,k2⟩:=stay e hro hb
     refine⟨c',h1,h2,h3,h4,fun q hq=>?_⟩
     rcases List.mem_cons.1 hq with rfl|hq
     ·exact⟨_,k2,k1⟩
     ·exact h5 q hq
    ·cases e
   ·rename_i cs hro hB
    have br:=g.blk B _ hB
    simp only[BR]at br
    obtain⟨_,b,hm,_⟩:=br
    obtain⟨c1,h1,h2,g1,le1⟩:=g.pushRt hB hm hro
    rw[←h1]at e
    obtain⟨c',h3,h4,h5,h6,h7⟩:=nameRt_ok g1 e
    refine⟨c',h3,h4,le1.trans h5,h6.trans h2,fun q hq=>?_⟩
    rcases List.mem_cons.1 hq with rfl|hq
    ·have hr1:roOf c1.H i=some B:=by
      rw[h1];unfold roOf at hro ⊢;rw[List.findSome?_append,hro];simp
     have hb1:baseA c1.H args t=some (.val (.ptr B (.st 0))):=by
      rw[h1]
      unfold baseA ghostOf at hb ⊢
      split at hb
      ·rename_i hg
       obtain⟨B0,hro2,h4⟩:=Option.map_eq_some_iff.1 hb
       rw[if_pos hg,if_pos hg,roOf_app hro2,Option.map_some,h4]
      ·rename_i hg;rw[if_neg hg];exact hb
     obtain⟨k1,k2⟩:=stay e hr1 hb1
     exact⟨_,k2,k1⟩
    ·exact h7 q hq
   ·cases e
  ·cases e
theorem ainit_cst:∀{as:List AV} {i t k:Nat},(ainit i as).get t≠some (.cst k)
 |[],i,t,k=>by simp[ainit,AFr.get]
 |a::as,i,t,k=>by
  simp only[ainit,AFr.get]
  split
  ·simp
  ·exact ainit_cst
theorem ainit_get:∀{as:List AV} {i t:Nat},(ainit i as).get (i+t)=(as[t]?).map .val
 |[],i,t=>by simp[ainit,AFr.get]
 |a::as,i,0=>by simp[ainit,AFr.get]
 |a::as,i,t+1=>by
  simp only[ainit,AFr.get]
  rw[if_neg (by omega),show i+(t+1)=(i+1)+t by omega,ainit_get];simp
theorem ptrsOf_ok {base:Nat→Option ASV}:∀{l Bs:List Nat},ptrsOf base l=some Bs→∀t∈l,∃B,base t=some (.val (.ptr B (.st 0)))
 |[],_,_,t,h=>by simp at h
 |a::l,Bs,e,t,h=>by
  simp only[ptrsOf,mapO]at e
  obtain⟨B,e1,e⟩:=bind_some'.1 e
  obtain⟨Bs',e2,e⟩:=bind_some'.1 e
  rcases List.mem_cons.1 h with rfl|h
  ·split at e1
   ·rename_i B' hb;exact⟨B',hb⟩
   ·cases e1
  ·exact ptrsOf_ok (show ptrsOf base l=some Bs' from e2) t h
theorem all2_corr {base base':Nat→Option ASV}:∀{O O':Oo},All2 (Corr base base') O O'→∀q'∈O',∃q∈O,Corr base base' q q'
 |[],[],_,q',h=>by simp at h
 |a::O,b::O',h,q',hq=>by
  rcases List.mem_cons.1 hq with rfl|hq
  ·exact⟨a,by simp,h.1⟩
  ·obtain⟨q,h1,h2⟩:=all2_corr h.2 q' hq;exact⟨q,by simp[h1],h2⟩
 |[],_::_,h,_,_=>h.elim
 |_::_,[],h,_,_=>h.elim
theorem all2_corr_l {base base':Nat→Option ASV}:∀{O O':Oo},All2 (Corr base base') O O'→∀q∈O,∃q'∈O',Corr base base' q q'
 |[],[],_,q',h=>by simp at h
 |a::O,b::O',h,q',hq=>by
  rcases List.mem_cons.1 hq with rfl|hq
  ·exact⟨b,by simp,h.1⟩
  ·obtain⟨q,h1,h2⟩:=all2_corr_l h.2 q' hq;exact⟨q,by simp[h1],h2⟩
 |[],_::_,h,_,_=>h.elim
 |_::_,[],h,_,_=>h.elim
theorem resOf_ok {fr:AFr} {σ:Fr} {TI:List SV} {c:Cf} {rs:List IV} (hf:∀j r,rs[j]? = some r→FR TI c (fr.get (resB+j)) (σ.get (resB+j))∨fr.get (resB+j)=none) (hr:∀j r,rs[j]? = some r→σ.get (resB+j)=some (.val r)) {as:List AV}
 (e:resOf fr rs.length=some as):Vas c as rs:=by
 have key:∀(l:List Nat) (rs':List IV) (as:List AV),rs'.length=l.length→(∀(k j:Nat) r,l[k]? = some j→rs'[k]? = some r→(FR TI c (fr.get (resB+j)) (σ.get (resB+j))∨fr.get (resB+j)=none)∧σ.get (resB+j)=some (.val r))→mapO (fun j=>match fr.get (resB+j) with
  |some (.val a)=>some a
  |_=>none) l=some as→Vas c as rs':=by
  intro l
  induction l with
  |nil=>intro rs' as hl _ e;cases rs'<;>simp at hl;simp[mapO]at e;subst e;rfl
  |cons j l ih=>
   intro rs' as hl h e
   cases rs' with
   |nil=>simp at hl
   |cons r rs'=>
    simp only[mapO]at e
    obtain⟨a,e1,e⟩:=bind_some'.1 e
    obtain⟨as',e2,e⟩:=bind_some'.1 e
    simp only[Option.some.injEq]at e;subst e
    refine⟨r,rs',rfl,?_,ih rs' as' (by simpa using hl) (fun k j' r' h1 h2=>h (k+1) j' r' (by simpa using h1) (by simpa using h2)) e2⟩
    obtain⟨h1,h2⟩:=h 0 j r rfl rfl
    split at e1
    ·rename_i a' ha
     injection e1 with e1;subst e1
     rw[ha,h2]at h1
     rcases h1 with ⟨sv,q1,q2⟩|h1
     ·injection q1 with q1;subst q1
      exact q2
     ·cases h1
    ·cases e1
 refine key (List.range rs.length) rs as (by simp) (fun k j r h1 h2=>?_) e
 have hk:=getE_lt h1
 rw[List.getElem?_eq_getElem hk,List.getElem_range]at h1
 injection h1 with h1;subst h1
 exact⟨hf k r h2,hr k r h2⟩
theorem posL_some:∀{l:List Nat} {t:Nat},t∈l→∃j,posL l t=some j
 |a::r,t,h=>by
  simp only[posL]
  by_cases e:a=t
  ·subst e;exact⟨0,by simp⟩
  ·rcases List.mem_cons.1 h with h|h
   ·exact(e h.symm).elim
   ·obtain⟨j,hj⟩:=posL_some h
    exact⟨j+1,by rw[if_neg (by simpa [Nat.beq_eq]using e),hj];rfl⟩
theorem SF_root {p:Bool} {Z:Nat→Prop} {h:Heap} {rt:Nat→Option Nat} {σ:Fr} {base:Nat→Option ASV} {fk:ASV→Option SV→Prop}:∀{sh:Shp} {x:DL sh.hs} {L:Lo} {O:Oo},SF p Z h rt σ base fk sh x L O→∀t∈rootsOf sh,∃B b,base t=some (.val (.ptr B (.st 0)))∧(B,b)∈O
 |[],x,L,O,f=>by intro t h;simp[rootsOf]at h
 |(t0,k)::r,x,L,O,f=>by
  obtain⟨L1,L2,O1,O2,rfl,rfl,f1,f2⟩:=f
  intro t h
  have hr:t∈rootsOf r→∃B b,base t=some (.val (.ptr B (.st 0)))∧(B,b)∈O1++O2:=fun h=>by
   obtain⟨B,b,h1,h2⟩:=SF_root f2 t h
   exact⟨B,b,h1,by simp[h2]⟩
  unfold rootsOf at h
  rw[List.filter_cons]at h
  split at h
  ·rename_i hk
   rw[List.map_cons,List.mem_cons]at h
   rcases h with rfl|h
   ·cases k<;>simp only[isRoot]at hk<;>try (cases hk;done)
    ·obtain⟨B,b,e,h1,_,_,_,rfl⟩:=f1;exact⟨B,b,h1,by simp⟩
    ·obtain⟨B,b,e,h1,_,_,rfl⟩:=f1;exact⟨B,b,h1,by simp⟩
   ·exact hr h
  ·exact hr h
theorem nodup_snd {O:Oo} (h1:(O.map Prod.fst).Nodup) (h2:∀q∈O,∀q'∈O,q.2=q'.2→q.1=q'.1):(O.map Prod.snd).Nodup:=by
 induction O with
 |nil=>simp
 |cons a O ih=>
  simp only[List.map_cons,List.nodup_cons]at h1 ⊢
  refine⟨fun h=>?_,ih h1.2 fun q hq q' hq'=>h2 q (by simp[hq]) q' (by simp[hq'])⟩
  obtain⟨q,hq,e⟩:=List.mem_map.1 h
  exact h1.1 (List.mem_map.2 ⟨q,hq,h2 q (by simp[hq]) a (by simp) e⟩)
theorem snd_eq:∀{O:Oo},(O.map Prod.snd).Nodup→∀q∈O,∀q'∈O,q.2=q'.2→q=q'
 |a::O,hn,q,hq,q',hq',e=>by
  simp only[List.map_cons,List.nodup_cons]at hn
  rcases List.mem_cons.1 hq with h1|h1
  ·rcases List.mem_cons.1 hq' with h2|h2
   ·rw[h1,h2]
   ·exact(hn.1 (by rw[←h1,e];exact List.mem_map.2 ⟨q',h2,rfl⟩)).elim
  ·rcases List.mem_cons.1 hq' with h2|h2
   ·exact(hn.1 (by rw[←h2,←e];exact List.mem_map.2 ⟨q,h1,rfl⟩)).elim
   ·exact snd_eq hn.2 q h1 q' h2 e
 |[],_,q,hq,_,_,_=>by simp at hq
theorem corr_snd {base base':Nat→Option ASV}:∀{O O':Oo},All2 (Corr base base') O O'→O'.map Prod.snd=O.map Prod.snd
 |[],[],_=>rfl
 |a::O,b::O',h=>by simp[h.1.1,corr_snd h.2]
 |[],_::_,h=>h.elim
 |_::_,[],h=>h.elim
theorem nodup_fst {O O':Oo} (h1:(O'.map Prod.snd).Nodup) (h2:∀q∈O',q∈O) (h3:(O.map Prod.fst).Nodup):(O'.map Prod.fst).Nodup:=by
 have inj:∀{O:Oo},(O.map Prod.fst).Nodup→∀q∈O,∀q'∈O,q.1=q'.1→q=q':=by
  intro O
  induction O with
  |nil=>intro _ q hq;simp at hq
  |cons a O ih=>
   intro hn q hq q' hq' e
   simp only[List.map_cons,List.nodup_cons]at hn
   rcases List.mem_cons.1 hq with h1|h1
   ·rcases List.mem_cons.1 hq' with h2|h2
    ·rw[h1,h2]
    ·exact(hn.1 (by rw[←h1,e];exact List.mem_map.2 ⟨q',h2,rfl⟩)).elim
   ·rcases List.mem_cons.1 hq' with h2|h2
    ·exact(hn.1 (by rw[←h2,←e];exact List.mem_map.2 ⟨q,h1,rfl⟩)).elim
    ·exact ih hn.2 q h1 q' h2 e
 induction O' with
 |nil=>simp
 |cons a O' ih=>
  simp only[List.map_cons,List.nodup_cons]at h1 ⊢
  refine⟨fun h=>?_,ih h1.2 fun q hq=>h2 q (by simp[hq])⟩
  obtain⟨q,hq,e⟩:=List.mem_map.1 h
  have:=inj h3 q (h2 q (by simp[hq])) a (h2 a (by simp)) e
  subst this
  exact h1.1 (List.mem_map.2 ⟨q,hq,rfl⟩)
theorem TR_nohp {p ln:Bool} {Z Z':Nat→Prop} {h h':Heap}:∀{t:Ty} {x:t.den} {c:List IV},TR p Z h ln t false x c→TR p Z' h' ln t false x c
 |.int k,x,c,e=>by simpa only[TR]using e
 |.bool,x,c,e=>by simpa only[TR]using e
 |.str,x,c,e=>by simpa only[TR]using e
 |.unit,x,c,e=>by simpa only[TR]using e
 |.lst t,l,c,e=>by
  simp only[TR]at e ⊢
  obtain⟨iv,rfl,h1|⟨bo,es,rfl,h2,h3⟩|⟨h1,_⟩⟩:=e
  ·exact⟨iv,rfl,.inl h1⟩
  ·exact⟨_,rfl,.inr (.inl ⟨bo,es,rfl,h2,h3.imp fun a b h=>TR_nohp h⟩)⟩
  ·cases h1
 |.pair a b,x,c,e=>by
  simp only[TR]at e ⊢
  obtain⟨u,v,rfl,h1,h2⟩:=e
  exact⟨u,v,rfl,TR_nohp h1,TR_nohp h2⟩
 |.arr n t,l,c,e=>by
  simp only[TR]at e ⊢
  obtain⟨es,rfl,h1,h2⟩:=e
  exact⟨es,rfl,h1,h2.imp fun a b h=>TR_nohp h⟩
 |.ow _ t,x,c,e=>by simp[TR]at e
theorem TR_flatZ {p ln hp:Bool} {Z Z':Nat→Prop} {h h':Heap} {t:Ty} (ht:t.flat=true) {x:t.den} {c:List IV} (e:TR p Z h ln t hp x c):TR p Z' h' ln t hp x c:=
 TR.flat ht (TR_nohp (TR.flat (hp':=false) (ln':=ln) ht e))
theorem TF_noZ {p:Bool} {Z Z':Nat→Prop} {h:Heap} {rt:Nat→Option Nat}:∀{t:Ty} (ht:t.noZ=true) {x:t.den} {c:List IV} {L:Lo},TF p Z h rt t x c L→TF p Z' h rt t x c L
 |.pair a b,ht,x,c,L,e=>by
  simp only[Ty.noZ,Bool.and_eq_true]at ht
  simp only[TF]at e ⊢
  obtain⟨u,v,M,N,rfl,rfl,h1,h2⟩:=e
  exact⟨u,v,M,N,rfl,rfl,TF_noZ ht.1 h1,TF_noZ ht.2 h2⟩
 |.ow .own t,ht,x,c,L,e=>by
  simp only[TF]at e ⊢
  obtain⟨iv,mb,f,rfl,rfl,h1,h2⟩:=e
  refine⟨iv,mb,f,rfl,rfl,h1,?_⟩
  cases mb with
  |none=>exact h2
  |some b=>
   obtain⟨es,Ms,h3,h4,rfl⟩:=h2
   exact⟨es,Ms,h3,h4.imp fun a e M hM g=>TF_noZ (t:=t) ht g,rfl⟩
 |.ow .obj t,ht,x,c,L,e=>by
  simp only[TF]at e ⊢
  obtain⟨b,e,M,rfl,h1,h2,rfl⟩:=e
  exact⟨b,e,M,rfl,h1,TF_noZ (t:=t) ht h2,rfl⟩
 |.ow .opt t,ht,x,c,L,e=>by
  simp only[TF]at e ⊢
  rcases e with e|⟨v,b,e,M,rfl,rfl,h1,h2,rfl⟩
  ·exact .inl e
  ·exact .inr ⟨v,b,e,M,rfl,rfl,h1,TF_noZ (t:=t) ht h2,rfl⟩
 |.ow (.root i) t,ht,x,c,L,e=>by simpa only[TF]using e
 |.int k,ht,x,c,L,e=>by simp only[TF]at e ⊢;exact⟨TR_flatZ rfl e.1,e.2⟩
 |.bool,ht,x,c,L,e=>by simp only[TF]at e ⊢;exact⟨TR_flatZ rfl e.1,e.2⟩
 |.str,ht,x,c,L,e=>by simp only[TF]at e ⊢;exact⟨TR_flatZ rfl e.1,e.2⟩
 |.unit,ht,x,c,L,e=>by simp only[TF]at e ⊢;exact⟨TR_flatZ rfl e.1,e.2⟩
 |.lst t,ht,x,c,L,e=>by cases ht
 |.arr n t,ht,x,c,L,e=>by simp only[TF]at e ⊢;exact⟨TR_flatZ (t:=.arr n t) ht e.1,e.2⟩
theorem SF_noZ {p:Bool} {Z Z':Nat→Prop} {h:Heap} {rt:Nat→Option Nat} {σ:Fr} {base:Nat→Option ASV} {fk:ASV→Option SV→Prop}:∀{sh:Shp} {x:DL sh.hs} {L:Lo} {O:Oo},sh.all (·.2.noZ)=true→SF p Z h rt σ base fk sh x L O→SF p Z' h rt σ base fk sh x L O
 |[],x,L,O,_,f=>f
 |(t,k)::r,x,L,O,hk,f=>by
  obtain⟨L1,L2,O1,O2,rfl,rfl,f1,f2⟩:=f
  simp only[List.all_cons,Bool.and_eq_true]at hk
  refine⟨L1,L2,O1,O2,rfl,rfl,?_,SF_noZ hk.2 f2⟩
  have hk:=hk.1
  cases k with
  |keep=>cases hk
  |val hp ln v=>
   obtain⟨⟨iv,h1,h2⟩,h3,h4⟩:=f1
   refine⟨⟨iv,h1,?_⟩,h3,h4⟩
   have hz:∀{c:List IV},TR p Z h ln v.t hp x.fst.1 c→TR p Z' h ln v.t hp x.fst.1 c:=fun {c} e=>by
    simp only[SK.noZ,Bool.or_eq_true,Bool.not_eq_true']at hk
    rcases hk with rfl|hk
    ·exact TR_nohp e
    ·exact TR_flatZ hk e
   unfold TV at h2 ⊢
   split
   ·rename_i ha;rw[if_pos ha]at h2;obtain⟨cs,q1,q2⟩:=h2;exact⟨cs,q1,hz q2⟩
   ·rename_i ha;rw[if_neg ha]at h2;exact hz h2
  |own u=>
   obtain⟨iv,mb,h1,⟨h2,h2'⟩,h3,h4⟩:=f1
   refine⟨iv,mb,h1,⟨h2,?_⟩,h3,h4⟩
   cases mb with
   |none=>exact h2'
   |some b=>obtain⟨es,q1,q2⟩:=h2';exact⟨es,q1,q2.imp fun a b h=>TR_flatZ hk h⟩
  |box=>cases hk
  |obj=>cases hk
  |agw u=>obtain⟨cs,h1,h2,h3⟩:=f1;exact⟨cs,h1,TF_noZ hk h2,h3⟩
  |ow k u=>obtain⟨iv,h1,h2,h3⟩:=f1;exact⟨iv,h1,TF_noZ hk h2,h3⟩
  |root u=>obtain⟨B,b,e,h1,h2,h3,h4,h5⟩:=f1;exact⟨B,b,e,h1,h2,h3,TF_noZ hk h4,h5⟩
  |groot u=>obtain⟨B,b,e,h1,h2,h4,h5⟩:=f1;exact⟨B,b,e,h1,h2,TF_noZ hk h4,h5⟩
theorem ocall_ok {prog:Nat→Option SFn} {opn:Nat→Bool} {f:Nat} {oc:OC} (hoc:OCtOk prog opn f oc) {Rr:Type} {args:List AV} {k:AV→AHp→Option Rr} {r:Rr} {R:Run} {c:Cf} {ivs:List IV} (g:GH R c) (hv:Vas c args ivs)
 (e:ocall oc args c.H k=some r):∃iv h',callL prog opn f ivs c.h=some (iv,h')∧∃v c',GH R c'∧c'.h=h'∧Le c c'∧Va c' v iv∧k v c'.H=some r:=by
 unfold ocall at e
 split at e
 ·rename_i hok
  simp only[Bool.and_eq_true,decide_eq_true_eq,OC.ok]at hok
  obtain⟨⟨⟨⟨⟨⟨k1,k2⟩,k3⟩,k4⟩,k5⟩,k6⟩,hn⟩:=hok
  obtain⟨Bs,_,e⟩:=bind_some'.1 e
  obtain⟨c1,g1,le1,hh1,e⟩:=unfBs_ok g e
  obtain⟨H2,e2,e⟩:=bind_some'.1 e
  obtain⟨c2,rfl,g2,le2,hh2,hcls⟩:=nameRt_ok g1 e2
  obtain⟨Bs',e1,e⟩:=bind_some'.1 e
  obtain⟨x,e3,e⟩:=bind_some'.1 e
  obtain⟨y,e4,e⟩:=bind_some'.1 e
  obtain⟨st,e5,e⟩:=bind_some'.1 e
  obtain⟨as,e6,e⟩:=bind_some'.1 e
  have hv2:=(hv.le le1).le le2
  have hle:=le1.trans le2
  obtain⟨d,a1,a2,ok,hbx⟩:=abs_eq e3
  obtain⟨L,O,sf,hu⟩:=absS_ok (T:=[]) (TI:=[]) (s:=(initFr 0 ivs,c2.h)) (fk:=fkN) (Z:=Z3of c2 x.2) g2.blk (fun b hb=>.inl hb) rfl ⟨ainit_ok hv2,rfl,by simp,by simp⟩ (fun t _ ⟨i,h,_⟩=>(ainit_cst h).elim) (.inl rfl) a1 (fun B hB b hm=>.inr ⟨B,hB,hm⟩)
  obtain⟨sb,uf⟩:=enter g2 hu ok _ rfl
  generalize hR1:({ p:=R.p,N:=c2.h.length,O0:=fun b=>∃B x0,c2.H[B]? = some x0∧B∈x.2.own++x.2.frz++x.2.obj∧x0.wr=true∧b∈c2.ft B,h0:=c2.h,Z0:=Z3of c2 x.2 }:Run)=R1 at *
  have hN:R1.N=c2.h.length:=by rw[←hR1]
  have hZ0:R1.Z0=Z3of c2 x.2:=by rw[←hR1]
  have hh0:R1.h0=c2.h:=by rw[←hR1]
  obtain⟨OI,sfI,hc⟩:=SF_reb (base':=baseI oc.inn) (fk':=fkN) k1 (fun t ht=>by obtain⟨j,hj⟩:=posL_some ht;exact⟨j,by simp[baseI,hj]⟩) sf
  have ptrA:=ptrsOf_ok e1
  have inj:∀{t t' j:Nat},baseI oc.inn t=some (.val (.ptr j (.st 0)))→baseI oc.inn t'=some (.val (.ptr j (.st 0)))→t=t':=fun h h'=>by
   have h1:=(baseI_ok h).2
   rw[(baseI_ok h').2]at h1;injection h1 with h1;exact h1.symm
  have back:∀{t j b:Nat},baseI oc.inn t=some (.val (.ptr j (.st 0)))→(j,b)∈OI→∃B,baseA c2.H args t=some (.val (.ptr B (.st 0)))∧(B,b)∈O:=fun {t j b} h1 h2=>by
   obtain⟨⟨B,b'⟩,h3,h4,t',h5,h6⟩:=all2_corr hc _ h2
   simp only at h4 h5 h6
   subst h4
   have:=inj h1 h6
   subst this
   exact⟨B,h5,h3⟩
  let rt0:Nat→Option Nat:=fun i=>if (oc.cls.map (·.1)).contains i then c2.rt i else none
  have hrt0:∀i b,rt0 i=some b→c2.rt i=some b:=fun i b h=>by
   simp only[rt0]at h
   split at h
   ·exact h
   ·cases h
  have hrtc:∀i,i∈oc.inn.rts++oc.out.rts→rt0 i=c2.rt i:=fun i hi=>by
   simp only[rt0];rw[if_pos (List.all_eq_true.1 k3 i hi)]
  have sfI':=SF_rt (rt':=rt0) (fun i hi=>hrtc i (by simp[hi])) k1 sfI
  have osnd:=nodup_snd uf.objN uf.objI
  have oisnd:(OI.map Prod.snd).Nodup:=by rw[corr_snd hc];exact osnd
  have sep:Sep (Z3of c2 x.2) c2.h L OI:=by
   refine⟨fun b hb=>(uf.own b hb).2,uf.ownN,fun q hq=>?_,by rw[SF_objs sfI];exact nodupB_iff.1 k4,fun q hq q' hq' e=>by rw[snd_eq oisnd q hq q' hq' e],fun b hb=>(uf.zb b hb).1⟩
   obtain⟨q0,h1,h2,_⟩:=all2_corr hc q hq
   rw[h2];exact(uf.obj q0 h1).2
  have rti:RtI rt0 (baseI oc.inn) oc.cls OI:=by
   refine⟨fun q hq=>?_,fun i b h=>?_⟩
   ·obtain⟨B,h1,h2⟩:=hcls q hq
    have hr:q.2∈rootsOf oc.inn:=by simpa using List.all_eq_true.1 k6 q hq
    obtain⟨j,b,h3,h4⟩:=SF_root sfI q.2 hr
    obtain⟨B',h5,h6⟩:=back h3 h4
    rw[h1]at h5;injection h5 with h5;injection h5 with h5;injection h5 with h5;subst h5
    refine⟨j,b,h3,h4,?_⟩
    have:rt0 q.1=c2.rt q.1:=by
     simp only[rt0];rw[if_pos (by simp;exact⟨q.2,hq⟩)]
    rw[this,(g2.ro' h2).1]
    exact(hu.o _ h6).1
   ·simp only[rt0]at h
    split at h
    ·rename_i hc;simp at hc;exact hc
    ·cases h
  have hlen:ivs.length=oc.n:=by rw[hv.len];exact hn
  obtain⟨rs,h',Z',L',O',σ',q1,q2,q3,q4,q5,q6,q7⟩:=hoc c2.p (Z3of c2 x.2) c2.h rt0 ivs d L OI hlen sfI' sep rti y (by rw[←a2];exact e4)
  obtain⟨OA,sfA,hcA⟩:=SF_reb (base':=baseA c2.H args) (fk':=fkN) k2 (fun t ht=>ptrA t (by simpa using List.all_eq_true.1 k5 t ht)) (SF_mono hrt0 k2 q3)
  have sub:∀q∈OA,q∈O:=fun q hq=>by
   obtain⟨⟨j,b⟩,h1,h2,t,h3,h4⟩:=all2_corr hcA q hq
   simp only at h2 h3
   obtain⟨B,h5,h6⟩:=back h3 (q5 _ h1)
   rw[h4]at h5;injection h5 with h5;injection h5 with h5;injection h5 with h5
   have:q=(B,b):=by rw[←h5,←h2]
   rw[this];exact h6
  have asnd:(OA.map Prod.snd).Nodup:=by rw[corr_snd hcA];exact nodup_snd q6.objN q6.objI
  have hu2:UOk c2 (oc.use x.2) L O:=by
   unfold OC.use
   cases oc.bor with
   |true=>exact hu.frz
   |false=>exact hu
  have ok2:(oc.use x.2).ok c2.H=true:=by
   unfold OC.use
   cases oc.bor with
   |true=>
    simp only[cond_true]
    simp only[Use.ok,Bool.and_eq_true]at ok ⊢
    exact⟨⟨ok.1.1,by simp⟩,ok.2⟩
   |false=>exact ok
  obtain⟨sb2,uf2⟩:=enter g2 hu2 ok2 _ rfl
  generalize hR2:({ p:=R.p,N:=c2.h.length,O0:=fun b=>∃B x0,c2.H[B]? = some x0∧B∈(oc.use x.2).own++(oc.use x.2).frz++(oc.use x.2).obj∧x0.wr=true∧b∈c2.ft B,h0:=c2.h,Z0:=Z3of c2 (oc.use x.2) }:Run)=R2 at *
  have hN2:R2.N=c2.h.length:=by rw[←hR2]
  have hZ2:R2.Z0=Z3of c2 (oc.use x.2):=by rw[←hR2]
  have hh2':R2.h0=c2.h:=by rw[←hR2]
  have oO0:∀b,(b∈foot L∨∃q∈OI,q.2=b)→R2.O0 b:=fun b hb=>by
   rcases hb with hb|⟨q,hq,rfl⟩
   ·have:=uf2.own b hb
    rcases this.1 with h|h
    ·exact h
    ·rw[hN2]at h;omega
   ·obtain⟨q0,h1,h2,_⟩:=all2_corr hc q hq
    have:=uf2.obj q0 h1
    rw[h2]
    rcases this.1 with h|h
    ·exact h
    ·rw[hN2]at h;omega
  have conv:∀b,((b∈foot L∨∃q∈OI,q.2=b)∨c2.h.length≤b)→R2.O0 b∨R2.N≤b:=fun b h=>h.imp (oO0 b) (fun h=>by rw[hN2];exact h)
  obtain⟨Zn,n1,n2,n3,sfN⟩:∃Zn:Nat→Prop,(∀b,Zn b→Z' b)∧(∀b,Z3of c2 (oc.use x.2) b→Zn b)∧(∀b,Zn b→Z3of c2 (oc.use x.2) b∨(b∈foot L∨∃q∈OI,q.2=b)∨c2.h.length≤b)∧SF c2.p Zn h' c2.rt σ' (baseA c2.H args) fkN oc.out (unpack y) L' OA:=by
   have hzz:∀b,c2.Z b→Z' b:=fun b hb=>q7.z b (.inl hb)
   cases hb:oc.bor with
   |true=>
    have hu:oc.use x.2=⟨x.2.own,[],x.2.obj⟩:=by unfold OC.use;rw[hb];rfl
    refine⟨Z3of c2 (oc.use x.2),fun b h=>?_,fun b h=>h,fun b h=>.inl h,SF_noZ hb sfA⟩
    rw[hu]at h
    rcases h with h|⟨B,hB,_⟩
    ·exact hzz b h
    ·cases hB
   |false=>
    have hu:oc.use x.2=x.2:=by unfold OC.use;rw[hb];rfl
    rw[hu]
    exact⟨Z',fun b h=>h,fun b h=>q7.z b h,fun b h=>(q6.zb b h).2,sfA⟩
  have uf':R2.uf Zn h' L' OA:=by
   refine⟨fun b hb=>⟨conv b (q6.own b hb).1,fun h=>(q6.own b hb).2.1 (n1 b h),(q6.own b hb).2.2⟩,q6.ownN,fun q hq=>?_,nodup_fst asnd sub uf.objN,fun q hq q' hq' e=>by rw[snd_eq asnd q hq q' hq' e],⟨by rw[hN2];exact q6.base.1,fun b hb ho=>by rw[hh2'];exact q6.base.2 b (by rw[←hN2];exact hb) fun h=>ho (oO0 b h)⟩,fun b hb=>⟨(q6.zb b (n1 b hb)).1,?_⟩,fun b hb=>n2 b (by rw[←hZ2];exact hb)⟩
   ·obtain⟨q0,h1,h2,_⟩:=all2_corr hcA q hq
    rw[h2];exact⟨conv _ (q6.obj q0 h1).1,fun h=>(q6.obj q0 h1).2.1 (n1 _ h),(q6.obj q0 h1).2.2⟩
   ·rcases n3 b hb with h|h
    ·exact .inl (by rw[hZ2];exact h)
    ·exact .inr (conv b h)
  have rsh:=leave g2 sb2 uf' (rt3:=c2.rt) ⟨fun b hb=>n2 b (.inl hb),fun b hb=>q7.h b (.inl hb)⟩ (fun _ _ h=>h) g2.rtd (fun q hq=>(hu.o q (sub q hq)).1) (fun q hq=>by obtain⟨_,_,cs,h⟩:=hu.o q (sub q hq);exact⟨_,h,rfl⟩)
  obtain⟨c3,hc3,g3,le3,hfr⟩:=reshape rsh sfN e5
  have hH:c3.H=st.H:=by rw[hc3]
  have hh:c3.h=h':=by rw[hc3]
  refine⟨tupled rs,h',by rw[←hh1,←hh2];exact q1,atupled as,c3,g3,hh,hle.trans le3,?_,by rw[hH];exact e⟩
  rw[←q2]at e6
  refine tupled_va (resOf_ok (TI:=[]) (c:=c3) (fun j r hj=>?_) q4 e6)
  rcases hfr [] (fun a v h=>h.elim) (resB+j)with h|h
  ·exact .inl h
  ·exact .inr h.1
 ·cases e
end Go.Ideal
set_option linter.unusedVariables false
set_option linter.unusedSimpArgs false
set_option linter.unusedSectionVars false
namespace Go.Ideal
def clsOf (oc:OC) (i:Nat):Option Nat:=(oc.cls.find? (·.1==i)).map (·.2)
def roI (oc:OC) (i:Nat):Option Nat:=(clsOf oc i).bind (posL (rootsOf oc.inn))
def rtsI (oc:OC):AHp:=oc.cls.filterMap fun q=>(posL (rootsOf oc.inn) q.2).map (.rt q.1 ·)
def rootFr (oc:OC):AFr:=oc.inn.filterMap fun q=>match q.2 with
 |.root _=>(baseI oc.inn q.1).map (q.1,·)
 |_=>none
def resFr:Nat→List AV→AFr
 |_,[]=>[]
 |j,a::r=>(resB+j,.val a)::resFr (j+1) r
def initO (oc:OC) (x:(rowTy oc.inn.hs).den):Option ASt:=(invS (roI oc) (baseI oc.inn) oc.inn (unpack x) (List.replicate (rootsOf oc.inn).length .gone)).bind fun st=>some ⟨st.fr,st.H++rtsI oc⟩
section
variable (cs:Nat→Option Ct) (opn:Nat→Bool) (lp:∀S X:Type,(S→Option (S⊕X))→S→Option X)
noncomputable def runO (icall:∀R:Type,Nat→List AV→AHp→(AV→AHp→Option R)→Option R) (af:AFn) (oc:OC) (x:(rowTy oc.inn.hs).den):Option (rowTy oc.out.hs).den:=
 if oc.ok&&decide (oc.n≤af.np) then
  (initO oc x).bind fun st0=>aC cs opn (etyOf af.ety) icall lp af.code [] st0 fun ex st=>match ex with
    |.exit _=>none
    |_=>resA st af.res fun as=>if decide (as.length=oc.nres)&&rtOk st0.H st.H then (abs [] (fun _=>none) (baseI oc.inn) true ⟨resFr 0 as++rootFr oc,st.H⟩ oc.out).bind fun z=>some z.1 else none
 else none
noncomputable def inlO (os:Nat→Option OC) (fns:Nat→Option AFn):Nat→∀R:Type,Nat→List AV→AHp→(AV→AHp→Option R)→Option R
 |0,R,f,args,H,k=>(os f).bind fun oc=>ocall oc args H k
 |n+1,R,f,args,H,k=>match os f with
  |some oc=>ocall oc args H k
  |none=>(fns f).bind fun af=>aBody cs opn lp (inlO os fns n) af args H fun as st=>k (atupled as) st.H
end
theorem initFr_val {ivs:List IV} {i t:Nat} {sv:SV} (h:(initFr i ivs).get t=some sv):∃iv,sv = .val iv:=by
 induction ivs generalizing i with
 |nil=>simp[initFr,Fr.get]at h
 |cons a l ih=>
  simp only[initFr,Fr.get]at h
  split at h
  ·injection h with h;exact⟨a,h.symm⟩
  ·exact ih h
theorem lookO {O:Oo} (hn:(O.map Prod.fst).Nodup) {q:Nat×Nat} (hq:q∈O):(O.find? (·.1==q.1)).map (·.2)=some q.2:=by
 induction O with
 |nil=>simp at hq
 |cons a O ih=>
  simp only[List.map_cons,List.nodup_cons]at hn
  rw[List.find?_cons]
  rcases List.mem_cons.1 hq with rfl|hq
  ·simp
  ·have:(a.1==q.1)=false:=by
    simp only[beq_eq_false_iff_ne]
    intro e
    exact hn.1 (by rw[e];exact List.mem_map.2 ⟨q,hq,rfl⟩)
   rw[this];exact ih hn.2 hq
theorem clsOf_mem {oc:OC} {i t:Nat} (h:clsOf oc i=some t):(i,t)∈oc.cls:=by
 obtain⟨q,h1,rfl⟩:=Option.map_eq_some_iff.1 h
 have h2:=List.mem_of_find?_eq_some h1
 have h3:=List.find?_some h1
 simp only[beq_iff_eq]at h3
 rw[←h3];exact h2
theorem rtsI_get {oc:OC} {j:Nat} {z:ABlk} (h:(rtsI oc)[j]? = some z):∃i t B,z = .rt i B∧(i,t)∈oc.cls∧posL (rootsOf oc.inn) t=some B:=by
 have h1:=List.mem_of_getElem? h
 obtain⟨q,h2,h3⟩:=List.mem_filterMap.1 h1
 obtain⟨B,h4,h5⟩:=Option.map_eq_some_iff.1 h3
 exact⟨q.1,q.2,B,h5.symm,h2,h4⟩
theorem init_ok {oc:OC} {p:Bool} {Z:Nat→Prop} {h:Heap} {rt:Nat→Option Nat} {ivs:List IV} {x:DL oc.inn.hs} {L:Lo} {O:Oo} (sf:SF p Z h rt (initFr 0 ivs) (baseI oc.inn) fkN oc.inn x L O) (sep:Sep Z h L O) (rti:RtI rt (baseI oc.inn) oc.cls O)
 {st:ASt} (e:invS (roI oc) (baseI oc.inn) oc.inn x (List.replicate (rootsOf oc.inn).length .gone)=some st) {R1:Run} (hR:R1=⟨p,h.length,fun b=>b∈foot L∨∃q∈O,q.2=b,h,Z⟩):
 ∃c1,c1.H=st.H++rtsI oc∧c1.h=h∧c1.p=p∧c1.Z=Z∧c1.rt=rt∧GH R1 c1∧(∀t,FR [] c1 (st.fr.get t) ((initFr 0 ivs).get t))∧∀q∈O,c1.m q.1=some q.2:=by
 generalize hk:(rootsOf oc.inn).length=k at e
 have Ok:∀q∈O,q.1<k:=fun q hq=>by
  obtain⟨t,ht⟩:=SF_base sf q hq
  have:=getE_lt (baseI_ok ht).2
  omega
 obtain⟨⟨r1,r2,r3,r4⟩,r5⟩:=invS_ok sf e (fun q hq=>by simpa using Ok q hq) sep.objN
 simp only[List.length_replicate]at r1 r2 r3 r4 r5
 let m1:Nat→Option Nat:=fun i=>if i<k then (O.find? (·.1==i)).map (·.2) else ((L[i-k]?).map (·.1)).getD none
 let f1:Nat→List Nat:=fun i=>if i<k then [] else ((L[i-k]?).map (·.2)).getD []
 let c1:Cf:={ p:=p,H:=st.H++rtsI oc,m:=m1,Z:=Z,h:=h,f:=f1,rt:=rt }
 have hmO:∀q∈O,c1.m q.1=some q.2:=fun q hq=>by
  show m1 q.1=_
  simp only[m1];rw[if_pos (Ok q hq)];exact lookO sep.objN hq
 have hfO:∀i,i<k→c1.f i=[]:=fun i hi=>by show f1 i=_;simp only[f1];rw[if_pos hi]
 have mnew:∀j z,L[j]? = some z→c1.m (k+j)=z.1∧c1.f (k+j)=z.2:=fun j z hj=>by
  show m1 _=_∧f1 _=_
  simp only[m1,f1]
  rw[if_neg (by omega),if_neg (by omega),show k+j-k=j by omega,hj]
  exact⟨rfl,rfl⟩
 have mout:∀i,k+L.length≤i→c1.m i=none∧c1.f i=[]:=fun i hi=>by
  show m1 _=_∧f1 _=_
  simp only[m1,f1]
  rw[if_neg (by omega),if_neg (by omega),List.getElem?_eq_none (by omega)]
  exact⟨rfl,rfl⟩
 have ftO:∀q∈O,c1.ft q.1=[q.2]:=fun q hq=>by simp[Cf.ft,hmO q hq,hfO q.1 (Ok q hq)]
 have ftn:∀j z,L[j]? = some z→c1.ft (k+j)=z.1.toList++z.2:=fun j z hj=>by simp only[Cf.ft,(mnew j z hj).1,(mnew j z hj).2]
 have objAt:∀q∈O,∃cs,c1.H[q.1]? = some (.obj true cs):=fun q hq=>by
  obtain⟨cs,ee,w1,_⟩:=r4 q hq
  refine⟨cs,?_⟩
  show (st.H++rtsI oc)[q.1]? = _
  rw[List.getElem?_append_left (getE_lt w1)];exact w1
 have rtAt:∀{i t B:Nat},(i,t)∈oc.cls→posL (rootsOf oc.inn) t=some B→c1.rt i=c1.m B∧c1.rt i≠none∧∃cs,c1.H[B]? = some (.obj true cs):=fun {i t B} h1 h2=>by
  obtain⟨B',b,h3,h4,h5⟩:=rti.at_ _ h1
  simp only[baseI,h2,Option.map_some,Option.some.injEq,ASV.val.injEq,AV.ptr.injEq,and_true]at h3
  subst h3
  refine⟨by rw[hmO _ h4];exact h5,by show rt i≠none;rw[h5];simp,objAt _ h4⟩
 have at3:At3 p Z h rt (roI oc) c1 k st.H L:=by
  refine⟨rfl,rfl,rfl,rfl,fun i B hro=>?_,fun i hi hl=>List.getElem?_append_left hl,mnew⟩
  obtain⟨t,h1,h2⟩:=Option.bind_eq_some_iff.1 hro
  obtain⟨q1,q2,cs,q3⟩:=rtAt (clsOf_mem h1) h2
  exact⟨q1,q2,_,q3,trivial⟩
 have ent:∀(B:Nat) z,c1.H[B]? = some z→(∃b cs ee,(B,b)∈O∧z = .obj true cs∧h[b]? = some (some ⟨ee.length,[ee]⟩)∧Cas c1 cs ee)∨z = .gone∨(∃j w,B=k+j∧L[j]? = some w∧NewB p Z h rt (some z) w)∨
  (∃i t B',z = .rt i B'∧(i,t)∈oc.cls∧posL (rootsOf oc.inn) t=some B'∧c1.m B=none∧c1.f B=[]):=by
  intro B z hz
  have hz:(st.H++rtsI oc)[B]? = some z:=hz
  rw[List.getElem?_append]at hz
  split at hz
  ·rename_i hl
   by_cases hO:B∈O.map Prod.fst
   ·obtain⟨q,hq,rfl⟩:=List.mem_map.1 hO
    obtain⟨cs,ee,w1,w2,w3⟩:=r4 q hq
    rw[hz]at w1;injection w1 with w1
    exact .inl ⟨q.2,cs,ee,hq,w1,w2,w3 c1 at3⟩
   ·by_cases hB:B<k
    ·rw[r2 B hB hO,List.getElem?_replicate,if_pos hB]at hz
     injection hz with hz;exact .inr (.inl hz.symm)
    ·rw[r1]at hl
     obtain⟨w,hw⟩:∃w,L[B-k]? = some w:=⟨_,List.getElem?_eq_getElem (by omega)⟩
     have:=r3 _ w hw
     rw[show k+(B-k)=B by omega,hz]at this
     exact .inr (.inr (.inl ⟨_,w,by omega,hw,this⟩))
  ·rename_i hl
   obtain⟨i,t,B',rfl,h1,h2⟩:=rtsI_get hz
   have:=mout B (by omega)
   exact .inr (.inr (.inr ⟨i,t,B',rfl,h1,h2,this.1,this.2⟩))
 have ownO:∀b,b∈foot L→¬∃q∈O,q.2=b:=fun b hb ⟨q,hq,e⟩=>(sep.obj q hq).2.1 (by rw[e];exact hb)
 subst hR
 refine⟨c1,rfl,rfl,rfl,rfl,rfl,⟨rfl,?_,?_,?_,?_,?_,?_,⟨Nat.le_refl _,fun b _ _=>rfl⟩,fun b hb=>⟨sep.zb b hb,.inl hb⟩,fun b hb=>hb,fun i b hi=>?_⟩,fun t=>?_,hmO⟩
 ·intro B z hz
  rcases ent B z hz with ⟨b,cs,ee,hb,rfl,w2,w3⟩|rfl|⟨j,w,rfl,hj,z',w1,_,w2⟩|⟨i,t,B',rfl,h1,h2,h3,h4⟩
  ·simp only[BR]
   exact⟨hfO B (Ok _ hb),b,hmO _ hb,ee,w2,w3⟩
  ·trivial
  ·injection w1 with w1;subst w1
   rw[(mnew j w hj).1,(mnew j w hj).2]
   exact w2 c1 rfl rfl rfl rfl
  ·simp only[BR]
   obtain⟨q1,q2,cs,q3⟩:=rtAt h1 h2
   exact⟨h3,h4,q1,q2,_,q3,trivial⟩
 ·intro B B' z z' b hz hz' hw hw' hm hm'
  rcases ent B z hz with ⟨b1,cs,ee,hb,rfl,w2,w3⟩|rfl|⟨j,w,rfl,hj,w1⟩|⟨i,t,B1,rfl,_⟩
  ·rw[ftO _ hb]at hm;simp at hm;subst hm
   rcases ent B' z' hz' with ⟨b2,cs',ee',hb',rfl,w2',w3'⟩|rfl|⟨j',w',rfl,hj',w1'⟩|⟨i,t,B1,rfl,_⟩
   ·rw[ftO _ hb']at hm';simp at hm';subst hm'
    exact sep.objI _ hb _ hb' rfl
   ·cases hw'
   ·rw[ftn j' w' hj']at hm'
    exact(ownO _ (foot_get hj' hm') ⟨_,hb,rfl⟩).elim
   ·cases hw'
  ·cases hw
  ·rw[ftn j w hj]at hm
   rcases ent B' z' hz' with ⟨b2,cs',ee',hb',rfl,w2',w3'⟩|rfl|⟨j',w',rfl,hj',w1'⟩|⟨i,t,B1,rfl,_⟩
   ·rw[ftO _ hb']at hm';simp at hm';subst hm'
    exact(ownO _ (foot_get hj hm) ⟨_,hb',rfl⟩).elim
   ·cases hw'
   ·rw[ftn j' w' hj']at hm'
    rw[foot_inj sep.ownN hj hj' hm hm']
   ·cases hw'
  ·cases hw
 ·intro B z hz hw
  rcases ent B z hz with ⟨b1,cs,ee,hb,rfl,w2,w3⟩|rfl|⟨j,w,rfl,hj,w1⟩|⟨i,t,B1,rfl,_⟩
  ·rw[ftO _ hb];simp
  ·cases hw
  ·rw[ftn j w hj];exact foot_nd sep.ownN hj
  ·cases hw
 ·intro B z b hz hw hm
  rcases ent B z hz with ⟨b1,cs,ee,hb,rfl,w2,w3⟩|rfl|⟨j,w,rfl,hj,w1⟩|⟨i,t,B1,rfl,_⟩
  ·rw[ftO _ hb]at hm;simp at hm;subst hm
   exact⟨.inl (.inr ⟨_,hb,rfl⟩),(sep.obj _ hb).1⟩
  ·cases hw
  ·rw[ftn j w hj]at hm
   exact⟨.inl (.inl (foot_get hj hm)),(sep.own b (foot_get hj hm)).1⟩
  ·cases hw
 ·intro B z b hz hw hg hm
  rcases ent B z hz with ⟨b1,cs,ee,hb,rfl,w2,w3⟩|rfl|⟨j,w,rfl,hj,z',w1,w0,_⟩|⟨i,t,B1,rfl,_,_,h3,h4⟩
  ·cases hw
  ·exact(hg rfl).elim
  ·injection w1 with w1;subst w1;rw[w0]at hw;cases hw
  ·simp[Cf.ft,h3,h4]at hm
 ·intro B z b hz hg hm
  rcases ent B z hz with ⟨b1,cs,ee,hb,rfl,w2,w3⟩|rfl|⟨j,w,rfl,hj,w1⟩|⟨i,t,B1,rfl,_,_,h3,h4⟩
  ·rw[ftO _ hb]at hm;simp at hm;subst hm
   exact(sep.obj _ hb).2.2
  ·exact(hg rfl).elim
  ·rw[ftn j w hj]at hm
   exact(sep.own b (foot_get hj hm)).2
  ·simp[Cf.ft,h3,h4]at hm
 ·obtain⟨t,ht⟩:=rti.only i b hi
  obtain⟨B',b',h3,h4,h5⟩:=rti.at_ _ ht
  have hp:=(baseI_ok h3).2
  have:(.rt i B':ABlk)∈rtsI oc:=by
   refine List.mem_filterMap.2 ⟨(i,t),ht,?_⟩
   obtain⟨j,h6,h7⟩:=Option.map_eq_some_iff.1 h3
   injection h7 with h7;injection h7 with h7;subst h7
   simp[h6]
  obtain⟨j,hj⟩:=List.getElem?_of_mem this
  refine⟨st.H.length+j,B',?_⟩
  show (st.H++rtsI oc)[_]? = _
  rw[List.getElem?_append_right (by omega)]
  simpa using hj
 ·rcases r5 [] c1 at3 (fun a v h=>h.elim) (fun q hq=>⟨objAt q hq,hmO q hq⟩) t with h|⟨h,_⟩
  ·exact h
  ·rw[h]
   intro cs hcs
   obtain⟨iv,h⟩:=initFr_val hcs
   cases h
theorem initObj {oc:OC} {p:Bool} {Z:Nat→Prop} {h:Heap} {rt:Nat→Option Nat} {ivs:List IV} {x:DL oc.inn.hs} {L:Lo} {O:Oo} (sf:SF p Z h rt (initFr 0 ivs) (baseI oc.inn) fkN oc.inn x L O) (sep:Sep Z h L O) (rti:RtI rt (baseI oc.inn) oc.cls O)
 {st:ASt} (e:invS (roI oc) (baseI oc.inn) oc.inn x (List.replicate (rootsOf oc.inn).length .gone)=some st) {c1:Cf} (h1:c1.H=st.H++rtsI oc):∀q∈O,∃cs,c1.H[q.1]? = some (.obj true cs):=fun q hq=>by
 obtain⟨⟨_,_,_,r4⟩,_⟩:=invS_ok sf e (fun q hq=>by
  obtain⟨t,ht⟩:=SF_base sf q hq
  have:=getE_lt (baseI_ok ht).2
  simpa using this) sep.objN
 obtain⟨cs,ee,w1,_⟩:=r4 q hq
 exact⟨cs,by rw[h1,List.getElem?_append_left (getE_lt w1)];exact w1⟩
end Go.Ideal
set_option linter.unusedVariables false
set_option linter.unusedSimpArgs false
set_option linter.unusedSectionVars false
namespace Go.Ideal
theorem AFr.get_app:∀{a b:AFr} {t:Nat},AFr.get (a++b) t=(AFr.get a t).orElse fun _=>AFr.get b t
 |[],b,t=>rfl
 |(k,v)::a,b,t=>by
  simp only[List.cons_append,AFr.get]
  split
  ·rfl
  ·exact AFr.get_app
theorem Fr.get_app:∀{a b:Fr} {t:Nat},Fr.get (a++b) t=(Fr.get a t).orElse fun _=>Fr.get b t
 |[],b,t=>rfl
 |(k,v)::a,b,t=>by
  simp only[List.cons_append,Fr.get]
  split
  ·rfl
  ·exact Fr.get_app
def resS:Nat→List IV→Fr
 |_,[]=>[]
 |j,a::r=>(resB+j,.val a)::resS (j+1) r
theorem res_fr {c:Cf}:∀{as:List AV} {rs:List IV} {j:Nat},Vas c as rs→∀t,(AFr.get (resFr j as) t=none∧Fr.get (resS j rs) t=none)∨∃a r,AFr.get (resFr j as) t=some (.val a)∧Fr.get (resS j rs) t=some (.val r)∧Va c a r
 |[],rs,j,h,t=>by simp only[Vas]at h;subst h;exact .inl ⟨rfl,rfl⟩
 |a::as,rs,j,h,t=>by
  simp only[Vas]at h
  obtain⟨u,v,rfl,h1,h2⟩:=h
  simp only[resFr,resS,AFr.get,Fr.get]
  by_cases e:resB+j=t
  ·rw[if_pos e,if_pos e];exact .inr ⟨a,u,rfl,rfl,h1⟩
  ·rw[if_neg e,if_neg e];exact res_fr h2 t
theorem resS_get:∀{rs:List IV} {j k:Nat} {r:IV},rs[k]? = some r→Fr.get (resS j rs) (resB+(j+k))=some (.val r)
 |[],j,k,r,h=>by simp at h
 |a::rs,j,0,r,h=>by simp at h;subst h;simp[resS,Fr.get]
 |a::rs,j,k+1,r,h=>by
  simp only[resS,Fr.get]
  rw[if_neg (by omega),show j+(k+1)=(j+1)+k by omega]
  exact resS_get (by simpa using h)
theorem afr_mem:∀{l:AFr} {t:Nat} {v:ASV},l.get t=some v→(t,v)∈l
 |[],t,v,h=>by cases h
 |(k,w)::r,t,v,h=>by
  simp only[AFr.get]at h
  split at h
  ·rename_i e;subst e;injection h with h;subst h;simp
  ·exact List.mem_cons_of_mem _ (afr_mem h)
theorem rootFr_get {oc:OC} {t:Nat} {v:ASV} (h:(rootFr oc).get t=some v):∃T j,(t,SK.root T)∈oc.inn∧v = .val (.ptr j (.st 0))∧baseI oc.inn t=some v:=by
 have h1:=afr_mem h
 obtain⟨q,h2,h3⟩:=List.mem_filterMap.1 h1
 obtain⟨t',k⟩:=q
 cases k<;>simp only at h3<;>try (cases h3;done)
 obtain⟨v',h4,h5⟩:=Option.map_eq_some_iff.1 h3
 injection h5 with h5 h6
 subst h5;subst h6
 obtain⟨j,_,h7⟩:=Option.map_eq_some_iff.1 h4
 exact⟨_,j,h2,h7.symm,h4⟩
theorem SF_rootK {p:Bool} {Z:Nat→Prop} {h:Heap} {rt:Nat→Option Nat} {σ:Fr} {base:Nat→Option ASV} {fk:ASV→Option SV→Prop} {t:Nat} {T:Ty}:∀{sh:Shp} {x:DL sh.hs} {L:Lo} {O:Oo},SF p Z h rt σ base fk sh x L O→(t,SK.root T)∈sh→∃B b,base t=some (.val (.ptr B (.st 0)))∧(B,b)∈O∧σ.get t=some (.val (.ptr b 1 0 0))
 |[],x,L,O,f,hm=>by simp at hm
 |(t0,k)::r,x,L,O,f,hm=>by
  obtain⟨L1,L2,O1,O2,rfl,rfl,f1,f2⟩:=f
  rcases List.mem_cons.1 hm with e|hm
  ·injection e with e1 e2;subst e1;subst e2
   obtain⟨B,b,e,h1,h2,_,_,rfl⟩:=f1
   exact⟨B,b,h1,by simp,h2⟩
  ·obtain⟨B,b,h1,h2,h3⟩:=SF_rootK f2 hm
   exact⟨B,b,h1,by simp[h2],h3⟩
section
variable {prog:Nat→Option SFn} {opn:Nat→Bool} {cs:Nat→Option Ct} {fns:Nat→Option AFn}
theorem runO_ok (hcs:∀f ct,cs f=some ct→CtOk prog opn f ct) {icall:∀R:Type,Nat→List AV→AHp→(AV→AHp→Option R)→Option R} (hic:∀R,ICallOk prog opn (icall R)) {f:Nat} {af:AFn} (hf:prog f=some af.fn) {oc:OC}
 (hF:∀x y,oc.F x=some y→runO cs opn (fun _ _=>iterL) icall af oc x=some y):OCtOk prog opn f oc:=by
 intro p Z h rt ivs x L O hlen sf sep rti y hy
 have e:=hF _ _ hy
 unfold runO at e
 split at e
 ·rename_i hok
  simp only[Bool.and_eq_true,decide_eq_true_eq]at hok
  obtain⟨st0,e0,e⟩:=bind_some'.1 e
  simp only[initO,unpack_pack]at e0
  obtain⟨st,e1,e0⟩:=bind_some'.1 e0
  simp only[Option.some.injEq]at e0;subst e0
  obtain⟨c1,h1,h2,h3,h4,h5,g1,hfr,hm1⟩:=init_ok sf sep rti e1 rfl
  have g0:G ⟨p,h.length,fun b=>b∈foot L∨∃q∈O,q.2=b,h,Z⟩ [] [] c1 ⟨st.fr,st.H++rtsI oc⟩ (initFr 0 ivs,h):=⟨g1,h1,h2,⟨hfr,rfl,by simp,by simp⟩⟩
  obtain⟨ex,s',hev,st',c',g',le,e2⟩:=aC_ok hcs hic af.code e g0
  have hst:start af.fn ivs=some (initFr 0 ivs):=by
   unfold start;rw[if_pos];rw[hlen];exact hok.2
  have fin:∀(hx:∀i,ex≠.exit i) (e2:resA st' af.res (fun as=>if decide (as.length=oc.nres)&&rtOk (st.H++rtsI oc) st'.H then (abs [] (fun _=>none) (baseI oc.inn) true ⟨resFr 0 as++rootFr oc,st'.H⟩ oc.out).bind fun z=>some z.1 else none)=some y),
   ∃(rs:List IV) (h':Heap) (Z':Nat→Prop) (L':Lo) (O':Oo) (σ':Fr),callL prog opn f ivs h=some (tupled rs,h')∧rs.length=oc.nres∧
   SF p Z' h' rt σ' (baseI oc.inn) fkN oc.out (unpack y) L' O'∧(∀j r,rs[j]? = some r→σ'.get (resB+j)=some (.val r))∧(∀q∈O',q∈O)∧
   UF h.length (fun b=>b∈foot L∨∃q∈O,q.2=b) Z h Z' h' L' O'∧ZLe Z Z' h h':=by
   intro hx e2
   obtain⟨as,rs,k1,k2,k3⟩:=resA_ok g' e2
   split at k1
   ·rename_i hc
    simp only[Bool.and_eq_true,decide_eq_true_eq]at hc
    obtain⟨z,k4,k5⟩:=bind_some'.1 k1
    injection k5 with k5;subst k5
    obtain⟨d,a1,a2,ok,hbx⟩:=abs_eq k4
    have hcall:callL prog opn f ivs h=some (tupled rs,s'.2):=by
     rw[callL_eq,hf]
     simp only[Option.bind_some]
     rw[hst]
     simp only[Option.bind_some]
     rw[show af.fn.body=af.code.erase from rfl,hev]
     simp only[Option.bind_some,finish]
     cases ex with
     |exit i=>exact(hx i rfl).elim
     |normal=>exact(congrArg (fun z=>Option.bind z _) k2).trans rfl
     |ret=>exact(congrArg (fun z=>Option.bind z _) k2).trans rfl
    let σ2:Fr:=resS 0 rs++initFr 0 ivs
    have gf2:GF [] [] c' (resFr 0 as++rootFr oc) σ2:=by
     refine⟨fun t=>?_,rfl,by simp,by simp⟩
     simp only[σ2]
     rw[AFr.get_app,Fr.get_app]
     rcases res_fr (j:=0) k3 t with ⟨q1,q2⟩|⟨a,r,q1,q2,q3⟩
     ·rw[q1,q2]
      simp only[Option.orElse_none]
      cases hr:(rootFr oc).get t with
      |none=>
       intro cs hcs
       obtain⟨iv,hh⟩:=initFr_val hcs
       cases hh
      |some v=>
       obtain⟨T,j,q3,rfl,q4⟩:=rootFr_get hr
       obtain⟨B,b,q5,q6,q7⟩:=SF_rootK sf q3
       rw[q4]at q5;injection q5 with q5;injection q5 with q5;injection q5 with q5;subst q5
       refine⟨_,q7,SVa.le le ?_⟩
       obtain⟨cs',hB⟩:∃cs',c1.H[j]? = some (.obj true cs'):=by
        have:=hfr t
        exact initObj sf sep rti e1 h1 _ q6
       simp only[SVa,Va]
       exact⟨rfl,PtrR.mk (o:=.st 0) hB (hm1 _ q6)⟩
     ·rw[q1,q2]
      exact⟨_,rfl,q3⟩
    have ncst:∀{t i},(resFr 0 as++rootFr oc).get t≠some (.cst i):=by
     intro t i hh
     rw[AFr.get_app]at hh
     rcases res_fr (j:=0) k3 t with ⟨q1,q2⟩|⟨a,r,q1,q2,q3⟩
     ·rw[q1]at hh
      simp only[Option.orElse_none]at hh
      obtain⟨_,_,_,h6,_⟩:=rootFr_get hh
      cases h6
     ·rw[q1]at hh;cases hh
    obtain⟨L',O',sf',hu'⟩:=absS_ok (T:=[]) (TI:=[]) (st:=⟨resFr 0 as++rootFr oc,st'.H⟩) (s:=(σ2,s'.2)) (fk:=fkN) (Z:=Z3of c' z.2) g'.gh.blk (fun b hb=>.inl hb) g'.H gf2 (fun t _ ⟨i,hh,_⟩=>(ncst hh).elim) (.inl rfl) a1 (fun B hB b hm=>.inr ⟨B,hB,hm⟩)
    rw[←g'.H]at ok
    have uf:=use_ok g'.gh hu' ok
    have hp:c'.p=p:=le.p.trans h3
    have hh:c'.h=s'.2:=g'.h
    have hrt:c'.rt=rt:=by
     funext i
     cases hi:rt i with
     |some b=>exact le.rt i b (by rw[h5];exact hi)
     |none=>
      cases hi':c'.rt i with
      |none=>rfl
      |some b=>
       obtain⟨j,B,q1⟩:=g'.gh.rtd i b hi'
       rw[g'.H]at q1
       obtain⟨j',B',q2⟩:=rtOk_ok hc.2 q1
       have:=g1.blk j' _ (by rw[h1];exact q2)
       simp only[BR]at this
       exact(this.2.2.2.1 (by rw[h5];exact hi)).elim
    rw[hp,hrt]at sf'
    rw[hh]at sf' uf
    refine⟨rs,s'.2,Z3of c' z.2,L',O',σ2,hcall,by rw[k3.len];exact hc.1,by rw[a2,unpack_pack];exact sf',fun j r hj=>?_,fun q hq=>?_,uf,?_⟩
    ·simp only[σ2];rw[Fr.get_app]
     have:=resS_get (j:=0) hj
     rw[Nat.zero_add]at this
     rw[this];rfl
    ·obtain⟨t,ht⟩:=SF_base sf' q hq
     obtain⟨j,hj,hj2⟩:=Option.map_eq_some_iff.1 ht
     injection hj2 with hj2;injection hj2 with hj2;subst hj2
     obtain⟨B,b0,q1,q2⟩:=SF_root sf t (List.mem_of_getElem? (posL_ok hj))
     rw[ht]at q1;injection q1 with q1;injection q1 with q1;injection q1 with q1;subst q1
     obtain⟨cs',hB⟩:=initObj sf sep rti e1 h1 _ q2
     have m1:=(le.H _ _ hB).1
     have m2:=(hu'.o q hq).1
     rw[m1,hm1 _ q2]at m2
     injection m2 with m2
     have m2:b0=q.2:=m2
     subst m2;exact q2
    ·exact⟨fun b hb=>.inl (le.Z.z b (by rw[h4];exact hb)),fun b hb=>by rw[←hh,←h2];exact le.Z.h b (by rw[h4];exact hb)⟩
   ·cases k1
  cases ex with
  |exit i=>cases e2
  |normal=>exact fin (by simp) e2
  |ret=>exact fin (by simp) e2
 ·cases e
theorem inlO_ok (hcs:∀f ct,cs f=some ct→CtOk prog opn f ct) {os:Nat→Option OC} (hos:∀f oc,os f=some oc→OCtOk prog opn f oc) (hfns:∀f af,fns f=some af→prog f=some af.fn):∀(n:Nat) (R:Type),ICallOk prog opn (inlO cs opn (fun _ _=>iterL) os fns n R)
 |0,R=>by
  intro f args H k r e R c ivs g hH h
  simp only[inlO]at e
  obtain⟨oc,e1,e⟩:=bind_some'.1 e
  subst hH
  exact ocall_ok (hos f oc e1) g h e
 |n+1,Rr=>by
  intro f args H k r e R c ivs g hH h
  simp only[inlO]at e
  split at e
  ·rename_i oc e1
   subst hH
   exact ocall_ok (hos f oc e1) g h e
  ·obtain⟨af,e1,e⟩:=bind_some'.1 e
   obtain⟨rs,s',h1,as,st',c',g',hh,hH',le,hv,hk⟩:=aBody_ok hcs (inlO_ok hcs hos hfns n) (hfns f af e1) e g hH h
   exact⟨tupled rs,s'.2,h1,atupled as,c',g',hh,le,tupled_va hv,by rw[hH'];exact hk⟩
end
end Go.Ideal
set_option linter.unusedVariables false
namespace Go.Ideal
instance {n:Nat}:OfNat SX n:=⟨.t n⟩
def ci (n:Int):SX:=.c (.int .i64 n)
def ia (d:Nat) (o:SOp) (i:Nat):Item:=⟨i,none,some d,o⟩
def ib (o:SOp) (i:Nat):Item:=⟨i,none,none,o⟩
def ic (t:Nat) (w:Bool) (d:Nat) (o:SOp) (i:Nat):Item:=⟨i,some (t,w),some d,o⟩
def nuF:Nat→List (Nat→Item)→List Item
 |_,[]=>[]
 |i,f::r=>f i::nuF (i+1) r
def nu (l:List (Nat→Item)):List Item:=nuF 0 l
def OTabOk (prog:Nat→Option SFn) (opn:Nat→Bool):List (Nat×OC)→Prop
 |[]=>True
 |(f,c)::r=>OCtOk prog opn f c∧OTabOk prog opn r
theorem otab_ok {prog:Nat→Option SFn} {opn:Nat→Bool}:∀{l:List (Nat×OC)},OTabOk prog opn l→∀f oc,tabOf l f=some oc→OCtOk prog opn f oc
 |[],_,f,ct,h=>by simp[tabOf]at h
 |(g,c)::r,hl,f,ct,h=>by
  simp only[tabOf]at h
  split at h
  ·rename_i e;simp at h;subst h
   rw[Nat.eq_of_beq_eq_true e];exact hl.1
  ·exact otab_ok hl.2 f ct h
section
variable (opn:Nat→Bool) (cs:List (Nat×Ct)) (os:List (Nat×OC)) (fns:List (Nat×AFn))
noncomputable def theC (af:AFn) (args res:List VTy) (fresh:Bool) (x:(rowTy (args.map (·.t))).den):Option (rowTy (res.map (·.t))).den:=
 runG (tabOf cs) opn (fun _ _=>iterL) (inlO (tabOf cs) opn (fun _ _=>iterL) (tabOf os) (tabOf fns) 10) af args res fresh x
noncomputable def theO (af:AFn) (oc:OC) (x:(rowTy oc.inn.hs).den):Option (rowTy oc.out.hs).den:=
 runO (tabOf cs) opn (fun _ _=>iterL) (inlO (tabOf cs) opn (fun _ _=>iterL) (tabOf os) (tabOf fns) 10) af oc x
end
section
variable {prog:Nat→Option SFn} {opn:Nat→Bool} {cs:List (Nat×Ct)} {os:List (Nat×OC)} {fns:List (Nat×AFn)}
theorem theC_ok (hcs:TabOk prog opn cs) (hos:OTabOk prog opn os) (hfns:FnsOk prog fns) {f:Nat} {af:AFn} (hf:prog f=some af.fn) {args res:List VTy} {fresh:Bool} (hd:(depOk args&&depOk res)=true)
 {F:(rowTy (args.map (·.t))).den→Option (rowTy (res.map (·.t))).den} (hF:∀x,theC opn cs os fns af args res fresh x=F x):CtOk prog opn f ⟨args,res,fresh,F⟩:=
 runG_ok (tab_ok hcs) (inlO_ok (tab_ok hcs) (otab_ok hos) (fns_ok hfns) 10) hf hd fun x r h=>(hF x).trans h
theorem theO_ok (hcs:TabOk prog opn cs) (hos:OTabOk prog opn os) (hfns:FnsOk prog fns) {f:Nat} {af:AFn} (hf:prog f=some af.fn) {oc:OC}
 (hF:∀x,theO opn cs os fns af oc x=oc.F x):OCtOk prog opn f oc:=
 runO_ok (tab_ok hcs) (inlO_ok (tab_ok hcs) (otab_ok hos) (fns_ok hfns) 10) hf fun x r h=>(hF x).trans h
end
end Go.Ideal
set_option linter.unusedVariables false
namespace Go.Ideal
def mv (d:Nat) (x:SX):Nat→Item:=ia d (.mov x)
def ld (d:Nat) (x:SX):Nat→Item:=ia d (.load none x)
def fa (d o:Nat) (x:SX):Nat→Item:=ia d (.fadr o x)
def bn (d:Nat) (o:BinOp) (x y:SX):Nat→Item:=ia d (.bin o x y)
def cl (d f:Nat) (l:List SX):Nat→Item:=ia d (.call f l)
def et (d:Nat) (x:SX) (i:Nat):Nat→Item:=ia d (.ext x i)
def sr (l:List (Nat→Item)) (live:List Nat) (a:ACode):ACode:=.seq (.reg (nu l) live) a
def rg (l:List (Nat→Item)) (live:List Nat):ACode:=.reg (nu l) live
def sq (a b:ACode):ACode:=.seq a b
def cd (t:Nat) (a b:ACode):ACode:=.cond (.t t) a b
def vi:SK:=.val false false ⟨false,.int .i64⟩
def vb:SK:=.val false false ⟨false,.bool⟩
def kp (l:List Nat) (s:Shp):Shp:=l.map (fun t=>(t,SK.keep))++s
section
variable {prog:Nat→Option SFn} {opn:Nat→Bool} {cs:List (Nat×Ct)} {os:List (Nat×OC)} {fns:List (Nat×AFn)}
theorem tabC (hcs:TabOk prog opn cs) (hos:OTabOk prog opn os) (hfns:FnsOk prog fns) {f:Nat} (c:Ct) (af:AFn) (hf:prog f=some af.fn) (hd:(depOk c.args&&depOk c.res)=true)
 (hF:∀x,theC opn cs os fns af c.args c.res c.fresh x=c.F x):CtOk prog opn f c:=theC_ok hcs hos hfns hf hd hF
theorem tabO (hcs:TabOk prog opn cs) (hos:OTabOk prog opn os) (hfns:FnsOk prog fns) {f:Nat} (c:OC) (af:AFn) (hf:prog f=some af.fn)
 (hF:∀x,theO opn cs os fns af c x=c.F x):OCtOk prog opn f c:=theO_ok hcs hos hfns hf hF
end
def progOf (l:List (Nat×AFn)) (f:Nat):Option SFn:=(tabOf l f).map AFn.fn
def LnkOk (P:Program) (opn:Nat→Bool):List (Nat×AFn)→Prop
 |[]=>True
 |(f,a)::r=>FLink P opn f a.fn∧LnkOk P opn r
theorem lnk_ok {P:Program} {opn:Nat→Bool}:∀{l:List (Nat×AFn)},LnkOk P opn l→∀f sf,progOf l f=some sf→FLink P opn f sf
 |[],_,f,sf,h=>by simp[progOf,tabOf]at h
 |(g,a)::r,hl,f,sf,h=>by
  unfold progOf at h
  simp only[tabOf]at h
  split at h
  ·rename_i e
   simp only[Option.map_some,Option.some.injEq]at h
   subst h
   rw[Nat.eq_of_beq_eq_true e]
   exact hl.1
  ·exact lnk_ok hl.2 f sf h
end Go.Ideal
