/- The operations of the typed evaluator are right: those that lay or write. -/
import Derived.Test.YtiiibbnififbpaaJa
set_option linter.unusedVariables false
set_option linter.unusedSimpArgs false
set_option linter.unusedSectionVars false
namespace Go.Ideal
section
variable {Rr:Type} {prog:Nat->Option mO} {opn:Nat->Bool} {cs:Nat->Option Ct} {ety:Nat->Option Ty} {icall:Nat->List AV->eB->(AV->eB->Option Rr)->Option Rr}
 {R:lL} {T:List dP} {TI:List SV} {c:Cf} {st:gJ} {s:St} {k:dP->gJ->Option Rr} {r:Rr} {dst:Option Nat}
variable (g:G R T TI c st s)
include g
theorem Cr:∀{ps:List (Nat×Nat×SX)} {l:List AV} {ivs:List IV} {out:List AV},dB c l ivs->zW T st.fr l ps=some out->∃o',qJ s.1 ivs ps=some o'/\dB c out o'
 |[],l,ivs,out,h,e=>by simp only[zW,aD]at e;subst e;exact⟨ivs,rfl,h⟩
 |(off,n,x)::ps,l,ivs,out,h,e=>by
  simp only[zW]at e
  obtain⟨v,e1,e⟩:=aA.1 e
  obtain⟨vs,e2,e⟩:=aA.1 e
  split at e
  ·rename_i hn
   obtain⟨u,e3,e⟩:=aA.1 e
   obtain⟨w,e4,e⟩:=aA.1 e
   obtain⟨iv,h1,h2⟩:=dV g.gf e1
   obtain⟨us,h3,h4⟩:=uL h2 e2
   have hl:=(dB.len h4).1
   obtain⟨q1,q2,q3⟩:=h.split e3
   obtain⟨q4,q5,q6⟩:=q2.split e4
   simp only[bW]at q6
   rw[cM]at q5
   obtain⟨o',h5,h6⟩:=Cr (ps:=ps) (show dB c (u.1++vs++w.2) (eH ivs off us) by
    simp only[eH];rw[hl,hn];exact(q1.app h4).app q5) e
   refine⟨o',?_,h6⟩
   simp only[qJ,h1,h3,aB]
   rw[if_pos ⟨by omega,by omega⟩];exact h5
  ·cases e
theorem Pi {z:List IV} {ps:List (Nat×Nat×SX)} (e:iI cs opn ety icall T st dst (.build z ps) k=some r):fG prog opn R T TI c s k r dst (.build z ps):=by
 simp only[iI]at e
 obtain⟨a,e1,e⟩:=aA.1 e
 split at e
 ·rename_i h1
  obtain⟨out,e2,e⟩:=aA.1 e
  obtain⟨o',h2,h3⟩:=Cr g ((jS e1).1 h1) e2
  exact .same g (sv:=.val (.agg o')) (by simp only[aT,h2,aB]) (by simp only[cY,Va];exact⟨_,rfl,h3⟩) e
 ·cases e
theorem Pj {loc:Bool} {sz:Nat} {z:List (List IV)} (e:iI cs opn ety icall T st dst (.alloc loc sz z) k=some r):fG prog opn R T TI c s k r dst (.alloc loc sz z):=by
 simp only[iI]at e
 split at e
 ·rename_i el
  obtain⟨a,e1,e⟩:=aA.1 e
  split at e
  ·rename_i h1
   have hc:dB c a el:=(jS e1).1 h1
   cases loc with
   |true=>
    simp only[if_true]at e
    split at e
    ·rename_i t
     split at e
     ·rename_i hf
      exact .same g (sv:=.box el) (by simp only[aT,if_true];rw[if_pos (pL g.gf hf)]) (show cY c (.box _) (.box _) from hc) e
     ·cases e
    ·cases e
   |false=>
    simp only[aR,if_false]at e
    split at e
    ·rename_i hw
     have hl:=(dB.len hc).1
     have hl2:el.length=sz:=by omega
     obtain⟨c',hc',g',le⟩:=g.gh.push (.obj true a) ⟨sz,[el]⟩ rfl fun c' hc' le=>by
      simp only[BR,true_and]
      refine⟨_,rfl,el,?_,hc.le le⟩
      rw[hc'];simp[hl2]
     refine⟨.val (.ptr s.2.length 1 0 0),(s.1,s.2++[some ⟨sz,[el]⟩]),?_,.val (.ptr st.H.length (.st 0)),{ st with H:=st.H++[.obj true a] },c',⟨g',?_,?_,g.gf.le le⟩,le,?_,e⟩
     ·simp only[aT,aR,if_false,gD,List.all_nil,Hm,decide_eq_true_eq]
      rw[if_pos ⟨hl2,hw.2⟩];rfl
     ·rw[hc'];simp[g.H]
     ·rw[hc'];simp[g.h]
     ·simp only[cY,Va]
      refine⟨rfl,lV.mk (o:=.st 0) (wr:=true) (cs:=a) ?_ ?_⟩
      ·rw[hc',<-g.H];exact nN
      ·rw[hc',<-g.H,<-g.h];simp[pA]
    ·cases e
  ·cases e
 ·cases e
theorem Xm {loc:Bool} {x:SX} (e:iI cs opn ety icall T st dst (.box loc x) k=some r):fG prog opn R T TI c s k r dst (.box loc x):=by
 simp only[iI]at e
 obtain⟨a,e1,e⟩:=aA.1 e
 obtain⟨vs,e2,e⟩:=aA.1 e
 obtain⟨iv,h1,h2⟩:=dV g.gf e1
 obtain⟨us,h3,h4⟩:=uL h2 e2
 have hl:=(dB.len h4).1
 cases loc with
 |true=>
  simp only[if_true]at e
  split at e
  ·rename_i t
   split at e
   ·rename_i hf
    exact .same g (sv:=.box us) (by simp only[aT,h1,h3,aB,if_true];rw[if_pos (pL g.gf hf)]) (show cY c (.box _) (.box _) from h4) e
   ·cases e
  ·cases e
 |false=>
  simp only[aR,if_false]at e
  split at e
  ·rename_i hw
   obtain⟨c',hc',g',le⟩:=g.gh.push (.obj true vs) ⟨us.length,[us]⟩ rfl fun c' hc' le=>by
    simp only[BR,true_and]
    refine⟨_,rfl,us,?_,h4.le le⟩
    rw[hc'];simp
   refine⟨.val (.ptr s.2.length 1 0 0),(s.1,s.2++[some ⟨us.length,[us]⟩]),?_,.val (.ptr st.H.length (.st 0)),{ st with H:=st.H++[.obj true vs] },c',⟨g',?_,?_,g.gf.le le⟩,le,?_,e⟩
   ·simp only[aT,h1,h3,aB,aR,if_false]
    rw[if_pos (by omega)]
   ·rw[hc'];simp[g.H]
   ·rw[hc'];simp[g.h]
   ·simp only[cY,Va]
    refine⟨rfl,lV.mk (o:=.st 0) (wr:=true) (cs:=vs) ?_ ?_⟩
    ·rw[hc',<-g.H];exact nN
    ·rw[hc',<-g.H,<-g.h];simp[pA]
  ·cases e
theorem yM {hp ln:Bool} {t:Ty} {l:List t.den} {es:List (List IV)} (h:dI (TR c.p c.Z c.h ln t hp) l es) {op:gQ} {n:Nat} (hn:es.length=n)
 (he:aT (eC prog opn) opn dst op s=some (.val (.sl s.2.length n 0 n n),(s.1,s.2++[some ⟨t.n,es⟩])))
 (e:k (.val (.own st.H.length)) { st with H:=st.H++[.arr true hp ln t l] } = some r):fG prog opn R T TI c s k r dst op:=by
 obtain⟨c',hc',g',le⟩:=g.gh.push (.arr true hp ln t l) ⟨t.n,es⟩ rfl fun c' hc' le=>by
  simp only[BR,true_and]
  refine⟨es,?_,h.imp fun a b h=>TR.le le h⟩
  rw[hc'];simp
 refine⟨_,_,he,.val (.own st.H.length),{ st with H:=st.H++[.arr true hp ln t l] },c',⟨g',?_,?_,g.gf.le le⟩,le,?_,e⟩
 ·rw[hc'];simp[g.H]
 ·rw[hc'];simp[g.h]
 ·simp only[cY,Va]
  refine⟨rfl,.inr ⟨true,hp,ln,t,l,?_,?_⟩⟩
  ·rw[hc',<-g.H];exact nN
  ·rw[hc',<-g.H,<-g.h];simp[pA,fC];rw[<-hn,h.len]
omit g in
theorem Db (hb:xB c) {t:Ty} {hp ln:Bool}:∀{es:List (List AV)} {l:List t.den} {us:List (List IV)},Lg c.H t es=some l->dI (dB c) es us->(∀e∈es,∀B∈AV.refsL e,∀b∈c.ft B,c.Z b)->(∀e∈es,oG c.H e=true->hp=true)->(∀e∈es,nB c.H e=true->ln=true)->
 dI (TR c.p c.Z c.h ln t hp) l us
 |[],l,us,e,h,_,_,_=>by
  simp only[Lg,aD]at e;subst e
  cases us with
  |nil=>trivial
  |cons _ _=>exact h.elim
 |a::es,l,us,e,h,hr,h1,h2=>by
  cases us with
  |nil=>exact h.elim
  |cons u us=>
   simp only[Lg]at e
   obtain⟨x,e1,e⟩:=aA.1 e
   split at e
   ·rename_i hx
    obtain⟨l',e2,e⟩:=aA.1 e
    simp only[aD]at e;subst e
    obtain⟨pre,p1,p2⟩:=jM hb e1 h.1
    rw[hx,bA]at p1;subst p1
    obtain⟨u1,u2,p3,p4,p5⟩:=p2 hp ln (h1 a (by simp)) (h2 a (by simp)) (fun B hB=>hr a (by simp) B hB)
    rw[hx]at p5;simp only[dB]at p5;subst p5
    simp only[bA]at p3;subst p3
    exact⟨p4,Db hb e2 h.2 (fun e he=>hr e (by simp[he])) (fun e he=>h1 e (by simp[he])) (fun e he=>h2 e (by simp[he]))⟩
   ·cases e
theorem rX {sz:Nat}:∀{ps:List (Nat×SX)} {es:List (List AV)} {us:List (List IV)} {out:List (List AV)},dI (dB c) es us->wD T st.fr sz es ps=some out->∃o',lD s.1 sz us ps=some o'/\dI (dB c) out o'
 |[],es,us,out,h,e=>by simp only[wD,aD]at e;subst e;exact⟨us,rfl,h⟩
 |(i,x)::ps,es,us,out,h,e=>by
  simp only[wD]at e
  obtain⟨v,e1,e⟩:=aA.1 e
  obtain⟨vs,e2,e⟩:=aA.1 e
  split at e
  ·rename_i hn
   obtain⟨iv,h1,h2⟩:=dV g.gf e1
   obtain⟨ws,h3,h4⟩:=uL h2 e2
   have hl:=(dB.len h4).1
   obtain⟨o',h5,h6⟩:=rX (ps:=ps) (h.set h4 i) e
   refine⟨o',?_,h6⟩
   simp only[lD,h1,h3,aB]
   rw[if_pos ⟨by omega,by rw[h.len];exact hn.2⟩];exact h5
  ·cases e
theorem Xl {own:Bool} {sz:Nat} {z:List IV} {len:Nat} {ps:List (Nat×SX)} (e:iI cs opn ety icall T st dst (.bsl own sz z len ps) k=some r):fG prog opn R T TI c s k r dst (.bsl own sz z len ps):=by
 simp only[iI]at e
 split at e
 ·rename_i hz
  obtain⟨a,e1,e'⟩:=aA.1 e
  clear e;have e:=e';clear e'
  split at e
  ·rename_i h1
   obtain⟨es,e2,e'⟩:=aA.1 e
   clear e;have e:=e';clear e'
   obtain⟨t,e3,e'⟩:=aA.1 e
   clear e;have e:=e';clear e'
   split at e
   ·rename_i ht
    obtain⟨l,e4,e'⟩:=aA.1 e
    clear e;have e:=e';clear e'
    obtain⟨ht,hr⟩:=ht
    subst ht
    obtain⟨us,h2,h3⟩:=rX g (dI.repl ((jS (c:=c) e1).1 h1) len) e2
    rw[<-g.H]at e4
    have h4:=Db g.gh.blk (hp:=es.any (oG c.H)) (ln:=es.any (nB c.H)) e4 h3 (fun e he B hB=>by rw[show AV.refsL e=[] by simpa using bE.1 hr e he]at hB;cases hB) (fun e he h=>kF.2 ⟨e,he,h⟩) (fun e he h=>kF.2 ⟨e,he,h⟩)
    have hlen:us.length=len:=by
     have:∀{ps:List (Nat×SX)} {us out:List (List IV)},lD s.1 t.n us ps=some out->out.length=us.length:=by
      intro ps
      induction ps with
      |nil=>intro us out h;simp only[lD,aD]at h;subst h;rfl
      |cons p ps ih=>
       intro us out h
       obtain⟨i,x⟩:=p
       simp only[lD]at h
       obtain⟨_,_,h⟩:=aA.1 h
       obtain⟨_,_,h⟩:=aA.1 h
       split at h
       ·have:=ih h;simpa using this
       ·cases h
     simpa using this h2
    cases own with
    |true=>
     simp only[if_true]at e
     rw[<-g.H]at e
     refine yM g h4 hlen ?_ (by rw[<-g.H];exact e)
     simp only[aT,if_pos hz,h2,aB,if_true]
    |false=>
     simp only[aR,if_false]at e
     split at e
     ·cases e
     ·rename_i hh
      rw[<-g.H,dT]at hh
      rw[hh]at h4
      rw[<-g.H]at e
      refine .same g (a:=.val (.lst false (es.any (nB c.H)) t l)) (sv:=.val (.ro false us)) ?_ (by simp only[cY,Va,TR];exact⟨_,rfl,.inr (.inl ⟨false,us,rfl,by simp,h4⟩)⟩) e
      have hno:IV.ownL us.flatten=false:=by
       rw[IV.ownL_eq,cC]
       intro v hv
       obtain⟨e',he,hv⟩:=eY.1 hv
       obtain⟨x,_,hx⟩:=h4.mem_r e' he
       simp[wF hx v hv]
      simp only[aT,if_pos hz,h2,aB,aR,if_false,hno]
   ·split at e
    ·rename_i _ ht
     obtain⟨ht,ho⟩:=ht
     subst ht;subst ho
     obtain⟨l,e4,e'⟩:=aA.1 e
     clear e;have e:=e';clear e'
     obtain⟨H',e5,e'⟩:=aA.1 e
     clear e;have e:=e';clear e'
     obtain⟨us,h2,h3⟩:=rX g (dI.repl ((jS (c:=c) e1).1 h1) len) e2
     rw[<-g.H]at e4 e5
     obtain⟨Z',g1,le1,z1,z2,_,hH'⟩:=g.gh.frzL e5
     obtain⟨leZ,brZ⟩:=Le.ofZ z1 g.gh.blk
     have h4:=Db (c:={ c with Z:=Z' }) brZ (hp:=true) (ln:=true) e4 (h3.imp fun _ _ h=>h.le leZ) (fun e he B hB b hb=>z2 B (dS.2 ⟨e,he,hB⟩) b hb) (fun _ _ _=>rfl) (fun _ _ _=>rfl)
     have hlen:us.length=len:=by
      have:∀{ps:List (Nat×SX)} {us out:List (List IV)},lD s.1 t.n us ps=some out->out.length=us.length:=by
       intro ps
       induction ps with
       |nil=>intro us out h;simp only[lD,aD]at h;subst h;rfl
       |cons p ps ih=>
        intro us out h
        obtain⟨i,x⟩:=p
        simp only[lD]at h
        obtain⟨_,_,h⟩:=aA.1 h
        obtain⟨_,_,h⟩:=aA.1 h
        split at h
        ·have:=ih h;simpa using this
        ·cases h
      simpa using this h2
     have gg:G R T TI { c with H:=H',Z:=Z' } { st with H:=H' } s:=⟨g1,rfl,g.h,g.gf.le le1⟩
     have:=yM (prog:=prog) (opn:=opn) (dst:=dst) (op:=.bsl true t.n z len ps) gg (t:=t) (l:=l) (hp:=true) (ln:=true) (n:=len) h4 hlen (by simp only[aT,if_pos hz,h2,aB,if_true]) e
     obtain⟨sv,s',q1,v,st',c',q2,q3,q4⟩:=this
     exact⟨sv,s',q1,v,st',c',q2,le1.trans q3,q4⟩
    ·cases e
  ·cases e
 ·cases e
theorem Tg {own:Bool} {x:SX} (e:iI cs opn ety icall T st dst (.cvSB own x) k=some r):fG prog opn R T TI c s k r dst (.cvSB own x):=by
 simp only[iI]at e
 obtain⟨a,e1,e⟩:=aA.1 e
 obtain⟨ix,h1,h2⟩:=dV g.gf e1
 cases a<;>simp only at e<;>try (cases e;done)
 rename_i b
 simp only[Va]at h2;subst h2
 obtain⟨hc,e⟩:=dZ.1 e
 rw[decide_eq_true_eq]at hc
 have key:∀(p:Bool) (Z:Nat->Prop) (h:aN) (ln hp:Bool) (b:List UInt8),dI (TR p Z h ln (.int .u8) hp) (b.map fun c=>(c.toNat:Int)) (b.map fun b=>[IV.int .u8 b.toNat]):=by
  intro p Z h ln hp b
  induction b with
  |nil=>trivial
  |cons x b ih=>exact⟨by simp[TR],ih⟩
 cases own with
 |true=>
  simp only[if_true]at e
  refine yM g (key _ _ _ _ _ _) (n:=b.length) (by simp) ?_ e
  simp only[aT,h1,aB,if_neg (Nat.not_lt.2 hc),if_true];rfl
 |false=>
  simp only[aR,if_false]at e
  exact .same g (sv:=.val (.ro false (b.map fun b=>[.int .u8 b.toNat]))) (by simp only[aT,h1,aB,if_neg (Nat.not_lt.2 hc),aR,if_false])
   (by simp only[cY,Va,TR];exact⟨_,rfl,.inr (.inl ⟨false,_,rfl,by simp,by simpa only[TR]using key c.p c.Z c.h false false b⟩)⟩) e
theorem Pm {sz:Nat} {z:List IV} {bytes:Nat} {l cc:SX} {n:Int} {a:List AV} {t:Ty} {x:t.den×List AV}
 (hl:l.val s.1=some (.int .i64 n)) (hcc:cc.val s.1=some (.int .i64 n)) (e1:mN z=some a) (hz:a.all AV.one=true/\t.n=sz/\0<sz/\mA a=sz/\AV.refsL a=[]/\oG st.H a=false/\nB st.H a=false)
 (e2:oC st.H t a=some x) (hx:x.2=[]) (hn:0≤n/\n*(bytes+1:Nat)≤bY)
 (e:k (.val (.own st.H.length)) { st with H:=st.H++[.arr true false false t (List.replicate n.toNat x.1)] } = some r):fG prog opn R T TI c s k r dst (.mks sz z bytes l cc):=by
 obtain⟨z1,rfl,z2,z3,z4,z5,z6⟩:=hz
 have hc:dB c a z:=(jS e1).1 z1
 rw[<-g.H]at e2 z5 z6
 obtain⟨pre,p1,p2⟩:=jM g.gh.blk e2 hc
 rw[hx,bA]at p1;subst p1
 obtain⟨u1,u2,p3,p4,p5⟩:=p2 false false (by rw[z5];simp) (by rw[z6];simp) (fun B hB=>by rw[z4]at hB;cases hB)
 rw[hx]at p5;simp only[dB]at p5;subst p5
 simp only[bA]at p3;subst p3
 have hlz:=(dB.len hc).1
 refine yM g (dI.repl p4 n.toNat) (n:=n.toNat) (by simp) ?_ e
 simp only[aT,hl,hcc,aB]
 rw[if_pos ⟨hn.1,Int.le_refl _,hn.2,z2,by omega⟩]
theorem Xc {sz:Nat} {z:List IV} {bytes:Nat} {l cc:SX} (e:iI cs opn ety icall T st dst (.mks sz z bytes l cc) k=some r):fG prog opn R T TI c s k r dst (.mks sz z bytes l cc):=by
 simp only[iI]at e
 split at e
 ·rename_i l' c'
  split at e
  ·rename_i hlc;subst hlc
   obtain⟨n,e1,e⟩:=aA.1 e
   obtain⟨iv,h1,h2⟩:=dV g.gf e1
   split at e
   ·rename_i n
    simp only[Va]at h2;subst h2
    obtain⟨a,e2,e⟩:=aA.1 e
    obtain⟨t,e3,e⟩:=aA.1 e
    split at e
    ·rename_i hz
     obtain⟨x,e4,e⟩:=aA.1 e
     split at e
     ·rename_i hx
      obtain⟨hn,e⟩:=dZ.1 e
      rw[decide_eq_true_eq]at hn
      exact Pm g h1 h1 e2 hz e4 hx hn e
     ·cases e
    ·cases e
   ·cases e
  ·cases e
 ·rename_i l' c'
  split at e
  ·rename_i hlc;subst hlc
   split at e
   ·rename_i n
    obtain⟨a,e2,e⟩:=aA.1 e
    obtain⟨t,e3,e⟩:=aA.1 e
    split at e
    ·rename_i hz
     obtain⟨x,e4,e⟩:=aA.1 e
     split at e
     ·rename_i hx
      obtain⟨hn,e⟩:=dZ.1 e
      rw[decide_eq_true_eq]at hn
      exact Pm g rfl rfl e2 hz e4 hx hn e
     ·cases e
    ·cases e
   ·cases e
  ·cases e
 ·cases e
end
end Go.Ideal
namespace Go.Ideal
theorem xV {cs:List IV} {off:Nat} {ps:List IV} (h:off+ps.length≤cs.length):(eH cs off ps).length=cs.length:=by
 simp only[eH,aV,bP,bW];omega
section
variable {Rr:Type} {prog:Nat->Option mO} {opn:Nat->Bool} {cs:Nat->Option Ct} {ety:Nat->Option Ty} {icall:Nat->List AV->eB->(AV->eB->Option Rr)->Option Rr}
 {R:lL} {T:List dP} {TI:List SV} {c:Cf} {st:gJ} {s:St} {k:dP->gJ->Option Rr} {r:Rr} {dst:Option Nat}
variable (g:G R T TI c st s)
include g
theorem Na {p:dP} {sv:SV} (v:cY c p sv) {vs:List AV} {us:List IV} (hv:dB c vs us) {K:gJ->Option Rr} (e:Jb st p vs K=some r):
 ∃st' s' c',K st'=some r/\storeAt s sv us=some s'/\G R T TI c' st' s'/\Le c c':=by
 unfold Jb at e
 split at e
 ·rename_i slot o
  cases sv<;>simp only[cY]at v
  obtain⟨rfl,rfl⟩:=v
  split at e
  ·rename_i l hl
   have hf:FR TI c (some (.box l)) _:=hl▸g.gf.fr _
   obtain⟨s',h1,h2⟩:=hf
   cases s'<;>simp only[cY]at h2
   split at e
   ·cases e
   rename_i hni
   rw[<-g.H]at e
   obtain⟨out,h3,h4,h5,_⟩:=xF g.gh.blk h2 hv e
   refine⟨_,(s.1.put _ (.box _),s.2),c,h3,by simp only[storeAt,h1];rw[if_pos ⟨h5,noIt h2 (by simpa using hni)⟩],⟨g.gh,rfl,g.h,Du g.gf (show cY c (.box _) (.box _) from h4)⟩,Le.refl c⟩
  ·cases e
 ·rename_i B o
  cases sv<;>simp only[cY,Va]at v
  rw[<-g.H]at e
  split at e
  next cs' hB'=>
   obtain⟨b,hm,rfl⟩:=v.2.obj hB'
   have br:=g.gh.blk B _ hB'
   simp only[BR]at br
   have hf:=br.1
   replace br:=br.2
   obtain⟨b',hm',ee,h1,hc⟩:=br
   rw[hm]at hm';injection hm' with hm';subst hm'
   obtain⟨out,q1,q2,q3,_⟩:=xF g.gh.blk hc hv e
   have hl:=xV q3
   obtain⟨c',hc',g',le⟩:=g.gh.set hB' rfl (x':=.obj true out) rfl trivial hm hf ⟨ee.length,[eH ee o.val us]⟩ fun c' hc' le=>by
    simp only[BR,true_and]
    refine⟨_,rfl,_,?_,q2.le le⟩
    rw[hc',hl];exact eK h1
   have hg:hget c.h b 1=some ⟨ee.length,[ee]⟩:=cZ.2 ⟨h1,rfl⟩
   refine⟨_,(s.1,s.2.set b (some ⟨ee.length,[eH ee o.val us]⟩)),c',q1,?_,⟨g',?_,?_,g.gf.le le⟩,le⟩
   ·simp only[storeAt,<-g.h,hg,aB,oE]
    rw[if_pos q3];rfl
   ·rw[hc',g.H]
   ·rw[hc',<-g.h]
  next=>cases e
 ·rename_i B i o
  cases sv<;>simp only[cY,Va]at v
  rcases v.2 with h|⟨wr,hp',ln',t',l',b,hB,hm,rfl,hi⟩
  ·rw[g.H]at h;rw[h]at e;cases e
  ·have hB':=hB
   rw[g.H]at hB;rw[hB]at e
   cases wr<;>simp only at e
   ·cases e
   ·have br:=g.gh.blk B _ hB'
    simp only[BR,hm]at br
    have hf:=br.1
    replace br:=br.2
    obtain⟨es,h1,h2⟩:=br
    split at e
    ·rename_i hr
     obtain⟨x,e2,e⟩:=aA.1 e
     obtain⟨u,h3,h4⟩:=h2.get e2
     rw[<-g.H]at e
     obtain⟨out,q1,q2,q3,q4,q5,q6⟩:=xF g.gh.blk (iD h4) hv e
     obtain⟨z,e3,q1⟩:=aA.1 q1
     split at q1
     ·rename_i hz
      obtain⟨pre,p1,p2⟩:=jM g.gh.blk e3 q2
      rw[hz,bA]at p1;subst p1
      obtain⟨u1,u2,p3,p4,p5⟩:=p2 (hp'||oG c.H vs) (ln'||nB c.H vs)
       (fun hh=>by rcases q4 hh with h|h;rw[sZ h];rfl;rw[h,Np])
       (fun hh=>by rcases q5 hh with h|h;rw[sX h];rfl;rw[h,Np])
       (fun B hB=>by rw[q6 mT hr]at hB;cases hB)
      rw[hz]at p5;simp only[dB]at p5;subst p5
      simp only[bA]at p3
      obtain⟨c',hc',g',le⟩:=g.gh.set hB' rfl (x':=.arr true (hp'||oG c.H vs) (ln'||nB c.H vs) t' (l'.set i z.1)) rfl (by simp[eD]) hm hf ⟨t'.n,es.set i (eH u o.val us)⟩ fun c' hc' le=>by
       simp only[BR,true_and]
       refine⟨es.set i (eH u o.val us),?_,dI.set ?_ i (h2.imp fun a b h=>TR.le le (TR.flags (by simp;exact fun h=>.inl h) (by simp;exact fun h=>.inl h) h))⟩
       ·rw[hc'];exact eK h1
       ·rw[p3];exact TR.le le p4
      have hg:hget c.h b l'.length=some ⟨t'.n,es⟩:=cZ.2 ⟨h1,h2.len⟩
      refine⟨_,(s.1,s.2.set b (some ⟨t'.n,es.set i (eH u o.val us)⟩)),c',q1,?_,⟨g',?_,?_,g.gf.le le⟩,le⟩
      ·simp only[storeAt,<-g.h,hg,aB,h3]
       rw[if_pos q3]
      ·rw[hc',g.H]
      ·rw[hc',<-g.h]
     ·cases q1
    ·obtain⟨x,e2,e⟩:=aA.1 e
     obtain⟨u,h3,h4⟩:=h2.get e2
     rw[<-g.H]at e
     obtain⟨out,q1,q2,q3,q4,q5,q6⟩:=xF g.gh.blk (iD h4) hv e
     obtain⟨z,e3,q1⟩:=aA.1 q1
     split at q1
     ·rename_i hz
      split at q1
      ·cases q1
      rename_i hno
      simp only[iA,decide_eq_true_eq]at hno
      obtain⟨H',e5,q1⟩:=aA.1 q1
      obtain⟨Z',g1,le1,z1,z2,z3,hH'⟩:=g.gh.frzL e5
      obtain⟨leZ,brZ⟩:=Le.ofZ z1 g.gh.blk
      obtain⟨pre,p1,p2⟩:=jM (c:={ c with Z:=Z' }) brZ e3 (q2.le leZ)
      rw[hz,bA]at p1;subst p1
      obtain⟨u1,u2,p3,p4,p5⟩:=p2 true true (fun _=>rfl) (fun _=>rfl) (fun B hB b hb=>z2 B hB b hb)
      rw[hz]at p5;simp only[dB]at p5;subst p5
      simp only[bA]at p3
      have hB1:({ c with H:=H',Z:=Z' }:Cf).H[B]? = some (.arr true hp' ln' t' l'):=(z3 B hno).trans hB'
      obtain⟨c',hc',g',le⟩:=g1.set hB1 rfl (x':=.arr true true true t' (l'.set i z.1)) rfl (by simp[eD]) hm hf ⟨t'.n,es.set i (eH u o.val us)⟩ fun c' hc' le=>by
       simp only[BR,true_and]
       refine⟨es.set i (eH u o.val us),?_,dI.set ?_ i (h2.imp fun a b h=>TR.le (le1.trans le) (TR.flags (by simp) (by simp) h))⟩
       ·rw[hc'];exact eK h1
       ·rw[p3];exact TR.le le p4
      have hg:hget c.h b l'.length=some ⟨t'.n,es⟩:=cZ.2 ⟨h1,h2.len⟩
      refine⟨_,(s.1,s.2.set b (some ⟨t'.n,es.set i (eH u o.val us)⟩)),c',q1,?_,⟨g',?_,?_,(g.gf.le le1).le le⟩,le1.trans le⟩
      ·simp only[storeAt,<-g.h,hg,aB,h3]
       rw[if_pos q3]
      ·rw[hc']
      ·rw[hc',<-g.h]
     ·cases q1
 ·cases e
theorem Pc {n:Nat} {p x:SX} (e:iI cs opn ety icall T st dst (.store n p x) k=some r):fG prog opn R T TI c s k r dst (.store n p x):=by
 simp only[iI]at e
 obtain⟨a,e1,e⟩:=aA.1 e
 obtain⟨b,e2,e⟩:=aA.1 e
 obtain⟨vs,e3,e⟩:=aA.1 e
 obtain⟨sv,h1,h2⟩:=kA g.gf e1
 obtain⟨iv,h3,h4⟩:=dV g.gf e2
 obtain⟨us,h5,h6⟩:=uL h4 e3
 split at e
 ·rename_i hn
  obtain⟨st',s',c',q1,q2,q3,q4⟩:=Na g h2 h6 e
  refine⟨.val (.tup []),s',?_,.val (.tup []),st',c',q3,q4,by simp[cY,Va,jP],q1⟩
  simp only[aT,h1,h3,h5,aB]
  rw[if_pos (by rw[(dB.len h6).1,hn]),q2];rfl
 ·cases e
theorem Xa {sz:Nat} {x:SX} {lo hi mx:Option SX} (e:iI cs opn ety icall T st dst (.slL sz x lo hi mx) k=some r):fG prog opn R T TI c s k r dst (.slL sz x lo hi mx):=by
 simp only[iI]at e
 obtain⟨a,e1,e'⟩:=aA.1 e
 clear e;have e:=e';clear e'
 obtain⟨n,e2,e'⟩:=aA.1 e
 clear e;have e:=e';clear e'
 obtain⟨iv,h1,h2⟩:=dV g.gf e1
 obtain⟨l,h3,e'⟩:=qD g e
 clear e;have e:=e';clear e'
 obtain⟨rr,h4,e'⟩:=qD g e
 clear e;have e:=e';clear e'
 have hlen:=Eg g.H g.gh.blk h2 e2
 cases mx with
 |none=>
  simp only at e
  cases a
  case nils=>
   simp only at e
   obtain⟨hc,e⟩:=dZ.1 e
   rw[decide_eq_true_eq]at hc
   simp only[Va]at h2
   refine .same g (sv:=.val iv) ?_ (by simp only[cY,Va];exact h2) e
   simp only[aT,h1,h3,aB,hlen,h4]
   rcases h2 with rfl|rfl<;>simp only[if_pos hc]
  case lst hp ln t b=>
   simp only at e
   split at e
   ·rename_i hsz
    subst hsz
    obtain⟨hc,e⟩:=dZ.1 e
    rw[decide_eq_true_eq]at hc
    simp only[Va,TR]at h2
    obtain⟨iv',hh,h2⟩:=h2
    simp at hh;subst hh
    rcases h2 with ⟨rfl,h2⟩|⟨bo,es,rfl,h5,h2⟩|⟨hpt,b',tot,off,len,cap,kk,rfl,hz,hg,hks,⟨hb1,hb2⟩,hes⟩
    ·simp only[iL,Nat.le_zero_eq]at hc
     obtain⟨hc1,rfl⟩:=hc
     have:l=0:=by omega
     subst this
     refine .same g (sv:=.val iv) ?_ (by simp only[cY,Va,TR];exact⟨iv,rfl,.inl ⟨by simp,h2⟩⟩) e
     simp only[aT,h1,h3,aB,hlen,h4]
     rcases h2 with rfl|rfl<;>simp
    ·refine .same g (sv:=.val (.ro bo ((es.drop l).take (rr-l)))) ?_ (by simp only[cY,Va,TR];exact⟨_,rfl,.inr (.inl ⟨bo,_,rfl,h5,(h2.drop l).take (rr-l)⟩)⟩) e
     simp only[aT,h1,h3,aB,hlen,h4]
     rw[if_pos ⟨hc.1,by rw[h2.len];exact hc.2,TR.sz h2⟩]
    ·have hl:=hes.len
     have hk:=(cZ.1 hg).2
     simp only[bP,bW]at hl
     have hl':b.length=len:=by omega
     refine .same g (sv:=.val (.sl b' tot (off+l) (rr-l) (cap-l))) ?_ (by
      simp only[cY,Va,TR]
      refine⟨_,rfl,.inr (.inr ⟨hpt,b',tot,_,_,_,kk,rfl,hz,hg,hks,⟨by omega,by omega⟩,?_⟩)⟩
      have:=(hes.drop l).take (rr-l)
      rw[List.drop_take,oX,cM,show min (rr-l) (len-l)=rr-l by omega]at this
      exact this) e
     simp only[aT,h1,h3,aB,hlen,h4,<-g.h,hg]
     rw[if_pos ⟨hc.1,by omega,hks⟩]
   ·cases e
  case own B=>
   simp only at e
   simp only[Va]at h2
   rcases h2.2 with h|⟨wr,hp',ln',t',l',hB,h2⟩
   ·rw[g.H]at h;rw[h]at e;cases e
   ·have hB':=hB
    rw[g.H]at hB;rw[hB]at e;simp only at e
    split at e
    ·rename_i hsz;subst hsz
     obtain⟨hc,e⟩:=dZ.1 e
     rw[decide_eq_true_eq]at hc
     have br:=g.gh.blk B _ hB'
     simp only[BR]at br
     replace br:=br.2
     cases hm:c.m B with
     |none=>
      rw[hm]at br h2;simp only[fC]at br h2;subst br
      simp only[iL,Nat.le_zero_eq]at hc
      obtain⟨hc1,rfl⟩:=hc
      have:l=0:=by omega
      subst this
      refine .same g (sv:=.val iv) ?_ (by simp only[cY,Va];exact⟨by rcases h2 with rfl|rfl<;>rfl,.inr ⟨wr,hp',ln',t',[],hB',by simp[tJ,hm,h2]⟩⟩) e
      simp only[aT,h1,h3,aB,hlen,h4]
      rcases h2 with rfl|rfl<;>simp
     |some b'=>
      rw[hm]at br h2;simp only[fC]at br h2;subst h2
      obtain⟨es,h6,h7⟩:=br
      have hg:hget c.h b' l'.length=some ⟨t'.n,es⟩:=cZ.2 ⟨h6,h7.len⟩
      refine .same g (sv:=.val (.sl b' l'.length (0+l) (rr-l) (l'.length-l))) ?_ (by simp only[cY,Va];exact⟨rfl,.inr ⟨wr,hp',ln',t',l',hB',by simp only[tJ,hm,bV,and_true];omega⟩⟩) e
      simp only[aT,h1,h3,aB,hlen,h4,<-g.h,hg]
      rw[if_pos ⟨hc.1,hc.2,trivial⟩]
    ·cases e
  case sub B off len cap=>
   simp only at e
   simp only[Va]at h2
   rcases h2.2 with h|⟨wr,hp',ln',t',l',hB,h2⟩
   ·rw[g.H]at h;rw[h]at e;cases e
   ·have hB':=hB
    rw[g.H]at hB;rw[hB]at e;simp only at e
    split at e
    ·rename_i hsz;subst hsz
     obtain⟨hc,e⟩:=dZ.1 e
     rw[decide_eq_true_eq]at hc
     have br:=g.gh.blk B _ hB'
     simp only[BR]at br
     replace br:=br.2
     obtain⟨h2a,h2b,h2⟩:=h2
     cases hm:c.m B with
     |none=>
      rw[hm]at br h2;simp only at br h2;subst br
      obtain⟨h2c,rfl,rfl⟩:=h2
      simp only[iL]at h2a
      have hcap:cap=0:=by omega
      subst hcap
      have:rr=0:=by omega
      subst this
      have:l=0:=by omega
      subst this
      refine .same g (sv:=.val iv) ?_ (by simp only[cY,Va];exact⟨by rcases h2c with rfl|rfl<;>rfl,.inr ⟨wr,hp',ln',t',[],hB',by simp[tJ,hm,h2c]⟩⟩) e
      simp only[aT,h1,h3,aB,hlen,h4]
      rcases h2c with rfl|rfl<;>simp
     |some b'=>
      rw[hm]at br h2;simp only at br h2;subst h2
      obtain⟨es,h6,h7⟩:=br
      have hg:hget c.h b' l'.length=some ⟨t'.n,es⟩:=cZ.2 ⟨h6,h7.len⟩
      refine .same g (sv:=.val (.sl b' l'.length (off+l) (rr-l) (cap-l))) ?_ (by simp only[cY,Va];exact⟨rfl,.inr ⟨wr,hp',ln',t',l',hB',by simp only[tJ,hm,and_true];omega⟩⟩) e
      simp only[aT,h1,h3,aB,hlen,h4,<-g.h,hg]
      rw[if_pos ⟨hc.1,hc.2,trivial⟩]
    ·cases e
  all_goals (simp only at e;cases e)
 |some m=>
  simp only at e
  obtain⟨mv,e3,e'⟩:=aA.1 e
  clear e;have e:=e';clear e'
  obtain⟨ivm,h5,h6⟩:=dV g.gf e3
  obtain⟨m',h7,e'⟩:=qE h6 e
  clear e;have e:=e';clear e'
  have fin:∀{e':cut (decide (l=0/\rr=0/\m'=0)) (k (.val .nils) st)=some r},(iv = .nils\/iv = .esl\/(∃b es,iv = .ro b es)\/∃a b c d e,iv = .sl a b c d e)->fG prog opn R T TI c s k r dst (.slL sz x lo hi (some m)):=by
   intro e' hiv
   obtain⟨hc,e''⟩:=dZ.1 e'
   rw[decide_eq_true_eq]at hc
   rcases hiv with rfl|rfl|⟨_,_,rfl⟩|⟨_,_,_,_,_,rfl⟩
   ·exact .same g (sv:=.val .nils) (by simp only[aT,h1,h3,aB,hlen,h4,h5,h7,if_pos hc]) (by simp[cY,Va]) e''
   ·exact .same g (sv:=.val .esl) (by simp only[aT,h1,h3,aB,hlen,h4,h5,h7,if_pos hc]) (by simp[cY,Va]) e''
   ·exact .same g (sv:=.val .esl) (by simp only[aT,h1,h3,aB,hlen,h4,h5,h7,if_pos hc]) (by simp[cY,Va]) e''
   ·exact .same g (sv:=.val .esl) (by simp only[aT,h1,h3,aB,hlen,h4,h5,h7,if_pos hc]) (by simp[cY,Va]) e''
  cases a
  case nils=>
   simp only[Va]at h2
   exact fin (e':=e) (by rcases h2 with h|h;exact .inl h;exact .inr (.inl h))
  case lst hp ln t l0=>
   simp only[Va,TR]at h2
   obtain⟨iv',h,h2⟩:=h2
   simp at h;subst h
   have three:∀(q:(if t.n=sz then cut (decide (l≤rr/\rr≤m'/\m'≤l0.length)) (k (.val (.lst hp ln t ((l0.drop l).take (rr-l)))) st) else none)=some r),fG prog opn R T TI c s k r dst (.slL sz x lo hi (some m)):=by
    intro q
    split at q
    ·rename_i hsz
     subst hsz
     obtain⟨hc,q⟩:=dZ.1 q
     rw[decide_eq_true_eq]at hc
     by_cases hz:l=0/\rr=0/\m'=0
     ·obtain⟨rfl,rfl,rfl⟩:=hz
      have hval:∀iv:IV,iv = .nils\/iv = .esl->cY c (.val (.lst hp ln t ((l0.drop 0).take (0-0)))) (.val iv):=fun iv h=>by
       simp only[cY,Va,TR];exact⟨_,rfl,.inl ⟨by simp,h⟩⟩
      rcases h2 with ⟨_,rfl|rfl⟩|⟨_,_,rfl,_⟩|⟨_,_,_,_,_,_,_,rfl,_⟩
      ·exact .same g (sv:=.val .nils) (by simp only[aT,h1,h3,aB,hlen,h4,h5,h7,and_self,if_true]) (hval _ (.inl rfl)) q
      ·exact .same g (sv:=.val .esl) (by simp only[aT,h1,h3,aB,hlen,h4,h5,h7,and_self,if_true]) (hval _ (.inr rfl)) q
      ·exact .same g (sv:=.val .esl) (by simp only[aT,h1,h3,aB,hlen,h4,h5,h7,and_self,if_true]) (hval _ (.inr rfl)) q
      ·exact .same g (sv:=.val .esl) (by simp only[aT,h1,h3,aB,hlen,h4,h5,h7,and_self,if_true]) (hval _ (.inr rfl)) q
     ·rcases h2 with ⟨rfl,h2⟩|⟨bo,es,rfl,h5',h2⟩|⟨hpt,b',tot,off,len,cap,kk,rfl,hz',hg,hks,⟨hb1,hb2⟩,hes⟩
      ·simp only[iL]at hc
       exact(hz ⟨by omega,by omega,by omega⟩).elim
      ·refine .same g (sv:=.val (.ro bo ((es.drop l).take (rr-l)))) ?_ (by simp only[cY,Va,TR];exact⟨_,rfl,.inr (.inl ⟨bo,_,rfl,h5',(h2.drop l).take (rr-l)⟩)⟩) q
       simp only[aT,h1,h3,aB,hlen,h4,h5,h7]
       rw[if_neg hz,if_pos ⟨hc.1,hc.2.1,by rw[h2.len];exact hc.2.2,TR.sz h2⟩]
      ·have hl:=hes.len
       have hk:=(cZ.1 hg).2
       simp only[bP,bW]at hl
       have hl':l0.length=len:=by omega
       refine .same g (sv:=.val (.sl b' tot (off+l) (rr-l) (m'-l))) ?_ (by
        simp only[cY,Va,TR]
        refine⟨_,rfl,.inr (.inr ⟨hpt,b',tot,_,_,_,kk,rfl,hz',hg,hks,⟨by omega,by omega⟩,?_⟩)⟩
        have:=(hes.drop l).take (rr-l)
        rw[List.drop_take,oX,cM,show min (rr-l) (len-l)=rr-l by omega]at this
        exact this) q
       simp only[aT,h1,h3,aB,hlen,h4,h5,h7]
       rw[if_neg hz,<-g.h,hg]
       simp only[aB]
       rw[if_pos ⟨hc.1,hc.2.1,by omega,hks⟩]
    ·cases q
   cases m
   case t=>exact three e
   case f=>exact three e
   refine fin (e':=e) ?_
   rcases h2 with ⟨_,h|h⟩|⟨_,_,h,_⟩|⟨_,_,_,_,_,_,_,h,_⟩
   ·exact .inl h
   ·exact .inr (.inl h)
   ·exact .inr (.inr (.inl ⟨_,_,h⟩))
   ·exact .inr (.inr (.inr ⟨_,_,_,_,_,h⟩))
  case own B=>
   simp only[Va]at h2
   rcases h2.2 with h|⟨_,_,_,_,_,hB,h⟩
   ·rw[g.H]at h;simp only[uV,h]at e2;cases e2
   ·refine fin (e':=e) ?_
    unfold fC at h
    split at h
    ·rcases h with h|h
     ·exact .inl h
     ·exact .inr (.inl h)
    ·exact .inr (.inr (.inr ⟨_,_,_,_,_,h⟩))
  case sub B _ _ _=>
   simp only[Va]at h2
   rcases h2.2 with h|⟨_,_,_,_,_,hB,h⟩
   ·rw[g.H]at h;simp only[uV,h]at e2;cases e2
   ·refine fin (e':=e) ?_
    obtain⟨_,_,h⟩:=h
    split at h
    ·rcases h.1 with h|h
     ·exact .inl h
     ·exact .inr (.inl h)
    ·exact .inr (.inr (.inr ⟨_,_,_,_,_,h⟩))
  all_goals (simp only at e;cases e)
theorem Ks {op:gQ} {t:Ty} {bytes:Nat} {hp0 ln0:Bool} {new:List t.den} {es:List (List IV)} {a:AV} {ix iy:IV} (h2:Va c a ix) (hpos:0<t.n) (h5':fF s.2 t.n iy=some es) (h6:dI (TR c.p c.Z c.h ln0 t hp0) new es)
 (hev:∀iv' h',append s.2 t.n bytes ix iy=some (iv',h')->aT (eC prog opn) opn dst op s=some (.val iv',(s.1,h'))) (e:Kz t bytes hp0 ln0 new a st k=some r):fG prog opn R T TI c s k r dst op:=by
 unfold Kz at e
 have hl:=h6.len
 cases a
 case nils=>
  simp only at e
  obtain⟨hc,e'⟩:=dZ.1 e
  clear e;have e:=e';clear e'
  rw[decide_eq_true_eq]at hc
  simp only[Va]at h2
  by_cases hn:new=[]
  ·subst hn
   have:es=[]:=bK.1 hl
   subst this
   obtain⟨c',hc',g',le⟩:=g.gh.pushNil (hp0) (ln0) t
   rw[<-g.H]at e
   refine⟨.val ix,s,?_,.val (.own c.H.length),{ st with H:=c.H++[.arr true (hp0) (ln0) t []] },c',⟨g',?_,?_,g.gf.le le⟩,le,?_,e⟩
   ·refine hev ix s.2 ?_
    simp only[append,h5',aB,if_neg (show ¬t.n=0 by omega)]
    rcases h2 with rfl|rfl<;>simp
   ·rw[hc']
   ·rw[hc',g.h]
   ·simp only[cY,Va]
    refine⟨by rcases h2 with rfl|rfl<;>rfl,.inr ⟨true,_,_,t,[],by rw[hc'];exact nN,by rw[hc'];simp[pA,fC,h2]⟩⟩
  ·have hes:es≠[]:=by intro h;subst h;exact hn (bK.1 hl.symm)
   rw[<-g.H]at e
   refine yM g h6 (n:=es.length) rfl ?_ (by rw[<-g.H];exact e)
   refine hev _ _ ?_
   simp only[append,h5',aB,if_neg (show ¬t.n=0 by omega)]
   rcases h2 with rfl|rfl<;>simp only[if_neg hes,hl,if_pos hc]<;>rfl
 case own B=>
  simp only at e
  simp only[Va]at h2
  rcases h2.2 with h|⟨wr,hp',ln',t',l',hB,h2'⟩
  ·rw[g.H]at h;rw[h]at e;cases e
  ·have hB':=hB
   rw[g.H]at hB;rw[hB]at e
   cases wr<;>simp only at e
   ·cases e
   split at e
   ·rename_i htt;subst htt
    obtain⟨hc,e'⟩:=dZ.1 e
    clear e;have e:=e';clear e'
    rw[decide_eq_true_eq]at hc
    simp only[pK]at e
    have br:=g.gh.blk B _ hB'
    simp only[BR]at br
    replace br:=br.2
    rw[<-g.H]at e
    have fl1:∀{l es},dI (TR c.p c.Z c.h ln' t' hp') l es->dI (TR c.p c.Z c.h (ln'||ln0) t' (hp'||hp0)) l es:=fun h=>h.imp fun a b h=>TR.flags (by simp;exact fun h=>.inl h) (by simp;exact fun h=>.inl h) h
    have fl2:=h6.imp (q:=TR c.p c.Z c.h (ln'||ln0) t' (hp'||hp0)) fun a b h=>TR.flags (by simp;exact fun h=>.inr h) (by simp;exact fun h=>.inr h) h
    have fin:∀(mb:Option Nat) (h':aN) (iv':IV),c.h.length≤h'.length->(∀i,i<c.h.length->c.m B≠some i->h'[i]? = c.h[i]?)->(∀b,mb=some b->c.m B=some b\/c.h.length≤b)->
     (match mb with|none=>l'++new=[]|some b0=>∃es',h'[b0]? = some (some ⟨t'.n,es'⟩)/\dI (TR c.p c.Z c.h (ln'||ln0) t' (hp'||hp0)) (l'++new) es')->
     append s.2 t'.n bytes ix iy=some (iv',h')->iv'.onc=true->fC mb (l'++new).length iv'->fG prog opn R T TI c s k r dst op:=by
     intro mb h' iv' q1 q2 q3 q4 q5 q6 q7
     obtain⟨c',hc',g',le⟩:=g.gh.ren hB' rfl (x':=.arr true (hp'||hp0) (ln'||ln0) t' (l'++new)) rfl mb h' q1 q2 q3 (fun b hb=>by subst hb;obtain⟨_,h,_⟩:=q4;exact cF h) fun c' hc' le=>by
      simp only[BR,true_and]
      cases mb with
      |none=>exact q4
      |some b0=>
       obtain⟨es',q8,q9⟩:=q4
       exact⟨es',by rw[hc'];exact q8,q9.imp fun a b h=>TR.le le h⟩
     refine⟨.val iv',(s.1,h'),?_,.val (.own c.H.length),{ st with H:=c.H.set B .gone++[.arr true (hp'||hp0) (ln'||ln0) t' (l'++new)] },c',⟨g',?_,?_,g.gf.le le⟩,le,?_,e⟩
     ·exact hev _ _ q5
     ·rw[hc']
     ·rw[hc']
     ·simp only[cY,Va]
      refine⟨q6,.inr ⟨true,hp'||hp0,ln'||ln0,t',l'++new,?_,?_⟩⟩
      ·rw[hc']
       have:(c.H.set B .gone).length=c.H.length:=by simp
       rw[<-this];exact nN
      ·rw[hc'];simp only[pA,if_true];exact q7
    have happ:∀{z},append s.2 t'.n bytes ix iy=z↔append c.h t'.n bytes ix iy=z:=by intro z;rw[g.h]
    cases hm:c.m B with
    |none=>
     rw[hm]at br h2';simp only[fC]at br h2';subst br
     by_cases hn:new=[]
     ·subst hn
      have:es=[]:=bK.1 hl
      subst this
      refine fin none s.2 ix (by rw[g.h];exact aK _) (fun i _ _=>by rw[g.h]) (by simp) (by simp) ?_ h2.1 (by simpa [fC]using h2')
      simp only[append,h5',aB,if_neg (show ¬t'.n=0 by omega)]
      rcases h2' with rfl|rfl<;>simp
     ·have hes:es≠[]:=by intro h;subst h;exact hn (bK.1 hl.symm)
      refine fin (some s.2.length) (s.2++[some ⟨t'.n,es⟩]) (.sl s.2.length es.length 0 es.length es.length) (by rw[g.h];simp) (fun i hi _=>by rw[g.h]at hi |-;exact bC hi)
       (fun b0 hb0=>by simp at hb0;subst hb0;rw[g.h];exact .inr (aK _)) ⟨es,by simp,by simpa using fl2⟩ ?_ rfl (by simp[fC,hl])
      simp only[append,h5',aB,if_neg (show ¬t'.n=0 by omega)]
      have hc':es.length*(bytes+1)≤bY:=by rw[hl];simpa using hc
      rcases h2' with rfl|rfl<;>simp only[if_neg hes,if_pos hc']
    |some b0=>
     rw[hm]at br h2';simp only[fC]at br h2';subst h2'
     obtain⟨es0,q1,q2⟩:=br
     have hl0:=q2.len
     have hg:hget s.2 b0 l'.length=some ⟨t'.n,es0⟩:=by rw[<-g.h];exact cZ.2 ⟨q1,hl0⟩
     by_cases hn:new=[]
     ·subst hn
      have:es=[]:=bK.1 hl
      subst this
      refine fin (some b0) s.2 (.sl b0 l'.length 0 l'.length l'.length) (by rw[g.h];exact aK _) (fun i _ _=>by rw[g.h]) (fun b1 hb1=>.inl (by rw[hm];exact hb1)) ⟨es0,by rw[<-g.h];exact q1,by simpa using fl1 q2⟩ ?_ rfl (by simp[fC])
      simp only[append,h5',aB,if_neg (show ¬t'.n=0 by omega),hg]
      rw[if_pos ⟨trivial,aK _,by omega⟩];simp
     ·have hes:es≠[]:=by intro h;subst h;exact hn (bK.1 hl.symm)
      have hpos':0<es.length:=fN.2 hes
      refine fin (some b0) (s.2.set b0 (some ⟨t'.n,es0++es⟩)) (.sl b0 (l'.length+es.length) 0 (l'.length+es.length) (l'.length+es.length)) (by rw[g.h];simp)
       (fun i hi hne=>by rw[g.h];exact bX (fun h=>hne (by rw[h];exact hm))) (fun b1 hb1=>.inl (by rw[hm];exact hb1)) ⟨es0++es,by rw[g.h]at q1;exact eK q1,(fl1 q2).app fl2⟩ ?_ rfl (by simp[fC,hl])
      simp only[append,h5',aB,if_neg (show ¬t'.n=0 by omega),hg]
      rw[if_pos ⟨trivial,aK _,by omega⟩,if_neg hes,if_neg (by omega),if_pos (by rw[hl];exact hc),if_pos ⟨by omega,trivial⟩]
      have:List.take l'.length es0=es0:=by rw[<-hl0,eX]
      rw[this]
   ·cases e
 all_goals (simp only at e;cases e)
theorem Xo {sz bytes:Nat} {x y:SX} (e:iI cs opn ety icall T st dst (.app sz bytes x y) k=some r):fG prog opn R T TI c s k r dst (.app sz bytes x y):=by
 simp only[iI]at e
 obtain⟨a,e1,e'⟩:=aA.1 e
 clear e;have e:=e';clear e'
 obtain⟨b,e2,e'⟩:=aA.1 e
 clear e;have e:=e';clear e'
 obtain⟨t,e3,e'⟩:=aA.1 e
 clear e;have e:=e';clear e'
 split at e
 ·rename_i ht
  obtain⟨ht,hpos⟩:=ht
  subst ht
  obtain⟨new,e4,e'⟩:=aA.1 e
  clear e;have e:=e';clear e'
  obtain⟨ix,h1,h2⟩:=dV g.gf e1
  obtain⟨iy,h3,h4⟩:=dV g.gf e2
  rw[<-g.H]at e4
  obtain⟨es,h5,h6⟩:=vN g.gh.blk e4 h4
  have h5':fF s.2 t.n iy=some es:=by rw[<-g.h];exact h5
  rw[<-g.H]at e
  rw[g.H]at h6 e
  exact Ks g h2 hpos h5' h6 (fun iv' h' hh=>by simp only[aT,h1,h3,aB,hh]) e
 ·cases e
theorem Tl {sz bytes:Nat} {z:List IV} {x n:SX} (e:iI cs opn ety icall T st dst (.appz sz bytes z x n) k=some r):fG prog opn R T TI c s k r dst (.appz sz bytes z x n):=by
 simp only[iI]at e
 obtain⟨a,e1,e'⟩:=aA.1 e
 clear e;have e:=e';clear e'
 obtain⟨nv,e2,e'⟩:=aA.1 e
 clear e;have e:=e';clear e'
 obtain⟨zc,e3,e'⟩:=aA.1 e
 clear e;have e:=e';clear e'
 obtain⟨t,e5,e'⟩:=aA.1 e
 clear e;have e:=e';clear e'
 split at e
 ·rename_i hz
  obtain⟨z1,rfl,hpos,z3,z4,z5,z6⟩:=hz
  obtain⟨v,e4,e'⟩:=aA.1 e
  clear e;have e:=e';clear e'
  split at e
  ·rename_i m hv
   obtain⟨hm,e⟩:=dZ.1 e
   rw[decide_eq_true_eq]at hm
   obtain⟨ix,h1,h2⟩:=dV g.gf e1
   obtain⟨iy,h3,h4⟩:=dV g.gf e2
   simp only[Va]at h4
   subst h4
   rw[<-g.H]at e4 z5 z6
   have hc:dB c zc z:=(jS e3).1 z1
   obtain⟨pre,p1,p2⟩:=jM g.gh.blk e4 hc
   rw[hv,bA]at p1;subst p1
   obtain⟨u1,u2,p3,p4,p5⟩:=p2 false false (by rw[z5];simp) (by rw[z6];simp) (fun B hB=>by rw[z4]at hB;cases hB)
   rw[hv]at p5;simp only[dB]at p5;subst p5
   simp only[bA]at p3;subst p3
   have hlz:z.length=t.n:=by have:=(dB.len hc).1;omega
   have hel:fF s.2 t.n (.ro false (List.replicate m.toNat z))=some (List.replicate m.toNat z):=by
    simp only[fF]
    rw[if_pos]
    rw[bE]
    intro e he
    rw[cA he];simpa using hlz
   exact Ks g h2 hpos hel (dI.repl p4 m.toNat) (fun iv' h' hh=>by
    simp only[aT,h1,h3,aB]
    rw[if_pos ⟨hm.1,hm.2,hlz⟩,hh];rfl) e
  ·cases e
 ·cases e
end
end Go.Ideal
namespace Go.Ideal
theorem Jd {p:Bool} {Z:Nat->Prop} {h:aN} {rt:Nat->Option Nat}:∀{t:Ty} {x:t.den} {c:List IV} {L:Lo},t.pur=true->TF p Z h rt t x c L->TR p Z h true t true x c/\L=[]
 |.pair a b,x,c,L,hp,e=>by
  simp only[TF]at e
  simp only[Ty.pur,aF]at hp
  obtain⟨u,v,M,N,rfl,rfl,h1,h2⟩:=e
  obtain⟨q1,rfl⟩:=Jd hp.1 h1
  obtain⟨q2,rfl⟩:=Jd hp.2 h2
  exact⟨⟨u,v,rfl,q1,q2⟩,rfl⟩
 |.ow k t,x,c,L,hp,e=>by cases hp
 |.int k,x,c,L,hp,e=>by simpa only[TF]using e
 |.bool,x,c,L,hp,e=>by simpa only[TF]using e
 |.str,x,c,L,hp,e=>by simpa only[TF]using e
 |.unit,x,c,L,hp,e=>by simpa only[TF]using e
 |.lst t,x,c,L,hp,e=>by simpa only[TF]using e
 |.arr n t,x,c,L,hp,e=>by simpa only[TF]using e
theorem wG {p:Bool} {Z:Nat->Prop} {h:aN} {rt:Nat->Option Nat}:∀{t:Ty} {x:t.den} {c:List IV},t.pur=true->TR p Z h true t true x c->TF p Z h rt t x c []
 |.pair a b,x,c,hp,e=>by
  simp only[Ty.pur,aF]at hp
  obtain⟨u,v,rfl,h1,h2⟩:=e
  exact⟨u,v,[],[],rfl,rfl,wG hp.1 h1,wG hp.2 h2⟩
 |.ow k t,x,c,hp,e=>by cases hp
 |.int k,x,c,hp,e=>by simp only[TF,and_true];exact e
 |.bool,x,c,hp,e=>by simp only[TF,and_true];exact e
 |.str,x,c,hp,e=>by simp only[TF,and_true];exact e
 |.unit,x,c,hp,e=>by simp only[TF,and_true];exact e
 |.lst t,x,c,hp,e=>by simp only[TF,and_true];exact e
 |.arr n t,x,c,hp,e=>by simp only[TF,and_true];exact e
theorem Ac {p:Bool} {Z:Nat->Prop} {h:aN} {rt:Nat->Option Nat} {t:Ty} (hp:t.pur=true):∀{x:List t.den} {c:List (List IV)} {L:List Lo},kK (TF p Z h rt t) x c L->dI (TR p Z h true t true) x c/\cS L.flatten=[]
 |[],[],[],_=>⟨trivial,rfl⟩
 |a::x,b::c,M::L,e=>by
  obtain⟨h1,rfl⟩:=Jd hp e.1
  obtain⟨h2,h3⟩:=Ac hp e.2
  exact⟨⟨h1,h2⟩,by simpa using h3⟩
 |[],_::_,_,h=>h.elim
 |[],[],_::_,h=>h.elim
 |_::_,[],_,h=>h.elim
 |_::_,_::_,[],h=>h.elim
theorem TR.hlf {p:Bool} {Z:Nat->Prop} {h:aN} {t:Ty} {x:t.den} {c:List IV} (e:TR p Z h true t true x c):TR p Z h (!t.flat) t (!t.flat) x c:=by
 cases hf:t.flat with
 |true=>exact TR.flat hf e
 |false=>exact e
theorem TR.hf {p:Bool} {Z:Nat->Prop} {h:aN} {ln:Bool} {t:Ty} {x:t.den} {c:List IV} (e:TR p Z h ln t true x c):TR p Z h ln t (!t.flat) x c:=by
 cases hf:t.flat with
 |true=>exact TR.flat hf e
 |false=>exact e
def Ni (p:Bool) (Z:Nat->Prop) (h:aN) (rt:Nat->Option Nat) (z:Option jY) (q:Option Nat×List Nat):Prop:=
 ∃y,z=some y/\y.wr=true/\∀c:Cf,c.p=p->c.Z=Z->c.h=h->c.rt=rt->BR c y q.1 q.2
structure Hn (p:Bool) (Z:Nat->Prop) (h:aN) (rt:Nat->Option Nat) (ro:Nat->Option Nat) (c:Cf) (lo:Nat) (H:eB) (L:Lo):Prop where
 p:c.p=p
 Z:c.Z=Z
 h:c.h=h
 rt:c.rt=rt
 ro:∀i B,ro i=some B->c.rt i=c.m B/\c.rt i≠none/\∃y,c.H[B]? = some y/\(match y with
  |.gone=>True
  |.obj ..=>True
  |.fold ..=>True
  |_=>False)
 H:∀i,lo≤i->i<H.length->c.H[i]? = H[i]?
 m:∀j q,L[j]? = some q->c.m (lo+j)=q.1/\c.f (lo+j)=q.2
theorem Hn.left {p Z h rt ro} {c:Cf} {lo:Nat} {H H':eB} {L L':Lo} (a:Hn p Z h rt ro c lo H' (L++L')) (hl:H.length=lo+L.length) (hs:∀i,lo≤i->i<H.length->H'[i]? = H[i]?) (hle:H.length≤H'.length):Hn p Z h rt ro c lo H L:=
 ⟨a.p,a.Z,a.h,a.rt,a.ro,fun i hi hl'=>by rw[a.H i hi (by omega),hs i hi hl'],fun j mb hj=>a.m j mb (by rw[bC (cF hj)];exact hj)⟩
theorem Hn.right {p Z h rt ro} {c:Cf} {lo lo':Nat} {H':eB} {L L':Lo} (a:Hn p Z h rt ro c lo H' (L++L')) (hl:lo'=lo+L.length):Hn p Z h rt ro c lo' H' L':=
 ⟨a.p,a.Z,a.h,a.rt,a.ro,fun i hi hl'=>a.H i (by omega) hl',fun j mb hj=>by
   have:=a.m (L.length+j) mb (by rw[fH (by omega)];simpa using hj)
   rw[hl,eW];exact this⟩
structure tM (p:Bool) (Z:Nat->Prop) (h:aN) (rt:Nat->Option Nat) (ro:Nat->Option Nat) (H:eB) (y:List AV×eB) (ivs:List IV) (L:Lo):Prop where
 len:y.2.length=H.length+L.length
 old:∀i,i<H.length->y.2[i]? = H[i]?
 new:∀j q,L[j]? = some q->Ni p Z h rt (y.2[H.length+j]?) q
 cas:∀c3,Hn p Z h rt ro c3 H.length y.2 L->dB c3 y.1 ivs
theorem tM.app {p Z h rt ro} {H:eB} {y z:List AV×eB} {u v:List IV} {M N:Lo} (a:tM p Z h rt ro H y u M) (b:tM p Z h rt ro y.2 z v N):tM p Z h rt ro H (y.1++z.1,z.2) (u++v) (M++N):=by
 have hl:=a.len
 refine⟨by simp only[aV];rw[b.len,hl];omega,fun i hi=>by rw[b.old i (by omega)];exact a.old i hi,fun j q hj=>?_,fun c3 a3=>?_⟩
 ·rw[eR]at hj
  split at hj
  ·rename_i h1
   simp only
   rw[b.old _ (by omega)];exact a.new j q hj
  ·rename_i h1
   have:=b.new _ q hj
   rw[hl,show H.length+M.length+(j-M.length)=H.length+j by omega]at this
   exact this
 ·exact(a.cas c3 (a3.left hl (fun i _ hi=>b.old i hi) (by simp only;rw[b.len];omega))).app (b.cas c3 (a3.right hl))
theorem tM.one {p Z h rt ro} {H:eB} {a:AV} {y:jY} {iv:IV} {q:Option Nat×List Nat} (hw:y.wr=true) (hb:∀c:Cf,c.p=p->c.Z=Z->c.h=h->c.rt=rt->BR c y q.1 q.2)
 (ha:∀c:Cf,c.H[H.length]? = some y->c.m H.length=q.1->c.f H.length=q.2->Ca c a [iv]):tM p Z h rt ro H ([a],H++[y]) [iv] [q]:=by
 refine⟨by simp,fun i hi=>bC hi,fun j q' hj=>?_,fun c3 a3=>?_⟩
 ·cases j with
  |zero=>simp at hj;subst hj;exact⟨y,by simp,hw,hb⟩
  |succ j=>simp at hj
 ·have h1:=a3.H H.length (aK _) (by simp)
  have h2:=a3.m 0 q (by simp)
  rw[dB.single]
  exact ha c3 (by rw[h1];simp) (by simpa using h2.1) (by simpa using h2.2)
theorem tM.pure {p Z h rt ro} {H:eB} {t:Ty} {x:t.den} {ivs:List IV} {hp ln:Bool} (e:TR p Z h ln t hp x ivs):tM p Z h rt ro H (dF hp ln t x,H) ivs []:=
 ⟨by simp,fun _ _=>rfl,by simp,fun c3 a3=>iD (by rw[a3.p,a3.Z,a3.h];exact e)⟩
theorem lY {p:Bool} {Z:Nat->Prop} {h:aN} {rt ro:Nat->Option Nat}:∀{t:Ty} {x:t.den} {ivs:List IV} {L:Lo} {H:eB},TF p Z h rt t x ivs L->tM p Z h rt ro H (jO ro t x H) ivs L
 |.pair a b,x,ivs,L,H,e=>by
  simp only[TF]at e
  obtain⟨u,v,M,N,rfl,rfl,h1,h2⟩:=e
  simp only[jO]
  exact(lY h1).app (lY h2)
 |.ow .own t,x,ivs,L,H,e=>by
  simp only[TF]at e
  obtain⟨iv,mb,f,rfl,rfl,h1,h2⟩:=e
  have honc:iv.onc=true:=by
   unfold fC at h1
   split at h1
   ·rcases h1 with rfl|rfl<;>rfl
   ·subst h1;rfl
  simp only[jO]
  split
  ·rename_i hp
   refine .one rfl (fun c k1 k2 k3 k4=>?_) (fun c k1 k2 k3=>?_)
   ·simp only[BR]
    cases mb with
    |none=>exact⟨h2.2,h2.1⟩
    |some b=>
     obtain⟨es,Ms,h3,h4,rfl⟩:=h2
     obtain⟨q1,q2⟩:=Ac hp h4
     refine⟨q2,es,by rw[k3];exact h3,?_⟩
     rw[k1,k2,k3]
     exact q1.imp fun a b h=>h.hlf
   ·simp only[Ca]
    exact⟨iv,rfl,honc,.inr ⟨_,_,_,_,_,k1,by rw[k2];exact h1⟩⟩
  ·refine .one rfl (fun c k1 k2 k3 k4=>?_) (fun c k1 k2 k3=>?_)
   ·simp only[BR]
    cases mb with
    |none=>exact h2
    |some b=>
     obtain⟨es,Ms,h3,h4,rfl⟩:=h2
     exact⟨es,Ms,by rw[k3];exact h3,by rw[k1,k2,k3,k4];exact h4,rfl⟩
   ·simp only[Ca,mP]
    refine⟨iv,rfl,honc,?_⟩
    rw[k1];simp only;rw[k2];exact h1
 |.ow .obj t,x,ivs,L,H,e=>by
  simp only[TF]at e
  obtain⟨b,e,M,rfl,h1,h2,rfl⟩:=e
  simp only[jO]
  refine .one rfl (fun c k1 k2 k3 k4=>?_) (fun c k1 k2 k3=>?_)
  ·simp only[BR]
   exact .inr ⟨x,b,e,M,rfl,rfl,by rw[k3];exact h1,by rw[k1,k2,k3,k4];exact h2,rfl⟩
  ·simp only[Ca,lV]
   refine⟨_,rfl,rfl,?_⟩
   rw[k1];show _/\_;rw[k2];exact⟨trivial,rfl⟩
 |.ow .opt t,x,ivs,L,H,e=>by
  simp only[TF]at e
  simp only[jO]
  rcases e with ⟨rfl,rfl,rfl⟩|⟨v,b,e,M,rfl,rfl,h1,h2,rfl⟩
  ·refine .one rfl (fun c k1 k2 k3 k4=>?_) (fun c k1 k2 k3=>?_)
   ·exact .inl ⟨rfl,rfl,rfl⟩
   ·simp only[Ca,lV]
    refine⟨_,rfl,rfl,?_⟩
    rw[k1];show _/\_;rw[k2];exact⟨trivial,rfl⟩
  ·refine .one rfl (fun c k1 k2 k3 k4=>?_) (fun c k1 k2 k3=>?_)
   ·simp only[BR]
    exact .inr ⟨v,b,e,M,rfl,rfl,by rw[k3];exact h1,by rw[k1,k2,k3,k4];exact h2,rfl⟩
   ·simp only[Ca,lV]
    refine⟨_,rfl,rfl,?_⟩
    rw[k1];show _/\_;rw[k2];exact⟨trivial,rfl⟩
 |.ow (.root i) t,x,ivs,L,H,e=>by
  simp only[TF]at e
  obtain⟨b,h1,rfl,rfl⟩:=e
  simp only[jO]
  refine⟨by simp,fun _ _=>rfl,by simp,fun c3 a3=>?_⟩
  cases hro:ro i with
  |none=>rw[dB.single];simp only[Ca];exact⟨_,rfl,rfl⟩
  |some B=>
   rw[dB.single]
   obtain⟨k1,k2,y,k3,k4⟩:=a3.ro i B hro
   simp only[Ca,lV]
   refine⟨_,rfl,rfl,?_⟩
   rw[a3.rt,h1]at k1
   rw[k3]
   cases y<;>simp only at k4
   ·exact⟨b,k1.symm,rfl⟩
   ·trivial
   ·show _/\_;rw[<-k1];exact⟨trivial,rfl⟩
 |.int k,x,ivs,L,H,e=>by simp only[TF]at e;obtain⟨e,rfl⟩:=e;exact .pure e
 |.bool,x,ivs,L,H,e=>by simp only[TF]at e;obtain⟨e,rfl⟩:=e;exact .pure e
 |.str,x,ivs,L,H,e=>by simp only[TF]at e;obtain⟨e,rfl⟩:=e;exact .pure e
 |.unit,x,ivs,L,H,e=>by simp only[TF]at e;obtain⟨e,rfl⟩:=e;exact .pure e
 |.lst t,x,ivs,L,H,e=>by simp only[TF]at e;obtain⟨e,rfl⟩:=e;exact .pure e
 |.arr n t,x,ivs,L,H,e=>by simp only[TF]at e;obtain⟨e,rfl⟩:=e;exact .pure e
theorem fT {L:Lo} {j:Nat} {q:Option Nat×List Nat} (h:L[j]? = some q) {b:Nat} (hb:b∈q.1.toList++q.2):b∈cS L:=by
 simp only[cS,dS]
 exact⟨q,aL h,hb⟩
theorem rC:∀{L:Lo} {i j b:Nat} {q q':Option Nat×List Nat},(cS L).Nodup->L[i]? = some q->L[j]? = some q'->b∈q.1.toList++q.2->b∈q'.1.toList++q'.2->i=j
 |[],i,j,b,q,q',_,h,_,_,_=>by simp at h
 |a::L,i,j,b,q,q',hn,h,h',hb,hb'=>by
  have hn':((a.1.toList++a.2)++cS L).Nodup:=by simpa [cS]using hn
  rw[fD]at hn'
  obtain⟨n1,n2,n3⟩:=hn'
  cases i<;>cases j<;>simp at h h'
  ·rfl
  ·subst h;exact(n3 b hb b (fT h' hb') rfl).elim
  ·subst h';exact(n3 b hb' b (fT h hb) rfl).elim
  ·rw[rC n2 h h' hb hb']
theorem uJ:∀{L:Lo} {i:Nat} {q:Option Nat×List Nat},(cS L).Nodup->L[i]? = some q->(q.1.toList++q.2).Nodup
 |[],i,q,_,h=>by simp at h
 |a::L,i,q,hn,h=>by
  have hn':((a.1.toList++a.2)++cS L).Nodup:=by simpa [cS]using hn
  rw[fD]at hn'
  cases i with
  |zero=>simp at h;subst h;exact hn'.1
  |succ i=>exact uJ hn'.2.1 (by simpa using h)
theorem tQ {H:eB} {i B:Nat} (h:gP H i=some B):∃j:Nat,H[j]? = some (.rt i B):=by
 unfold gP at h
 obtain⟨x,h1,h2⟩:=List.exists_of_findSome?_eq_some h
 obtain⟨j,hj⟩:=List.getElem?_of_mem h1
 split at h2
 ·split at h2
  ·rename_i e;subst e
   injection h2 with h2;subst h2
   exact⟨j,hj⟩
  ·cases h2
 ·cases h2
theorem GH.ro' {R:lL} {c:Cf} (g:GH R c) {i B:Nat} (h:gP c.H i=some B):c.rt i=c.m B/\c.rt i≠none/\∃y,c.H[B]? = some y/\(match y with
 |.gone=>True
 |.obj ..=>True
 |.fold ..=>True
 |_=>False):=by
 obtain⟨j,hj⟩:=tQ h
 have:=g.blk j _ hj
 simp only[BR]at this
 exact this.2.2
def vQ (c:Cf) (L:Lo):Nat->Option Nat:=fun i=>if i<c.H.length then c.m i else ((L[i-c.H.length]?).map (·.1)).getD none
def oI (c:Cf) (L:Lo) (g:List Nat):Nat->List Nat:=fun i=>if i∈g then [] else if i<c.H.length then c.f i else ((L[i-c.H.length]?).map (·.2)).getD []
theorem Bc {R:lL} {c:Cf} (g:GH R c) {B:Nat} {t:Ty} {v:t.den} (hB:c.H[B]? = some (.fold true t (some v))):
 ∃c',c'.H=((jO (gP c.H) t v c.H).2).set B (.obj true (jO (gP c.H) t v c.H).1)/\c'.h=c.h/\GH R c'/\Le c c':=by
 have hBl:=cF hB
 have br:=g.blk B _ hB
 simp only[BR]at br
 rcases br with ⟨h,_⟩|⟨v',b,e,M,hv,hm,he,hT,hf⟩
 ·cases h
 injection hv with hv;subst hv
 obtain⟨i1,i2,i3,i4⟩:=lY (ro:=gP c.H) (H:=c.H) hT
 generalize hy:jO (gP c.H) t v c.H=y at *
 have hft:c.ft B=b::cS M:=by simp[Cf.ft,hm,hf]
 have hnd:=g.nd B _ hB rfl
 rw[hft,cT]at hnd
 let c':Cf:={ c with H:=y.2.set B (.obj true y.1),m:=vQ c M,f:=oI c M [B] }
 have m1:∀i,i<c.H.length->c'.m i=c.m i:=fun i hi=>by simp[c',vQ,hi]
 have f1:∀i,i<c.H.length->i≠B->c'.f i=c.f i:=fun i hi hne=>by simp[c',oI,hi,hne]
 have f2:c'.f B=[]:=by simp[c',oI]
 have m3:∀j q,M[j]? = some q->c'.m (c.H.length+j)=q.1/\c'.f (c.H.length+j)=q.2:=fun j q hj=>by
  have h0:c.H.length+j≠B:=by omega
  have h1:¬(c.H.length+j<c.H.length):=by omega
  simp only[c',vQ,oI,eI,if_neg h0,if_neg h1,show c.H.length+j-c.H.length=j by omega,hj,cK,kC,and_self]
 have t1:∀i,i<c.H.length->i≠B->c'.ft i=c.ft i:=fun i hi hne=>by simp only[Cf.ft,m1 i hi,f1 i hi hne]
 have t2:c'.ft B=[b]:=by simp[Cf.ft,m1 B hBl,hm,f2]
 have t3:∀j q,M[j]? = some q->c'.ft (c.H.length+j)=q.1.toList++q.2:=fun j q hj=>by simp only[Cf.ft,(m3 j q hj).1,(m3 j q hj).2]
 have ent:∀i z,c'.H[i]? = some z->(i=B/\z = .obj true y.1)\/(i≠B/\i<c.H.length/\c.H[i]? = some z)\/∃j q,i=c.H.length+j/\M[j]? = some q/\Ni c.p c.Z c.h c.rt (some z) q:=by
  intro i z hz
  rcases gA hz with ⟨rfl,rfl⟩|⟨hne,hz⟩
  ·exact .inl ⟨rfl,rfl⟩
  ·by_cases hl:i<c.H.length
   ·exact .inr (.inl ⟨hne,hl,by rw[<-i2 i hl];exact hz⟩)
   ·have h1:=cF hz
    rw[i1]at h1
    obtain⟨q,hq⟩:∃q,M[i-c.H.length]? = some q:=⟨_,aG (by omega)⟩
    have h2:=i3 _ q hq
    rw[show c.H.length+(i-c.H.length)=i by omega,hz]at h2
    exact .inr (.inr ⟨_,q,by omega,hq,h2⟩)
 have owned:∀i z x,c'.H[i]? = some z->z.wr=true->x∈c'.ft i->i≠B->i<c.H.length->x∉c.ft B:=by
  intro i z x hz hw hx hne hl hxB
  rcases ent i z hz with ⟨rfl,_⟩|⟨_,_,hz'⟩|⟨j,q,rfl,_⟩
  ·exact hne rfl
  ·rw[t1 i hl hne]at hx
   exact hne (g.inj i B z _ x hz' hB hw rfl hx hxB)
  ·omega
 refine⟨c',rfl,rfl,g.gen rfl rfl rfl (fun j i B' h=>by simp only[c'];rw[bX (fun e=>by rw[e,hB]at h;cases h),i2 j (cF h)];exact h) (aK _) (fun x=>x∈c.ft B) (fun x hx=>⟨B,_,hB,rfl,hx⟩) (fun _ _ _=>rfl) (fun i x hi=>?_) (fun le i z hz=>?_)⟩
 ·have hl:=cF hi
  refine⟨m1 i hl,?_⟩
  by_cases hne:i=B
  ·subst hne
   rw[hB]at hi;injection hi with hi;subst hi
   refine⟨.obj true y.1,?_,.inr (by simp[eD,hm])⟩
   simp only[c']
   rw[eQ,if_pos rfl,if_pos (by rw[i1];omega)]
  ·refine⟨x,?_,eD.rfl' _ x⟩
   simp only[c']
   rw[bX hne,i2 i hl];exact hi
 ·rcases ent i z hz with ⟨rfl,rfl⟩|⟨hne,hl,hz'⟩|⟨j,q,rfl,hq,w,hw0,hw1,hw2⟩
  ·refine .inr (.inr ⟨rfl,?_,by rw[t2];simp,fun x hx=>?_⟩)
   ·simp only[BR,f2,true_and,m1 i hBl,hm]
    refine⟨b,rfl,e,he,i4 c' ⟨rfl,rfl,rfl,rfl,fun k X hk=>?_,fun k hk hkl=>?_,m3⟩⟩
    ·obtain⟨q1,q2,q3,q4,q5⟩:=g.ro' hk
     have hX:=cF q4
     refine⟨by rw[m1 X hX];exact q1,q2,?_⟩
     obtain⟨_,z,hz,hqz⟩:=le.H X q3 q4
     refine⟨z,hz,?_⟩
     rcases hqz with rfl|hqz
     ·trivial
     ·cases q3<;>simp only at q5<;>cases z<;>simp only[eD]at hqz |-
    ·simp only[c'];rw[bX (by omega)]
   ·rw[t2]at hx;simp at hx;subst hx
    refine⟨g.lt i _ _ hB (by simp) (by rw[hft];simp),.inl (by rw[hft];simp),fun i' z' hz' hw' hx'=>?_⟩
    by_cases hne:i'=i
    ·exact hne
    ·by_cases hl:i'<c.H.length
     ·exact(owned i' z' x hz' hw' hx' hne hl (by rw[hft];simp)).elim
     ·rcases ent i' z' hz' with ⟨h,_⟩|⟨_,h,_⟩|⟨j,q,rfl,hq,_⟩
      ·exact h
      ·exact(hl h).elim
      ·rw[t3 j q hq]at hx'
       exact(hnd.1 (fT hq hx')).elim
  ·by_cases hgo:z = .gone
   ·exact .inl hgo
   refine .inr (.inl ⟨hz',m1 i hl,f1 i hl hne,fun x hx hxB=>?_⟩)
   by_cases hw:z.wr=true
   ·exact hne (g.inj i B z _ x hz' hB hw rfl hx hxB)
   ·have h1:=g.ro i z x hz' (by simpa using hw) hgo hx
    rcases (g.wr B _ x hB rfl hxB).1 with h2|h2
    ·exact h1.2 h2
    ·omega
  ·injection hw0 with hw0;subst hw0
   have hin:∀x,x∈q.1.toList++q.2->x∈c.ft B:=fun x hx=>by rw[hft];exact bT _ (fT hq hx)
   refine .inr (.inr ⟨hw1,by rw[(m3 j q hq).1,(m3 j q hq).2];exact hw2 c' rfl rfl rfl rfl,by rw[t3 j q hq];exact uJ hnd.2 hq,fun x hx=>?_⟩)
   rw[t3 j q hq]at hx
   refine⟨g.lt B _ _ hB (by simp) (hin x hx),.inl (hin x hx),fun i' z' hz' hw' hx'=>?_⟩
   by_cases hne:i'=B
   ·subst hne
    rw[t2]at hx';simp at hx';subst hx'
    exact(hnd.1 (fT hq hx)).elim
   ·by_cases hl:i'<c.H.length
    ·exact(owned i' z' x hz' hw' hx' hne hl (hin x hx)).elim
    ·rcases ent i' z' hz' with ⟨h,_⟩|⟨_,h,_⟩|⟨j',q',rfl,hq',_⟩
     ·exact(hne h).elim
     ·exact(hl h).elim
     ·rw[t3 j' q' hq']at hx'
      rw[rC hnd.2 hq hq' hx hx']
end Go.Ideal
namespace Go.Ideal
theorem TR.nf {p:Bool} {Z:Nat->Prop} {h:aN} {t:Ty} {x:t.den} {c:List IV} (e:TR p Z h true t true x c):TR p Z h (!t.flat) t (!t.flat) x c:=by
 cases hf:t.flat with
 |true=>exact TR.flat hf e
 |false=>exact e
def Jf (p:Bool) (Z:Nat->Prop) (h:aN) (t:Ty) (x:List t.den) (iv:IV) (mb:Option Nat):Prop:=
 fC mb x.length iv/\match mb with
  |none=>x=[]
  |some b=>∃es,h[b]? = some (some ⟨t.n,es⟩)/\dI (TR p Z h true t true) x es
abbrev Oo:=List (Nat×Nat)
structure tI (c:Cf) (u:kY) (L:Lo) (O:Oo):Prop where
 own:(cS L).Perm (u.own.flatMap c.ft)
 obj:O.map Prod.fst=u.obj
 o:∀x∈O,c.m x.1=some x.2/\c.f x.1=[]/\∃cs,c.H[x.1]? = some (.obj true cs)
 w:∀B∈u.own,∃x,c.H[B]? = some x/\x.wr=true
theorem tI.nil {c:Cf}:tI c kY.nil [] []:=⟨.refl _,rfl,by simp,by simp[kY.nil]⟩
theorem tI.app {c:Cf} {u v:kY} {L M:Lo} {O Q:Oo} (h:tI c u L O) (h':tI c v M Q):tI c (u.app v) (L++M) (O++Q):=by
 refine⟨by simpa [kY.app,kI]using h.own.append h'.own,by simp[kY.app,h.obj,h'.obj],fun x hx=>?_,fun B hB=>?_⟩
 ·rcases aE.1 hx with h1|h1
  ·exact h.o x h1
  ·exact h'.o x h1
 ·rcases aE.1 hB with h1|h1
  ·exact h.w B h1
  ·exact h'.w B h1
theorem tI.frz {c:Cf} {u:kY} {f:List Nat} {L:Lo} {O:Oo} (h:tI c u L O):tI c ⟨u.own,f,u.obj⟩ L O:=⟨h.own,h.obj,h.o,h.w⟩
section
variable {c:Cf} (hb:xB c) {Z:Nat->Prop} (hZ:∀b,c.Z b->Z b)
include hb hZ
theorem cz:Le c { c with Z:=Z }/\xB { c with Z:=Z }:=by
 have le:Le c { c with Z:=Z }:=⟨rfl,fun B x h=>⟨rfl,x,h,eD.rfl' _ x⟩,⟨hZ,fun _ _=>rfl⟩,fun _ _ h=>h⟩
 exact⟨le,fun B x hx=>(hb B x hx).le le fun _ _=>rfl⟩
theorem Ez {t:Ty} {a:AV} {iv:IV} (v:Va c a iv) {x:List t.den×kY} (e:Fa c.H t a=some x):
 ∃mb,Jf c.p Z c.h t x.1 iv mb/\tI c x.2 [(mb,[])] []/\x.2.frz=[]/\iv.one=true:=by
 unfold Fa at e
 split at e
 ·simp at e;subst e
  simp only[Va]at v
  exact⟨none,⟨by simpa [fC]using v,rfl⟩,⟨.refl _,rfl,by simp,by simp[kY.nil]⟩,rfl,by rcases v with rfl|rfl<;>rfl⟩
 ·rename_i B
  split at e
  ·rename_i hp ln t' l hB
   split at e
   ·rename_i ht;subst ht
    simp at e;subst e
    simp only[Va]at v
    rcases v.2 with h|⟨wr,hp',ln',t'',l',hB',h2⟩
    ·rw[hB]at h;cases h
    ·rw[hB]at hB';injection hB' with hB'
     injection hB' with q1 q2 q3 q4 q5
     subst q4
     have q5:=eq_of_heq q5
     subst q5
     have hf0:c.f B=[]:=by
      have br:=hb B _ hB
      simp only[BR]at br
      exact br.1
     refine⟨c.m B,⟨h2,?_⟩,⟨?_,rfl,by simp,?_⟩,rfl,IV.onc_one v.1⟩
     ·have br:=hb B _ hB
      simp only[BR]at br
      replace br:=br.2
      cases hm:c.m B with
      |none=>rw[hm]at br;exact br
      |some b=>
       rw[hm]at br
       obtain⟨es,h1,h3⟩:=br
       exact⟨es,h1,h3.imp fun a b h=>(cz hb hZ).1.Z |> fun le=>TR.mono le (TR.flags (fun _=>rfl) (fun _=>rfl) h)⟩
     ·simp[gV,Cf.ft,hf0]
     ·intro B' hB';simp at hB';subst hB';exact⟨_,hB,rfl⟩
   ·cases e
  ·cases e
 ·cases e
theorem kV {t:Ty} {l:List AV} {ivs:List IV} {x:t.den×List AV} (h:dB c l ivs) (e:oC c.H t l=some x) (hf:∀B∈AV.refsL (l.take (l.length-x.2.length)),∀b∈c.ft B,Z b):
 ∃u v,ivs=u++v/\TR c.p Z c.h true t true x.1 u/\dB c x.2 v:=by
 obtain⟨le,hb'⟩:=cz hb hZ
 obtain⟨pre,p1,p2⟩:=jM hb' e (h.le le)
 have hpre:l.take (l.length-x.2.length)=pre:=by rw[p1];simp
 rw[hpre]at hf
 obtain⟨u1,u2,rfl,p3,p4⟩:=p2 true true (fun _=>rfl) (fun _=>rfl) (fun B hB b hm=>hf B hB b hm)
 obtain⟨u1',u2',q1,q2,q3⟩:∃a b,u1++u2=a++b/\dB c pre a/\dB c x.2 b:=by rw[p1]at h;exact h.splitA
 have hlen:u1.length=u1'.length:=by
  have h1:=(dB.len q3).1
  have h2:=(dB.len p4).1
  have:=congrArg List.length q1
  simp only[aV]at this
  omega
 obtain⟨rfl,rfl⟩:=List.append_inj q1 hlen
 exact⟨u1,u2,rfl,p3,q3⟩
theorem Lf {t:Ty} {a:AV} {iv:IV} (v:Va c a iv) {x:List t.den×kY} (e:Da c.H t a=some x):
 ∃L,TF c.p Z c.h c.rt (.ow .own t) x.1 [iv] L/\tI c x.2 L []/\x.2.frz=[]:=by
 have hz:Ns c.Z Z c.h c.h:=⟨hZ,fun _ _=>rfl⟩
 unfold Da at e
 split at e
 ·simp at e;subst e
  simp only[Va]at v
  exact⟨[(none,[])],⟨iv,none,[],rfl,rfl,by simpa [fC]using v,rfl,rfl⟩,⟨.refl _,rfl,by simp,by simp[kY.nil]⟩,rfl⟩
 ·rename_i B
  split at e
  ·rename_i hp ln t' l hB
   split at e
   ·rename_i ht;subst ht
    split at e
    ·rename_i hc
     simp at e;subst e
     simp only[Va]at v
     rcases v.2 with h|⟨wr,hp',ln',t'',l',hB',h2⟩
     ·rw[hB]at h;cases h
     ·rw[hB]at hB';injection hB' with hB'
      injection hB' with q1 q2 q3 q4 q5
      subst q4
      have q5:=eq_of_heq q5
      subst q5
      have br:=hb B _ hB
      simp only[BR]at br
      refine⟨[(c.m B,[])],?_,⟨.of_eq (by simp[gV,Cf.ft,br.1]),rfl,by simp,fun B' hB'=>by simp at hB';subst hB';exact⟨_,hB,rfl⟩⟩,rfl⟩
      refine⟨iv,_,_,rfl,rfl,h2,?_⟩
      cases hm:c.m B with
      |none=>rw[hm]at br;exact⟨br.2,rfl⟩
      |some b=>
       rw[hm]at br
       obtain⟨_,es,h1,h3⟩:=br
       have h4:dI (TR c.p Z c.h true t' true) l es:=h3.imp fun a b h=>TR.mono hz (TR.flags (fun _=>rfl) (fun _=>rfl) h)
       have key:∀{l:List t'.den} {es:List (List IV)},dI (TR c.p Z c.h true t' true) l es->kK (TF c.p Z c.h c.rt t') l es (es.map fun _=>[])/\cS (es.map fun _=>([]:Lo)).flatten=[]:=by
        intro l
        induction l with
        |nil=>intro es h;cases es with
         |nil=>exact⟨trivial,rfl⟩
         |cons _ _=>exact h.elim
        |cons a l ih=>intro es h;cases es with
         |nil=>exact h.elim
         |cons e es=>
          obtain⟨h5,h6⟩:=ih h.2
          exact⟨⟨wG hc h.1,h5⟩,by simpa using h6⟩
       exact⟨es,_,h1,(key h4).1,(key h4).2.symm⟩
    ·cases e
   ·cases e
  ·cases e
 ·rename_i B
  split at e
  ·rename_i t' l hB
   split at e
   ·rename_i ht;subst ht
    split at e
    ·cases e
    ·simp at e;subst e
     simp only[Va,mP]at v
     rw[hB]at v
     have br:=hb B _ hB
     simp only[BR]at br
     refine⟨[(c.m B,c.f B)],?_,⟨.of_eq (by simp[gV,Cf.ft]),rfl,by simp,fun B' hB'=>by simp at hB';subst hB';exact⟨_,hB,rfl⟩⟩,rfl⟩
     refine⟨iv,_,_,rfl,rfl,v.2,?_⟩
     cases hm:c.m B with
     |none=>rw[hm]at br;exact br
     |some b=>
      rw[hm]at br
      obtain⟨es,Ms,h1,h2,h3⟩:=br
      exact⟨es,Ms,h1,h2.imp fun a b M _ h=>TF.mono hz (fun _ _ h=>h) h fun _ _=>rfl,h3⟩
   ·cases e
  ·cases e
 ·cases e
theorem kL:∀{t:Ty} {l:List AV} {ivs:List IV} {x:(t.den×List AV)×kY},dB c l ivs->mK c.H t l=some x->(∀B∈x.2.frz,∀b∈c.ft B,Z b)->
 ∃u v L,ivs=u++v/\TF c.p Z c.h c.rt t x.1.1 u L/\dB c x.1.2 v/\tI c x.2 L []
 |.pair a b,l,ivs,x,h,e,hf=>by
  simp only[mK]at e
  obtain⟨y,e1,e⟩:=aA.1 e
  obtain⟨z,e2,e⟩:=aA.1 e
  simp only[aD]at e;subst e
  obtain⟨u,v,L,rfl,h1,h2,h3⟩:=kL h e1 (fun B hB=>hf B (by simp[kY.app,hB]))
  obtain⟨u',v',M,rfl,h4,h5,h6⟩:=kL h2 e2 (fun B hB=>hf B (by simp[kY.app,hB]))
  exact⟨u++u',v',L++M,by simp,⟨u,u',L,M,rfl,rfl,h1,h4⟩,h5,h3.app h6⟩
 |.ow .own t,l,ivs,x,h,e,hf=>by
  simp only[mK]at e
  cases l with
  |nil=>cases e
  |cons a l=>
   simp only at e
   split at e
   ·rename_i z hz
    obtain⟨y,e1,e⟩:=aA.1 e
    split at e
    ·rename_i hy
     simp only[aD]at e;subst e
     unfold Pb at hz
     split at hz
     ·rename_i B
      split at hz
      ·rename_i t' l0 op hB
       split at hz
       ·rename_i ht;subst ht
        split at hz
        ·cases hz
        ·rename_i hpu
         simp only[pK,aD]at hz;subst hz
         simp only[dB]at h
         obtain⟨u,v,rfl,h1,h2⟩:=h
         obtain⟨iv,rfl,_,h3⟩:=(eT rfl).1 h1
         simp only[Va,mP]at h3
         rw[hB]at h3
         have h3o:fC (c.m B) l0.length iv:=h3.2
         have br:=hb B _ hB
         obtain⟨i,cs⟩:=op
         simp only[BR]at br
         obtain⟨b,es1,ee,es2,Ms1,Ms2,hm,he,hi,hl,hw,q1,q2,hc,hff⟩:=br
         obtain⟨u',v',M,rfl,g1,g2,g3⟩:=kL hc e1 (fun B hB=>hf B (by simpa using hB))
         rw[hy]at g2
         simp only[dB]at g2;subst g2
         rw[bA]at he
         have hz:Ns c.Z Z c.h c.h:=⟨hZ,fun _ _=>rfl⟩
         refine⟨[iv],v,[(some b,cS (Ms1++M::Ms2).flatten)],rfl,?_,h2,⟨?_,g3.obj,by simp,fun B' hB'=>?_⟩⟩
         ·refine⟨iv,some b,_,rfl,rfl,by rw[hm]at h3o;simpa using h3o,es1++u'::es2,Ms1++M::Ms2,he,?_,rfl⟩
          simp only
          rw[oH,if_pos hl]
          exact(q1.imp fun a b M _ h=>TF.mono hz (fun _ _ h=>h) h fun _ _=>rfl).app ⟨g1,q2.imp fun a b M _ h=>TF.mono hz (fun _ _ h=>h) h fun _ _=>rfl⟩
         ·have:=g3.own
          simp only[gV,eG,Cf.ft,hm,hff,dX,mM,cB,kI]
          refine jB _ ?_
          show (cS Ms1.flatten++(cS M++cS Ms2.flatten)).Perm ((cS Ms1.flatten++cS Ms2.flatten)++List.flatMap c.ft y.2.own)
          rw[bQ]
          exact jB _ (List.perm_append_comm.trans (jB _ this))
         ·rcases aQ.1 hB' with rfl|hB'
          ·exact⟨_,hB,rfl⟩
          ·exact g3.w B' hB'
       ·cases hz
      ·cases hz
     ·cases hz
    ·cases e
   obtain⟨y,e1,e⟩:=aA.1 e
   simp only[aD]at e;subst e
   simp only[dB]at h
   obtain⟨u,v,rfl,h1,h2⟩:=h
   have ho:a.one=true:=by unfold Da at e1;split at e1<;>first|rfl|(cases e1;done)
   obtain⟨iv,rfl,_,h3⟩:=(eT ho).1 h1
   obtain⟨L,g1,g2,_⟩:=Lf hb hZ h3 e1
   exact⟨[iv],v,L,rfl,g1,h2,g2⟩
 |.ow .obj t,l,ivs,x,h,e,hf=>by
  simp only[mK]at e
  split at e
  ·rename_i B r
   simp only[dB]at h
   obtain⟨u,v,rfl,h1,h2⟩:=h
   obtain⟨iv,rfl,_,h3⟩:=(eT rfl).1 h1
   simp only[Va]at h3
   split at e
   ·rename_i t' y hB
    split at e
    ·rename_i ht;subst ht
     simp only[Ko]at e
     obtain⟨w,hy,e2⟩:=aA.1 e
     subst hy
     simp only[aD]at e2;subst e2
     have br:=hb B _ hB
     simp only[BR]at br
     rcases br with ⟨k,_⟩|⟨v',b,ee,M,hv,hm,he,hT,hfB⟩
     ·cases k
     ·injection hv with hv;subst hv
      have h3:=h3.2
      unfold lV at h3
      rw[hB,hm]at h3
      obtain⟨_,rfl⟩:=h3
      refine⟨_,v,[(some b,cS M)],rfl,?_,h2,⟨.of_eq (by simp[gV,Cf.ft,hm,hfB]),rfl,by simp,fun B' hB'=>by simp at hB';subst hB';exact⟨_,hB,rfl⟩⟩⟩
      exact⟨b,ee,M,rfl,he,TF.mono ⟨hZ,fun _ _=>rfl⟩ (fun _ _ h=>h) hT fun _ _=>rfl,rfl⟩
    ·cases e
   ·rename_i l' hB
    obtain⟨y,e1,e⟩:=aA.1 e
    split at e
    ·rename_i hy
     simp only[aD]at e;subst e
     have br:=hb B _ hB
     simp only[BR]at br
     obtain⟨hf0,b,hm,ee,he,hc⟩:=br
     obtain⟨b',hm',rfl⟩:=h3.2.obj hB
     rw[hm]at hm';injection hm' with hm';subst hm'
     obtain⟨u',v',M,rfl,g1,g2,g3⟩:=kL hc e1 (fun B hB=>hf B (by simpa using hB))
     rw[hy]at g2
     simp only[dB]at g2;subst g2
     rw[bA]at he
     refine⟨_,v,[(some b,cS M)],rfl,?_,h2,⟨by simpa [gV,Cf.ft,hm,hf0]using g3.own,g3.obj,by simp,fun B' hB'=>?_⟩⟩
     ·exact⟨b,u',M,rfl,he,g1,rfl⟩
     ·rcases aQ.1 hB' with rfl|hB'
      ·exact⟨_,hB,rfl⟩
      ·exact g3.w B' hB'
    ·cases e
   ·cases e
  ·cases e
 |.ow .opt t,l,ivs,x,h,e,hf=>by
  simp only[mK]at e
  split at e
  ·rename_i r
   simp only[aD]at e;subst e
   simp only[dB,Ca]at h
   obtain⟨_,v,rfl,rfl,h2⟩:=h
   exact⟨_,v,[(none,[])],rfl,.inl ⟨rfl,rfl,rfl⟩,h2,⟨.refl _,rfl,by simp,by simp[kY.nil]⟩⟩
  ·rename_i B r
   simp only[dB]at h
   obtain⟨u,v,rfl,h1,h2⟩:=h
   obtain⟨iv,rfl,_,h3⟩:=(eT rfl).1 h1
   simp only[Va]at h3
   split at e
   ·rename_i t' y hB
    split at e
    ·rename_i ht;subst ht
     simp only[Ko,aD]at e;subst e
     have br:=hb B _ hB
     simp only[BR]at br
     have h3:=h3.2
     unfold lV at h3
     rw[hB]at h3
     rcases br with ⟨rfl,hm,hfB⟩|⟨v',b,ee,M,rfl,hm,he,hT,hfB⟩
     ·rw[hm]at h3
      obtain⟨_,rfl⟩:=h3
      exact⟨_,v,[(none,[])],rfl,.inl ⟨rfl,rfl,rfl⟩,h2,⟨.of_eq (by simp[gV,Cf.ft,hm,hfB]),rfl,by simp,fun B' hB'=>by simp at hB';subst hB';exact⟨_,hB,rfl⟩⟩⟩
     ·rw[hm]at h3
      obtain⟨_,rfl⟩:=h3
      refine⟨_,v,[(some b,cS M)],rfl,?_,h2,⟨.of_eq (by simp[gV,Cf.ft,hm,hfB]),rfl,by simp,fun B' hB'=>by simp at hB';subst hB';exact⟨_,hB,rfl⟩⟩⟩
      exact .inr ⟨v',b,ee,M,rfl,rfl,he,TF.mono ⟨hZ,fun _ _=>rfl⟩ (fun _ _ h=>h) hT fun _ _=>rfl,rfl⟩
    ·cases e
   ·rename_i l' hB
    obtain⟨y,e1,e⟩:=aA.1 e
    split at e
    ·rename_i hy
     simp only[aD]at e;subst e
     have br:=hb B _ hB
     simp only[BR]at br
     obtain⟨hf0,b,hm,ee,he,hc⟩:=br
     obtain⟨b',hm',rfl⟩:=h3.2.obj hB
     rw[hm]at hm';injection hm' with hm';subst hm'
     obtain⟨u',v',M,rfl,g1,g2,g3⟩:=kL hc e1 (fun B hB=>hf B (by simpa using hB))
     rw[hy]at g2
     simp only[dB]at g2;subst g2
     rw[bA]at he
     refine⟨_,v,[(some b,cS M)],rfl,?_,h2,⟨by simpa [gV,Cf.ft,hm,hf0]using g3.own,g3.obj,by simp,fun B' hB'=>?_⟩⟩
     ·exact .inr ⟨_,b,u',M,rfl,rfl,he,g1,rfl⟩
     ·rcases aQ.1 hB' with rfl|hB'
      ·exact⟨_,hB,rfl⟩
      ·exact g3.w B' hB'
    ·cases e
   ·cases e
  ·cases e
 |.ow (.root i) t,l,ivs,x,h,e,hf=>by
  simp only[mK]at e
  split at e
  ·rename_i B r
   split at e
   ·rename_i hro
    simp only[dB]at h
    obtain⟨u,v,rfl,h1,h2⟩:=h
    obtain⟨iv,rfl,_,h3⟩:=(eT rfl).1 h1
    simp only[Va]at h3
    obtain⟨j,hj⟩:=tQ hro
    have br:=hb _ _ hj
    simp only[BR]at br
    obtain⟨_,_,k1,k2,y,k3,k4⟩:=br
    obtain⟨b,hb0⟩:=tK.1 k2
    have h3:=h3.2
    unfold lV at h3
    split at e
    ·rename_i hB
     simp only[aD]at e;subst e
     rw[hB]at h3
     obtain⟨b',h5,rfl⟩:=h3
     rw[<-k1]at h5
     exact⟨_,v,[],rfl,⟨b',h5,rfl,rfl⟩,h2,tI.nil⟩
    ·rename_i hB
     simp only[aD]at e;subst e
     rw[hB,<-k1,hb0]at h3
     obtain⟨_,rfl⟩:=h3
     exact⟨_,v,[],rfl,⟨b,hb0,rfl,rfl⟩,h2,tI.nil⟩
    ·cases e
   ·cases e
  ·cases e
 |.int k,l,ivs,x,h,e,hf=>by
  simp only[mK]at e
  obtain⟨y,e1,e⟩:=aA.1 e
  simp only[aD]at e;subst e
  obtain⟨u,v,rfl,h1,h2⟩:=kV hb hZ h e1 hf
  exact⟨u,v,[],rfl,⟨h1,rfl⟩,h2,tI.nil.frz⟩
 |.bool,l,ivs,x,h,e,hf=>by
  simp only[mK]at e
  obtain⟨y,e1,e⟩:=aA.1 e
  simp only[aD]at e;subst e
  obtain⟨u,v,rfl,h1,h2⟩:=kV hb hZ h e1 hf
  exact⟨u,v,[],rfl,⟨h1,rfl⟩,h2,tI.nil.frz⟩
 |.str,l,ivs,x,h,e,hf=>by
  simp only[mK]at e
  obtain⟨y,e1,e⟩:=aA.1 e
  simp only[aD]at e;subst e
  obtain⟨u,v,rfl,h1,h2⟩:=kV hb hZ h e1 hf
  exact⟨u,v,[],rfl,⟨h1,rfl⟩,h2,tI.nil.frz⟩
 |.unit,l,ivs,x,h,e,hf=>by
  simp only[mK]at e
  obtain⟨y,e1,e⟩:=aA.1 e
  simp only[aD]at e;subst e
  obtain⟨u,v,rfl,h1,h2⟩:=kV hb hZ h e1 hf
  exact⟨u,v,[],rfl,⟨h1,rfl⟩,h2,tI.nil.frz⟩
 |.lst t,l,ivs,x,h,e,hf=>by
  simp only[mK]at e
  obtain⟨y,e1,e⟩:=aA.1 e
  simp only[aD]at e;subst e
  obtain⟨u,v,rfl,h1,h2⟩:=kV hb hZ h e1 hf
  exact⟨u,v,[],rfl,⟨h1,rfl⟩,h2,tI.nil.frz⟩
 |.arr n t,l,ivs,x,h,e,hf=>by
  simp only[mK]at e
  obtain⟨y,e1,e⟩:=aA.1 e
  simp only[aD]at e;subst e
  obtain⟨u,v,rfl,h1,h2⟩:=kV hb hZ h e1 hf
  exact⟨u,v,[],rfl,⟨h1,rfl⟩,h2,tI.nil.frz⟩
end
end Go.Ideal
namespace Go.Ideal
section
variable {α β γ:Type} {r:α->β->γ->Prop}
theorem kK.split:∀{l:List α} {m:List β} {n:List γ},kK r l m n->∀{i:Nat} {a:α},l[i]? = some a->
 ∃b c,m[i]? = some b/\n[i]? = some c/\r a b c/\kK r (l.take i) (m.take i) (n.take i)/\kK r (l.drop (i+1)) (m.drop (i+1)) (n.drop (i+1))
 |a::l,b::m,c::n,h,0,x,hx=>by
  simp at hx;subst hx;exact⟨b,c,rfl,rfl,h.1,trivial,by simpa using h.2⟩
 |a::l,b::m,c::n,h,i+1,x,hx=>by
  obtain⟨b',c',h1,h2,h3,h4,h5⟩:=kK.split h.2 (i:=i) (a:=x) (by simpa using hx)
  exact⟨b',c',by simpa using h1,by simpa using h2,h3,⟨h.1,h4⟩,by simpa using h5⟩
 |[],[],[],_,i,x,hx=>by simp at hx
 |[],_::_,_,h,_,_,_=>h.elim
 |[],[],_::_,h,_,_,_=>h.elim
 |_::_,[],_,h,_,_,_=>h.elim
 |_::_,_::_,[],h,_,_,_=>h.elim
end
theorem xU {α:Type}:∀{l:List α} {i:Nat} {a:α},l[i]? = some a->l=l.take i++a::l.drop (i+1)
 |[],i,a,h=>by simp at h
 |x::l,0,a,h=>by simp at h;subst h;rfl
 |x::l,i+1,a,h=>by
  have:=xU (l:=l) (i:=i) (a:=a) (by simpa using h)
  simp only[List.take_succ_cons,List.drop_succ_cons,cG]
  exact congrArg _ this
theorem En {p:Bool} {Z:Nat->Prop} {h:aN} {rt:Nat->Option Nat}:∀{t:Ty} {x:t.den} {c:List IV} {L:Lo},TF p Z h rt t x c L->c.length=t.n
 |.pair a b,x,c,L,e=>by
  simp only[TF]at e
  obtain⟨u,v,M,N,rfl,rfl,h1,h2⟩:=e
  simp[Ty.n,En h1,En h2]
 |.ow .own t,x,c,L,e=>by
  simp only[TF]at e
  obtain⟨iv,mb,f,rfl,_⟩:=e;rfl
 |.ow .obj t,x,c,L,e=>by
  simp only[TF]at e
  obtain⟨b,e,M,rfl,_⟩:=e;rfl
 |.ow .opt t,x,c,L,e=>by
  simp only[TF]at e
  rcases e with ⟨_,rfl,_⟩|⟨_,_,_,_,_,rfl,_⟩<;>rfl
 |.ow (.root i) t,x,c,L,e=>by
  simp only[TF]at e
  obtain⟨b,_,rfl,_⟩:=e;rfl
 |.int k,x,c,L,e=>by simp only[TF]at e;exact(TR.one e.1).1
 |.bool,x,c,L,e=>by simp only[TF]at e;exact(TR.one e.1).1
 |.str,x,c,L,e=>by simp only[TF]at e;exact(TR.one e.1).1
 |.unit,x,c,L,e=>by simp only[TF]at e;exact(TR.one e.1).1
 |.lst t,x,c,L,e=>by simp only[TF]at e;exact(TR.one e.1).1
 |.arr n t,x,c,L,e=>by simp only[TF]at e;exact(TR.one e.1).1
theorem To {R:lL} {c:Cf} (g:GH R c) {B b:Nat} {x0 z0:jY} {t:Ty} {v:t.den} {ivs:List IV} {M:Lo} {rem:List Nat} (hB:c.H[B]? = some x0) (hx0:x0.wr=true) (hz0:z0.wr=true) (hle:eD (c.m B) x0 z0)
 (hT:TF c.p c.Z c.h c.rt t v ivs M) (hm:c.m B=some b) (hin:∀x,x∈rem\/x∈cS M->x∈c.f B) (hnd:(b::(rem++cS M)).Nodup)
 (hbr:∀c':Cf,c'.p=c.p->c'.Z=c.Z->c'.h=c.h->c'.rt=c.rt->Le c c'->dB c' (jO (gP c.H) t v c.H).1 ivs->BR c' z0 (some b) rem):
 ∃c',c'.H=((jO (gP c.H) t v c.H).2).set B z0/\c'.h=c.h/\GH R c'/\Le c c'/\dB c' (jO (gP c.H) t v c.H).1 ivs:=by
 have hBl:=cF hB
 have hgo0:x0≠.gone:=by intro e;subst e;cases hx0
 have hrt0:∀i B',x0≠.rt i B':=by intro i B' e;subst e;cases hx0
 obtain⟨i1,i2,i3,i4⟩:=lY (ro:=gP c.H) (H:=c.H) hT
 generalize hy:jO (gP c.H) t v c.H=y at *
 have hbB:b∈c.ft B:=Cf.ft_m hm
 have hinB:∀x,x∈rem\/x∈cS M->x∈c.ft B:=fun x h=>Cf.ft_f (hin x h)
 rw[cT,fD]at hnd
 obtain⟨hn0,hn1,hn2,hn3⟩:=hnd
 let c':Cf:={ c with H:=y.2.set B z0,m:=vQ c M,f:=fun k=>if k=B then rem else oI c M [] k }
 have m1:∀i,i<c.H.length->c'.m i=c.m i:=fun i hi=>by simp[c',vQ,hi]
 have f1:∀i,i<c.H.length->i≠B->c'.f i=c.f i:=fun i hi hne=>by simp[c',oI,hi,hne]
 have f2:c'.f B=rem:=by simp[c']
 have m3:∀j q,M[j]? = some q->c'.m (c.H.length+j)=q.1/\c'.f (c.H.length+j)=q.2:=fun j q hj=>by
  have h0:c.H.length+j≠B:=by omega
  have h1:¬(c.H.length+j<c.H.length):=by omega
  simp only[c',vQ,oI,Rp,if_false,if_neg h0,if_neg h1,show c.H.length+j-c.H.length=j by omega,hj,cK,kC,and_self]
 have t1:∀i,i<c.H.length->i≠B->c'.ft i=c.ft i:=fun i hi hne=>by simp only[Cf.ft,m1 i hi,f1 i hi hne]
 have t2:c'.ft B=b::rem:=by simp[Cf.ft,m1 B hBl,hm,f2]
 have t3:∀j q,M[j]? = some q->c'.ft (c.H.length+j)=q.1.toList++q.2:=fun j q hj=>by simp only[Cf.ft,(m3 j q hj).1,(m3 j q hj).2]
 have ent:∀i z,c'.H[i]? = some z->(i=B/\z=z0)\/(i≠B/\i<c.H.length/\c.H[i]? = some z)\/∃j q,i=c.H.length+j/\M[j]? = some q/\Ni c.p c.Z c.h c.rt (some z) q:=by
  intro i z hz
  rcases gA hz with ⟨rfl,rfl⟩|⟨hne,hz⟩
  ·exact .inl ⟨rfl,rfl⟩
  ·by_cases hl:i<c.H.length
   ·exact .inr (.inl ⟨hne,hl,by rw[<-i2 i hl];exact hz⟩)
   ·have h1:=cF hz
    rw[i1]at h1
    obtain⟨q,hq⟩:∃q,M[i-c.H.length]? = some q:=⟨_,aG (by omega)⟩
    have h2:=i3 _ q hq
    rw[show c.H.length+(i-c.H.length)=i by omega,hz]at h2
    exact .inr (.inr ⟨_,q,by omega,hq,h2⟩)
 have owned:∀i z x,c'.H[i]? = some z->z.wr=true->x∈c'.ft i->i≠B->i<c.H.length->x∉c.ft B:=by
  intro i z x hz hw hx hne hl hxB
  rcases ent i z hz with ⟨rfl,_⟩|⟨_,_,hz'⟩|⟨j,q,rfl,_⟩
  ·exact hne rfl
  ·rw[t1 i hl hne]at hx
   exact hne (g.inj i B z _ x hz' hB hw hx0 hx hxB)
  ·omega
 have cas:Le c c'->dB c' y.1 ivs:=fun le=>i4 c' ⟨rfl,rfl,rfl,rfl,fun k X hk=>by
  obtain⟨q1,q2,q3,q4,q5⟩:=g.ro' hk
  have hX:=cF q4
  refine⟨by rw[m1 X hX];exact q1,q2,?_⟩
  obtain⟨_,z,hz,hqz⟩:=le.H X q3 q4
  refine⟨z,hz,?_⟩
  rcases hqz with rfl|hqz
  ·trivial
  ·cases q3<;>simp only at q5<;>cases z<;>simp only[eD]at hqz |-,fun k hk hkl=>by simp only[c'];rw[bX (by omega)],m3⟩
 have main:GH R c'/\Le c c':=by
  refine g.gen rfl rfl rfl (fun j i B' h=>by simp only[c'];rw[bX (fun e=>by rw[e,hB]at h;injection h with h;exact hrt0 _ _ h),i2 j (cF h)];exact h) (aK _) (fun x=>x∈c.ft B) (fun x hx=>⟨B,_,hB,hx0,hx⟩) (fun _ _ _=>rfl) (fun i x hi=>?_) (fun le i z hz=>?_)
  ·have hl:=cF hi
   refine⟨m1 i hl,?_⟩
   by_cases hne:i=B
   ·subst hne
    rw[hB]at hi;injection hi with hi;subst hi
    refine⟨z0,?_,.inr hle⟩
    simp only[c']
    rw[eQ,if_pos rfl,if_pos (by rw[i1];omega)]
   ·refine⟨x,?_,eD.rfl' _ x⟩
    simp only[c']
    rw[bX hne,i2 i hl];exact hi
  ·rcases ent i z hz with ⟨rfl,rfl⟩|⟨hne,hl,hz'⟩|⟨j,q,rfl,hq,w,hw0,hw1,hw2⟩
   ·refine .inr (.inr ⟨hz0,?_,by rw[t2,cT];exact⟨fun h=>hn0 (Er _ h),hn1⟩,fun x hx=>?_⟩)
    ·rw[m1 i hBl,hm,f2]
     exact hbr c' rfl rfl rfl rfl le (cas le)
    ·have hx':x∈c.ft i:=by
      rw[t2]at hx
      rcases aQ.1 hx with rfl|hx
      ·exact hbB
      ·exact hinB x (.inl hx)
     refine⟨g.lt i _ _ hB hgo0 hx',.inl hx',fun i' z' hz' hw' hxx=>?_⟩
     by_cases hne:i'=i
     ·exact hne
     ·by_cases hl:i'<c.H.length
      ·exact(owned i' z' x hz' hw' hxx hne hl hx').elim
      ·rcases ent i' z' hz' with ⟨h,_⟩|⟨_,h,_⟩|⟨j,q,rfl,hq,_⟩
       ·exact h
       ·exact(hl h).elim
       ·rw[t3 j q hq]at hxx
        have hM:=fT hq hxx
        rw[t2]at hx
        rcases aQ.1 hx with rfl|hx
        ·exact(hn0 (pM _ hM)).elim
        ·exact(hn3 x hx x hM rfl).elim
   ·by_cases hgo:z = .gone
    ·exact .inl hgo
    refine .inr (.inl ⟨hz',m1 i hl,f1 i hl hne,fun x hx hxB=>?_⟩)
    by_cases hw:z.wr=true
    ·exact hne (g.inj i B z _ x hz' hB hw hx0 hx hxB)
    ·have h1:=g.ro i z x hz' (by simpa using hw) hgo hx
     rcases (g.wr B _ x hB hx0 hxB).1 with h2|h2
     ·exact h1.2 h2
     ·omega
   ·injection hw0 with hw0;subst hw0
    have hM:∀x,x∈q.1.toList++q.2->x∈cS M:=fun x hx=>fT hq hx
    refine .inr (.inr ⟨hw1,by rw[(m3 j q hq).1,(m3 j q hq).2];exact hw2 c' rfl rfl rfl rfl,by rw[t3 j q hq];exact uJ hn2 hq,fun x hx=>?_⟩)
    rw[t3 j q hq]at hx
    refine⟨g.lt B _ _ hB hgo0 (hinB x (.inr (hM x hx))),.inl (hinB x (.inr (hM x hx))),fun i' z' hz' hw' hx'=>?_⟩
    by_cases hne:i'=B
    ·subst hne
     rw[t2]at hx'
     rcases aQ.1 hx' with rfl|hx'
     ·exact(hn0 (pM _ (hM _ hx))).elim
     ·exact(hn3 x hx' x (hM x hx) rfl).elim
    ·by_cases hl:i'<c.H.length
     ·exact(owned i' z' x hz' hw' hx' hne hl (hinB x (.inr (hM x hx)))).elim
     ·rcases ent i' z' hz' with ⟨h,_⟩|⟨_,h,_⟩|⟨j',q',rfl,hq',_⟩
      ·exact(hne h).elim
      ·exact(hl h).elim
      ·rw[t3 j' q' hq']at hx'
       rw[rC hn2 hq hq' hx hx']
 exact⟨c',rfl,rfl,main.1,main.2,cas main.2⟩
theorem Fq {R:lL} {c:Cf} (g:GH R c) {B i:Nat} {t:Ty} {l:List t.den} {v:t.den} (hB:c.H[B]? = some (.arr2 true t l none)) (hv:l[i]? = some v):
 ∃c' b es e,c'.H=((jO (gP c.H) t v c.H).2).set B (.arr2 true t l (some (i,(jO (gP c.H) t v c.H).1)))/\c'.h=c.h/\GH R c'/\Le c c'/\dB c' (jO (gP c.H) t v c.H).1 e/\
  c.m B=some b/\c.h[b]? = some (some ⟨t.n,es⟩)/\es[i]? = some e/\es.length=l.length:=by
 have br:=g.blk B _ hB
 simp only[BR]at br
 cases hm:c.m B with
 |none=>rw[hm]at br;rw[br.1]at hv;simp at hv
 |some b=>
  rw[hm]at br
  obtain⟨es,Ms,he,ha,hf⟩:=br
  obtain⟨e,M,h1,h2,h3,h4,h5⟩:=ha.split hv
  have hM:=xU h2
  have hE:=xU h1
  have hff:c.f B=cS (Ms.take i).flatten++(cS M++cS (Ms.drop (i+1)).flatten):=by
   rw[hf]
   conv=>lhs;rw[hM]
   simp[kI]
  have hnd:=g.nd B _ hB rfl
  simp only[Cf.ft,hm,hff,dX,cN]at hnd
  have hlen:=ha.len
  obtain⟨c',k1,k2,k3,k4,k5⟩:=To g (x0:=.arr2 true t l none) (z0:=.arr2 true t l (some (i,(jO (gP c.H) t v c.H).1))) (rem:=cS (Ms.take i++Ms.drop (i+1)).flatten) hB rfl rfl (by simp[eD]) h3 hm
   (fun x hx=>by
     rw[hff]
     simp only[mM,kI,aE]at hx |-
     rcases hx with (hx|hx)|hx
     ·exact .inl hx
     ·exact .inr (.inr hx)
     ·exact .inr (.inl hx))
   (by
     refine List.Perm.nodup_iff ?_ |>.1 hnd
     refine List.Perm.cons _ ?_
     simp only[mM,kI,bQ]
     exact jB _ List.perm_append_comm)
   (fun c2 e1 e2 e3 e4 le hc=>by
     simp only[BR]
     refine⟨b,es.take i,e,es.drop (i+1),Ms.take i,Ms.drop (i+1),rfl,by rw[e3,<-hE];exact he,?_,?_,?_,?_,?_,hc,rfl⟩
     ·have:=cF h1
      rw[bP];omega
     ·exact cF hv
     ·exact En h3
     ·rw[e1,e2,e3,e4];exact h4
     ·rw[e1,e2,e3,e4];exact h5)
  exact⟨c',b,es,e,k1,k2,k3,k4,k5,rfl,he,h1,by omega⟩
theorem Cb:∀{H:eB} {l:List Nat} {k i:Nat},(eL l false k H)[i]? = (H[i]?).map fun x=>if l.contains (k+i)&& !sK x then .gone else x
 |[],l,k,i=>by simp[eL]
 |x::H,l,k,0=>by simp[eL]
 |x::H,l,k,i+1=>by
  simp only[eL,kE]
  rw[Cb,show k+1+i=k+(i+1) by omega]
theorem Mo {R:lL} {c:Cf} (g:GH R c) {B i:Nat} {t:Ty} {l:List t.den} {cs:List AV} (hB:c.H[B]? = some (.arr2 true t l (some (i,cs)))) {z:(t.den×List AV)×kY} (hz:mK c.H t cs=some z) (h1:z.1.2=[]) (h2:z.2.frz=[]) (hnd:(B::z.2.own).Nodup):
 ∃c',c'.H=(eL z.2.own false 0 c.H).set B (.arr2 true t (l.set i z.1.1) none)/\c'.h=c.h/\GH R c'/\Le c c':=by
 have br:=g.blk B _ hB
 simp only[BR]at br
 obtain⟨b,es1,e,es2,Ms1,Ms2,hm,he,hi,hl,hw,q1,q2,hc,hf⟩:=br
 obtain⟨u,v,M,rfl,g1,g2,g3⟩:=kL g.blk (fun _ h=>h) hc hz (fun B hB=>by rw[h2]at hB;cases hB)
 rw[h1]at g2
 simp only[dB]at g2;subst g2
 rw[bA]at he
 rw[cT]at hnd
 have hBl:=cF hB
 let S:Nat->Prop:=fun k=>k=B\/k∈z.2.own
 let nf:=cS (Ms1++M::Ms2).flatten
 let c':Cf:={ c with H:=(eL z.2.own false 0 c.H).set B (.arr2 true t (l.set i z.1.1) none),f:=jH c.f B nf }
 have hS:∀k,S k->∃x,c.H[k]? = some x/\x.wr=true:=fun k hk=>by
  rcases hk with rfl|hk
  ·exact⟨_,hB,rfl⟩
  ·exact g3.w k hk
 have hperm:(b::nf).Perm (c.ft B++z.2.own.flatMap c.ft):=by
  simp only[Cf.ft,hm,hf,nf,dX,mM,cB,kI,cN,cG]
  refine List.Perm.cons _ ?_
  show (cS Ms1.flatten++(cS M++cS Ms2.flatten)).Perm ((cS Ms1.flatten++cS Ms2.flatten)++List.flatMap c.ft z.2.own)
  rw[bQ]
  exact jB _ (List.perm_append_comm.trans (jB _ g3.own))
 have ent:∀k x,c'.H[k]? = some x->(k=B/\x = .arr2 true t (l.set i z.1.1) none)\/x = .gone\/(k≠B/\¬S k/\c.H[k]? = some x):=fun k x hk=>by
  rcases gA hk with ⟨rfl,rfl⟩|⟨hne,hk⟩
  ·exact .inl ⟨rfl,rfl⟩
  ·rw[Cb,bV]at hk
   obtain⟨y,hy,hyx⟩:=aZ.1 hk
   split at hyx
   ·exact .inr (.inl hyx.symm)
   ·rename_i hno
    subst hyx
    refine .inr (.inr ⟨hne,fun hs=>?_,hy⟩)
    rcases hs with h|h
    ·exact hne h
    ·obtain⟨w,hw1,hw2⟩:=hS k (.inr h)
     rw[hy]at hw1;injection hw1 with hw1;subst hw1
     apply hno
     have:sK y=false:=by cases y<;>first|rfl|(cases hw2;done)
     simp[h,this]
 have inW:∀x,x∈b::nf->∃k,S k/\x∈c.ft k:=fun x hx=>by
  rcases aE.1 (hperm.mem_iff.1 hx)with h|h
  ·exact⟨B,.inl rfl,h⟩
  ·obtain⟨k,h3,h4⟩:=dS.1 h
   exact⟨k,.inr h3,h4⟩
 have ftB:c'.ft B=b::nf:=by simp[c',Cf.ft,hm,jH]
 have ftN:∀k,k≠B->c'.ft k=c.ft k:=fun k hk=>by simp[c',Cf.ft,jH,hk]
 have main:GH R c'/\Le c c':=by
  refine g.gen rfl rfl rfl (fun j k B' h=>?_) (aK _) (fun x=>∃k,S k/\x∈c.ft k) (fun x ⟨k,hk,hx⟩=>by obtain⟨w,h3,h4⟩:=hS k hk;exact⟨k,w,h3,h4,hx⟩) (fun _ _ _=>rfl) (fun k x hk=>?_) (fun le k x hk=>?_)
  ·simp only[c']
   rw[bX (fun e=>by rw[e,hB]at h;injection h with h;cases h),Cb,h]
   simp[sK]
  ·refine⟨rfl,?_⟩
   by_cases hne:k=B
   ·subst hne
    rw[hB]at hk;injection hk with hk;subst hk
    refine⟨_,eK (a:=if z.2.own.contains (0+k)&& !sK (.arr2 true t l (some (i,cs))) then .gone else .arr2 true t l (some (i,cs))) (by rw[Cb,hB];rfl),.inr (by simp[eD])⟩
   ·simp only[c']
    rw[bX hne,Cb,hk,cK]
    by_cases hcd:(z.2.own.contains (0+k)&& !sK x)=true
    ·exact⟨_,by rw[if_pos hcd],.inl rfl⟩
    ·exact⟨_,by rw[if_neg hcd],eD.rfl' _ x⟩
  ·rcases ent k x hk with ⟨rfl,rfl⟩|rfl|⟨hne,hns,hk'⟩
   ·refine .inr (.inr ⟨rfl,?_,?_,fun x hx=>?_⟩)
    ·show BR c' _ (c.m k) (jH c.f k nf k)
     simp only[jH,if_true,BR,hm]
     refine⟨es1++u::es2,Ms1++M::Ms2,he,?_,rfl⟩
     rw[oH,if_pos hl]
     exact q1.app ⟨g1,q2⟩
    ·rw[ftB,hperm.nodup_iff]
     have own:∀{w:List Nat},w.Nodup->(∀B∈w,∃x,c.H[B]? = some x/\x.wr=true)->(w.flatMap c.ft).Nodup:=by
      intro w
      induction w with
      |nil=>intro _ _;simp
      |cons B w ih=>
       intro hn hw
       rw[cT]at hn
       have ih:=ih hn.2 (fun B hB=>hw B (by simp[hB]))
       obtain⟨x,h1,h2⟩:=hw B (by simp)
       rw[eG,fD]
       refine⟨g.nd B x h1 h2,ih,fun a ha b hb e=>?_⟩
       subst e
       obtain⟨B',hB',hm'⟩:=dS.1 hb
       obtain⟨x',h3,h4⟩:=hw B' (by simp[hB'])
       exact hn.1 (by rw[g.inj B B' x x' a h1 h3 h2 h4 ha hm'];exact hB')
     have:=own (w:=k::z.2.own) (cT.2 hnd) (fun j hj=>hS j (by rcases aQ.1 hj with h|h;exact .inl h;exact .inr h))
     rwa [eG]at this
    ·rw[ftB]at hx
     obtain⟨k',hk',hx'⟩:=inW x hx
     obtain⟨w,hw1,hw2⟩:=hS k' hk'
     refine⟨g.lt k' w x hw1 (by intro e;subst e;cases hw2) hx',.inl ⟨k',hk',hx'⟩,fun k2 x2 h3 h4 h5=>?_⟩
     rcases ent k2 x2 h3 with ⟨rfl,_⟩|rfl|⟨hne2,hns2,h6⟩
     ·rfl
     ·cases h4
     ·rw[ftN k2 hne2]at h5
      exact(hns2 (by rw[g.inj k2 k' x2 w x h6 hw1 h4 hw2 h5 hx'];exact hk')).elim
   ·exact .inl rfl
   ·by_cases hgo:x = .gone
    ·exact .inl hgo
    refine .inr (.inl ⟨hk',rfl,by simp[c',jH,hne],fun y hy ⟨k',hk1,hy'⟩=>?_⟩)
    obtain⟨w,hw1,hw2⟩:=hS k' hk1
    by_cases hw:x.wr=true
    ·exact hns (by rw[g.inj k k' x w y hk' hw1 hw hw2 hy hy'];exact hk1)
    ·have h3:=g.ro k x y hk' (by simpa using hw) hgo hy
     rcases (g.wr k' w y hw1 hw2 hy').1 with h4|h4
     ·exact h3.2 h4
     ·omega
 exact⟨c',rfl,rfl,main.1,main.2⟩
theorem GH.setF {R:lL} {c:Cf} (g:GH R c) {B b:Nat} {x x':jY} (hB:c.H[B]? = some x) (hx:x.wr=true) (hx':x'.wr=true) (hle:eD (c.m B) x x') (hm:c.m B=some b) (k:mQ)
 (hk:∀c':Cf,c' = { c with H:=c.H.set B x',h:=c.h.set b (some k) }->Le c c'->BR c' x' (some b) (c.f B)):
 ∃c',c' = { c with H:=c.H.set B x',h:=c.h.set b (some k) }/\GH R c'/\Le c c':=by
 have hbB:b∈c.ft B:=Cf.ft_m hm
 refine⟨_,rfl,g.gen rfl rfl rfl (fun j i B' h=>by simp only;rw[bX (fun e=>by rw[e,hB]at h;injection h with h;subst h;cases hx)];exact h) (by simp) (fun i=>i∈c.ft B) (fun i hi=>⟨B,x,hB,hx,hi⟩) (fun i hi hne=>bX (fun e=>hne (by rw[e];exact hbB))) (fun B' y hB'=>?_) (fun le B' y hB'=>?_)⟩
 ·by_cases e:B'=B
  ·subst e
   rw[hB]at hB';injection hB' with hB';subst hB'
   exact⟨rfl,x',eK hB,.inr hle⟩
  ·exact pW (by simp only;rw[bX e];exact hB') rfl
 ·rcases gA hB' with ⟨rfl,rfl⟩|⟨e,h⟩
  ·refine .inr (.inr ⟨hx',by simp only[hm];exact hk _ rfl le,g.nd B' x hB hx,fun b' hb'=>?_⟩)
   have hb':b'∈c.ft B':=hb'
   refine⟨by simp only[eV];exact g.lt B' x _ hB (by intro e;subst e;cases hx) hb',.inl hb',fun B'' x'' hB'' hx'' hm''=>?_⟩
   rcases gA hB'' with ⟨e,_⟩|⟨e,h⟩
   ·exact e
   ·exact g.inj B'' B' x'' x _ h hB hx'' hx hm'' hb'
  ·by_cases hg:y.wr=true
   ·refine .inr (.inl ⟨h,rfl,rfl,fun i hi hib=>?_⟩)
    exact e (g.inj B' B y x i h hB hg hx hi hib)
   ·by_cases hgo:y = .gone
    ·exact .inl hgo
    ·refine .inr (.inl ⟨h,rfl,rfl,fun i hi hib=>?_⟩)
     have h1:=g.ro B' y i h (by simpa using hg) hgo hi
     have h2:=(g.wr B x i hB hx hib).1
     rcases h2 with h2|h2
     ·exact h1.2 h2
     ·omega
theorem Sj {R:lL} {c:Cf} (g:GH R c) {B b i:Nat} {t:Ty} {l:List t.den} {cs cs':List AV} {es:List (List IV)} {e':List IV} (hB:c.H[B]? = some (.arr2 true t l (some (i,cs)))) (hm:c.m B=some b) (he:c.h[b]? = some (some ⟨t.n,es⟩)) (hlen:e'.length=t.n)
 (hc:dB c cs' e'):∃c',c'.H=c.H.set B (.arr2 true t l (some (i,cs')))/\c'.h=c.h.set b (some ⟨t.n,es.set i e'⟩)/\GH R c'/\Le c c'/\c'.H[B]? = some (.arr2 true t l (some (i,cs'))):=by
 have br:=g.blk B _ hB
 simp only[BR]at br
 obtain⟨b',es1,e,es2,Ms1,Ms2,hm',he',hi,hl,hw,q1,q2,hcc,hf⟩:=br
 rw[hm]at hm';injection hm' with hm';subst hm'
 rw[he]at he';injection he' with he';injection he' with he';injection he' with _ he'
 subst he'
 have hlt:b<c.h.length:=cF he
 have hbf:b∉c.f B:=by
  have:=g.nd B _ hB rfl
  simp only[Cf.ft,hm,dX,cN,cT]at this
  exact this.1
 obtain⟨c',rfl,g',le⟩:=g.setF (x':=.arr2 true t l (some (i,cs'))) hB rfl rfl (by simp[eD]) hm ⟨t.n,(es1++e::es2).set i e'⟩ (fun c' hc' le=>by
  have hh:∀b'∈c.f B,c'.h[b']? = c.h[b']?:=fun b' hb'=>by
   rw[hc']
   exact bX (fun e=>hbf (by rw[<-e];exact hb'))
  have k1:c'.p=c.p:=le.p
  simp only[BR]
  refine⟨b,es1,e',es2,Ms1,Ms2,rfl,?_,hi,hl,hlen,?_,?_,hc.le le,hf⟩
  ·have:(es1++e::es2).set i e'=es1++e'::es2:=by
    rw[<-hi,lH _ _ (aK _)];simp
   rw[hc',this]
   exact eK he
  ·rw[k1]
   exact q1.imp fun a e M hM h=>TF.mono le.Z le.rt h fun b' hb'=>hh b' (by rw[hf];exact nP (Er _ hM) hb')
  ·rw[k1]
   exact q2.imp fun a e M hM h=>TF.mono le.Z le.rt h fun b' hb'=>hh b' (by rw[hf];exact nP (pM _ hM) hb'))
 exact⟨_,rfl,rfl,g',le,eK hB⟩
theorem Gc:∀{H:eB} {l:List Nat} {k:Nat},(eL l false k H).length=H.length
 |[],l,k=>rfl
 |x::H,l,k=>by simp[eL,Gc]
theorem GH.gather {R:lL} {c:Cf} (g:GH R c) {S:List Nat} (hw:∀B∈S,∃x,c.H[B]? = some x/\x.wr=true) {x':jY} (hx':x'.wr=true) (mb:Option Nat) (f':List Nat) (h':aN) (hlen:c.h.length≤h'.length)
 (hh:∀i,i<c.h.length->(∀B∈S,i∉c.ft B)->h'[i]? = c.h[i]?) (hin:∀b,b∈mb.toList++f'->((∃B∈S,b∈c.ft B)\/c.h.length≤b)/\b<h'.length) (hnd:(mb.toList++f').Nodup)
 (hbr:∀c':Cf,c' = { c with H:=eL S false 0 c.H++[x'],m:=pA c.m c.H.length mb,h:=h',f:=jH c.f c.H.length f' }->Le c c'->BR c' x' mb f'):
 ∃c',c' = { c with H:=eL S false 0 c.H++[x'],m:=pA c.m c.H.length mb,h:=h',f:=jH c.f c.H.length f' }/\GH R c'/\Le c c':=by
 refine⟨_,rfl,?_⟩
 let c':Cf:={ c with H:=eL S false 0 c.H++[x'],m:=pA c.m c.H.length mb,h:=h',f:=jH c.f c.H.length f' }
 have old:∀k,k<c.H.length->c'.m k=c.m k/\c'.f k=c.f k/\c'.ft k=c.ft k:=fun k hk=>by
  have:k≠c.H.length:=by omega
  simp[c',Cf.ft,pA,jH,this]
 have new:c'.ft c.H.length=mb.toList++f':=by simp[c',Cf.ft,pA,jH]
 have get:∀k,k<c.H.length->c'.H[k]? = (c.H[k]?).map fun x=>if S.contains (0+k)&& !sK x then .gone else x:=fun k hk=>by
  simp only[c']
  rw[bC (by rw[Gc];exact hk),Cb]
 have ent:∀k x,c'.H[k]? = some x->(k=c.H.length/\x=x')\/x = .gone\/(k<c.H.length/\k∉S/\c.H[k]? = some x):=fun k x hk=>by
  rcases nO hk with hk1|⟨h1,h2⟩
  ·have hl:=cF hk1
   rw[Gc]at hl
   rw[get k hl]at hk
   obtain⟨y,hy,hyx⟩:=aZ.1 hk
   split at hyx
   ·exact .inr (.inl hyx.symm)
   ·rename_i hno
    subst hyx
    refine .inr (.inr ⟨hl,fun hs=>?_,hy⟩)
    obtain⟨w,hw1,hw2⟩:=hw k hs
    rw[hy]at hw1;injection hw1 with hw1;subst hw1
    apply hno
    have:sK y=false:=by cases y<;>first|rfl|(cases hw2;done)
    simp[hs,this]
  ·rw[Gc]at h1;exact .inl ⟨h1,h2⟩
 refine g.gen rfl rfl rfl (fun j k B' h=>?_) hlen (fun x=>∃k,k∈S/\x∈c.ft k) (fun x ⟨k,hk,hx⟩=>by obtain⟨w,h3,h4⟩:=hw k hk;exact⟨k,w,h3,h4,hx⟩) (fun i hi hno=>hh i hi fun B hB hb=>hno ⟨B,hB,hb⟩) (fun k x hk=>?_) (fun le k x hk=>?_)
 ·have hl:=cF h
  show c'.H[j]? = _
  rw[get j hl,h]
  simp[sK]
 ·have hl:=cF hk
  refine⟨(old k hl).1,?_⟩
  rw[show ({ c with H:=eL S false 0 c.H++[x'],m:=pA c.m c.H.length mb,h:=h',f:=jH c.f c.H.length f' }:Cf).H[k]? = c'.H[k]? from rfl,get k hl,hk,cK]
  by_cases hcd:(S.contains (0+k)&& !sK x)=true
  ·exact⟨_,by rw[if_pos hcd],.inl rfl⟩
  ·exact⟨_,by rw[if_neg hcd],eD.rfl' _ x⟩
 ·rcases ent k x hk with ⟨rfl,rfl⟩|rfl|⟨hl,hns,hk'⟩
  ·refine .inr (.inr ⟨hx',?_,?_,fun b hb=>?_⟩)
   ·show BR c' x (pA c.m c.H.length mb c.H.length) (jH c.f c.H.length f' c.H.length)
    simp only[pA,jH,if_true]
    exact hbr c' rfl le
   ·show (c'.ft c.H.length).Nodup
    rw[new];exact hnd
   ·replace hb:b∈c'.ft c.H.length:=hb
    rw[new]at hb
    obtain⟨h1,h2⟩:=hin b hb
    refine⟨h2,h1.imp (fun⟨B,hB,h⟩=>⟨B,hB,h⟩) id,fun k2 x2 h3 h4 h5=>?_⟩
    rcases ent k2 x2 h3 with ⟨h,_⟩|rfl|⟨hl2,hns2,h6⟩
    ·exact h
    ·cases h4
    ·replace h5:b∈c'.ft k2:=h5
     rw[(old k2 hl2).2.2]at h5
     rcases h1 with ⟨B,hB,h7⟩|h7
     ·obtain⟨w,hw1,hw2⟩:=hw B hB
      exact(hns2 (by rw[g.inj k2 B x2 w b h6 hw1 h4 hw2 h5 h7];exact hB)).elim
     ·have:=g.lt k2 x2 b h6 (by intro e;subst e;cases h4) h5
      omega
  ·exact .inl rfl
  ·by_cases hgo:x = .gone
   ·exact .inl hgo
   refine .inr (.inl ⟨hk',(old k hl).1,(old k hl).2.1,fun y hy ⟨B,hB,hy'⟩=>?_⟩)
   obtain⟨w,hw1,hw2⟩:=hw B hB
   by_cases hw:x.wr=true
   ·exact hns (by rw[g.inj k B x w y hk' hw1 hw hw2 hy hy'];exact hB)
   ·have h3:=g.ro k x y hk' (by simpa using hw) hgo hy
    rcases (g.wr B w y hw1 hw2 hy').1 with h4|h4
    ·exact h3.2 h4
    ·omega
end Go.Ideal
namespace Go.Ideal
theorem lQ:∀{l:List Nat},pV l=true↔l.Nodup
 |[]=>by simp[pV]
 |x::r=>by simp[pV,lQ,cT]
theorem Pa {c c':Cf} (hp:c'.p=c.p) (hZ:c'.Z=c.Z) (hh:c'.h=c.h) {a:AV} (ha:a.plain=true) {u:List IV} (h:Ca c' a u):Ca c a u:=by
 cases a<;>simp only[AV.plain]at ha<;>try (cases ha;done)
 all_goals simp only[Ca]at h |-
 case lst=>rw[hp,hZ,hh]at h;exact h
 case arr=>rw[hp,hZ,hh]at h;exact h
 all_goals exact h
theorem Bm {c c':Cf} (hp:c'.p=c.p) (hZ:c'.Z=c.Z) (hh:c'.h=c.h):∀{l:List AV},l.all AV.plain=true->∀{u:List IV},dB c' l u->dB c l u
 |[],_,u,h=>h
 |a::l,ha,u,h=>by
  simp only[gD,aF]at ha
  simp only[dB]at h |-
  obtain⟨x,y,rfl,h1,h2⟩:=h
  exact⟨x,y,rfl,Pa hp hZ hh ha.1 h1,Bm hp hZ hh ha.2 h2⟩
theorem Tu {R:lL} {c:Cf} (g:GH R c) {t:Ty} {v:t.den} {ivs:List IV} {M:Lo} (hT:TF c.p c.Z c.h c.rt t v ivs M):∃c3:Cf,c3.p=c.p/\c3.Z=c.Z/\c3.h=c.h/\dB c3 (jO (gP c.H) t v c.H).1 ivs:=by
 obtain⟨i1,i2,i3,i4⟩:=lY (ro:=gP c.H) (H:=c.H) hT
 refine⟨{ c with H:=(jO (gP c.H) t v c.H).2,m:=vQ c M,f:=oI c M [] },rfl,rfl,rfl,i4 _ ⟨rfl,rfl,rfl,rfl,fun k X hk=>?_,fun k hk hkl=>rfl,fun j q hj=>?_⟩⟩
 ·obtain⟨q1,q2,q3,q4,q5⟩:=g.ro' hk
  have hX:=cF q4
  refine⟨by simp only[vQ,if_pos hX];exact q1,q2,q3,by simp only;rw[i2 X hX];exact q4,q5⟩
 ·have h1:¬(c.H.length+j<c.H.length):=by omega
  simp only[vQ,oI,Rp,if_false,if_neg h1,show c.H.length+j-c.H.length=j by omega,hj,cK,kC,and_self]
theorem Oe {c:Cf} {cs l:List AV} {o n:Nat} (e:seg cs o n=some l) {u:List IV} (h:dB c cs u):dB c l ((u.drop o).take n)/\o+n≤u.length:=by
 unfold seg at e
 obtain⟨x,e1,e⟩:=aA.1 e
 obtain⟨y,e2,e⟩:=aA.1 e
 injection e with e;subst e
 obtain⟨_,h1,h2⟩:=h.split e1
 obtain⟨h3,_,h4⟩:=h1.split e2
 simp only[bW]at h4
 exact⟨h3,by omega⟩
theorem Yl {c:Cf} {cs l:List AV} {o n:Nat} (e:seg cs o n=some l):True:=trivial
theorem Lk {c:Cf} {cs l vs:List AV} {o:Nat} (e:xX cs o vs=some l) {u us:List IV} (h:dB c cs u) (hv:dB c vs us):dB c l (eH u o us)/\o+us.length≤u.length:=by
 unfold xX at e
 obtain⟨x,e1,e⟩:=aA.1 e
 obtain⟨y,e2,e⟩:=aA.1 e
 injection e with e;subst e
 obtain⟨h0,h1,h2⟩:=h.split e1
 obtain⟨_,h3,h4⟩:=h1.split e2
 have hw:=(dB.len hv).1
 simp only[bW]at h4
 refine⟨?_,by omega⟩
 unfold eH
 rw[cM]at h3
 rw[hw]
 exact(h0.app hv).app h3
section
variable {Rr:Type} {prog:Nat->Option mO} {opn:Nat->Bool} {cs:Nat->Option Ct} {ety:Nat->Option Ty} {icall:Nat->List AV->eB->(AV->eB->Option Rr)->Option Rr}
 {R:lL} {T:List dP} {TI:List SV} {c:Cf} {st:gJ} {s:St} {k:dP->gJ->Option Rr} {r:Rr} {dst:Option Nat}
theorem zN {fr:gZ} {H:eB} (g:G R T TI c ⟨fr,H⟩ s) {B:Nat} {K:eB->Option Rr} (e:tD B H K=some r):∃c',G R T TI c' ⟨fr,c'.H⟩ s/\Le c c'/\K c'.H=some r:=by
 unfold tD at e
 split at e
 ·rename_i t l y hB
  obtain⟨z,hz,e⟩:=aA.1 e
  split at e
  ·rename_i h1
   split at e
   ·rename_i h2
    simp only[aF,Rq,lQ]at h2
    have hH:c.H=H:=g.H
    subst hH
    obtain⟨i,cs'⟩:=y
    obtain⟨c',k1,k2,k3,k4⟩:=Mo g.gh hB hz h1 h2.1 h2.2
    refine⟨c',⟨k3,rfl,k2.trans g.h,g.gf.le k4⟩,k4,?_⟩
    rw[k1];exact e
   ·cases e
  ·cases e
 ·exact⟨c,⟨g.gh,rfl,g.h,g.gf⟩,Le.refl c,by rw[show c.H=H from g.H];exact e⟩
theorem Jl {c:Cf} {n:Option Nat} {l:List AV} {v:dP} (e:Wo n l=some v) {u:List IV} (h:dB c l u):∃iv,cY c v (.val iv)/\(n=none->u=[iv])/\(∀m,n=some m->iv = .agg u):=by
 unfold Wo at e
 cases n with
 |none=>
  simp only at e
  split at e
  ·rename_i a
   by_cases ho:a.one=true
   ·rw[if_pos ho]at e
    injection e with e;subst e
    rw[dB.single]at h
    obtain⟨iv,rfl,_,h2⟩:=(eT ho).1 h
    exact⟨iv,h2,fun _=>rfl,fun m hm=>by cases hm⟩
   ·rw[if_neg ho]at e;cases e
  ·cases e
 |some n=>
  simp only[aD]at e;subst e
  exact⟨.agg u,⟨u,rfl,h⟩,(fun h=>by cases h),fun _ _=>rfl⟩
theorem Pn {n:Option Nat} {B i o:Nat} {iv:IV} {x:SX} (g:G R T TI c st s) (hx:x.ev s.1=some (.val iv)) (hv:lW c B i (.st o) iv) (e:Po n B i o st k=some r):fG prog opn R T TI c s k r dst (.load n x):=by
 unfold Po at e
 obtain⟨c1,g1,le1,e⟩:=zN (fr:=st.fr) g e
 have hv1:=yV le1 hv
 split at e
 ·rename_i wr t l hB
  obtain⟨v,hl,e'⟩:=aA.1 e
  clear e;have e:=e';clear e'
  obtain⟨cs',hs,e'⟩:=aA.1 e
  clear e;have e:=e';clear e'
  obtain⟨w,hw,e'⟩:=aA.1 e
  clear e;have e:=e';clear e'
  unfold lW at hv1
  rw[hB]at hv1
  obtain⟨b,hm,rfl,hil⟩:=hv1
  have br:=g1.gh.blk B _ hB
  simp only[BR,hm]at br
  obtain⟨es,Ms,he,ha,hf⟩:=br
  obtain⟨ee,M,q1,q2,q3,_,_⟩:=ha.split hl
  have hlen:=ha.len.1
  have ev:∀{iv':IV},o+n.getD 1≤ee.length->(n=none->(ee.drop o).take (n.getD 1)=[iv'])->(∀m,n=some m->iv' = .agg ((ee.drop o).take (n.getD 1)))->aT (eC prog opn) opn dst (.load n x) s=some (.val iv',s):=fun {iv'} h1 h2 h2'=>by
   have hg:hget s.2 b l.length=some ⟨t.n,es⟩:=by rw[<-g1.h];exact cZ.2 ⟨he,hlen⟩
   have hc:∀m,o+m≤ee.length->eS s (.val (.ptr b l.length i o)) m=some ((ee.drop o).take m):=fun m hm=>by
    simp only[eS,hg,aB,q1,if_pos hm]
   cases n with
   |none=>
    have h2:=h2 rfl
    simp only[Option.getD_none]at h1 h2
    simp only[aT,hx,aB,kT.val,hc 1 h1,h2]
   |some m=>
    have h2':=h2' m rfl
    simp only[kC]at h1 h2'
    simp only[aT,hx,aB,kT.val,hc m h1,h2']
  split at e
  ·rename_i hp
   obtain⟨c3,p1,p2,p3,p4⟩:=Tu g1.gh q3
   obtain⟨s1,s2⟩:=Oe hs p4
   have s3:=Bm p1 p2 p3 hp s1
   obtain⟨iv',t1,t2,t3⟩:=Jl hw s3
   refine⟨.val iv',s,ev s2 t2 t3,w,{ st with H:=c1.H },c1,g1,le1,t1,e⟩
  ·split at e
   ·rename_i hwr
    subst hwr
    obtain⟨c2,b',es',e',k1,k2,k3,k4,k5,k6,k7,k8,k9⟩:=Fq g1.gh hB hl
    rw[hm]at k6;injection k6 with k6;subst k6
    rw[he]at k7;injection k7 with k7;injection k7 with k7;injection k7 with _ k7;subst k7
    rw[q1]at k8;injection k8 with k8;subst k8
    obtain⟨s1,s2⟩:=Oe hs k5
    obtain⟨iv',t1,t2,t3⟩:=Jl hw s1
    refine⟨.val iv',s,ev s2 t2 t3,w,{ st with H:=c2.H },c2,⟨k3,rfl,k2.trans g1.h,g1.gf.le k4⟩,le1.trans k4,t1,by rw[k1];exact e⟩
   ·cases e
 ·cases e
theorem Lh {n:Nat} {B i o:Nat} {iv:IV} {p x:SX} {vs:List AV} {us:List IV} {ix:IV} (g:G R T TI c st s) (hx:p.ev s.1=some (.val iv)) (hv:lW c B i (.st o) iv) (h1:x.val s.1=some ix) (h2:ix.flat=some us) (h3:dB c vs us) (hn:us.length=n)
 (e:Hs B i o vs st k=some r):fG prog opn R T TI c s k r dst (.store n p x):=by
 unfold lW at hv
 unfold Hs at e
 rw[<-g.H]at e
 have fin:∀{c1:Cf} {t:Ty} {l:List t.den} {cs1 cs':List AV} {b:Nat} {es:List (List IV)} {ee:List IV},GH R c1->Le c c1->c1.h=c.h->c1.H[B]? = some (.arr2 true t l (some (i,cs1)))->c1.m B=some b->c1.h[b]? = some (some ⟨t.n,es⟩)->es[i]? = some ee->ee.length=t.n->es.length=l.length->iv = .ptr b l.length i o->
  dB c1 cs1 ee->xX cs1 o vs=some cs'->tD B (c1.H.set B (.arr2 true t l (some (i,cs')))) (fun H'=>k (.val (.tup [])) { st with H:=H' })=some r->fG prog opn R T TI c s k r dst (.store n p x):=by
  intro c1 t l cs1 cs' b es ee g1 le1 hh hB hm he hee hel hll hiv hc hs e
  obtain⟨s1,s2⟩:=Lk hs hc (h3.le le1)
  have hsl:(eH ee o us).length=t.n:=by rw[xV s2];exact hel
  obtain⟨c2,k1,k2,k3,k4,k5⟩:=Sj g1 hB hm he hsl s1
  obtain⟨c3,g3,le3,e3⟩:=zN (s:=(s.1,s.2.set b (some ⟨t.n,es.set i (eH ee o us)⟩))) (c:=c2) (fr:=st.fr) (H:=c1.H.set B (.arr2 true t l (some (i,cs')))) ⟨k3,k1,by rw[k2,hh,g.h],(g.gf.le le1).le k4⟩ e
  refine⟨.val (.tup []),_,?_,.val (.tup []),{ st with H:=c3.H },c3,g3,(le1.trans k4).trans le3,by simp[cY,Va,jP],e3⟩
  have hg:hget s.2 b l.length=some ⟨t.n,es⟩:=by rw[<-g.h,<-hh];exact cZ.2 ⟨he,hll⟩
  simp only[aT,hx,h1,h2,aB,if_pos hn,hiv,storeAt,hg,hee,if_pos s2]
 cases hB:c.H[B]? with
 |none=>rw[hB]at hv;exact hv.elim
 |some z=>
  rw[hB]at hv e
  cases z<;>simp only at hv e<;>try (cases e;done)
  rename_i wr t l op
  obtain⟨b,hm,hiv,hil⟩:=hv
  cases wr with
  |false=>cases op<;>(simp only at e;cases e)
  |true=>
   cases op with
   |none=>
    simp only at e
    obtain⟨v,hl,e⟩:=aA.1 e
    obtain⟨cs',hs,e⟩:=aA.1 e
    obtain⟨c2,b',es,ee,k1,k2,k3,k4,k5,k6,k7,k8,k9⟩:=Fq g.gh hB hl
    rw[hm]at k6;injection k6 with k6;subst k6
    have hB2:c2.H[B]? = some (.arr2 true t l (some (i,(jO (gP c.H) t v c.H).1))):=by
     obtain⟨_,z,hz,_⟩:=k4.H B _ hB
     rw[k1]at hz |-
     exact eK (a:=(jO (gP c.H) t v c.H).2[B]'(by have:=cF hz;simpa using this)) (aG _)
    have hm2:c2.m B=some b:=by rw[(k4.H B _ hB).1];exact hm
    have br:=k3.blk B _ hB2
    have hel:ee.length=t.n:=by
     have:=g.gh.blk B _ hB
     simp only[BR,hm]at this
     obtain⟨es0,Ms,q1,q2,_⟩:=this
     rw[k7]at q1;injection q1 with q1;injection q1 with q1;injection q1 with _ q1;subst q1
     obtain⟨e2,M,q3,_,q4,_⟩:=q2.split hl
     rw[k8]at q3;injection q3 with q3;subst q3
     exact En q4
    refine fin (cs':=cs') k3 k4 k2 hB2 hm2 (by rw[k2];exact k7) k8 hel k9 hiv k5 hs ?_
    rw[k1,List.set_set];exact e
   |some y=>
    obtain⟨j,cs1⟩:=y
    simp only[qI,decide_eq_true_eq]at e
    split at e
    ·rename_i hj;subst hj
     obtain⟨cs',hs,e⟩:=aA.1 e
     have br:=g.gh.blk B _ hB
     simp only[BR]at br
     obtain⟨b',es1,ee,es2,Ms1,Ms2,hm',he,hi,hl,hel,q1,q2,hc,hf⟩:=br
     rw[hm]at hm';injection hm' with hm';subst hm'
     refine fin (cs':=cs') g.gh (Le.refl c) rfl hB hm he ?_ hel ?_ hiv hc hs e
     ·rw[<-hi];simp
     ·have h1:=q1.len.1
      have h2:=q2.len.1
      simp only[bP,bW,aV,eE]at h1 h2 |-
      omega
    ·cases e
theorem Fd {H:eB} {t:Ty} {b:AV} {iy:IV} {y:List t.den×Nat} (hH:c.H=H) (hb:xB c) (v:Va c b iy) (e:Jo H t b=some y):
 c.H[y.2]? = some (.arr2 true t y.1 none)/\fC (c.m y.2) y.1.length iy/\∃es Ms,fF c.h t.n iy=some es/\kK (TF c.p c.Z c.h c.rt t) y.1 es Ms/\c.f y.2=cS Ms.flatten:=by
 subst hH
 unfold Jo at e
 split at e
 ·rename_i B
  split at e
  ·rename_i t' l hB
   split at e
   ·rename_i ht;subst ht
    simp only[pK,aD]at e;subst e
    simp only[Va,mP]at v
    rw[hB]at v
    have v:fC (c.m B) l.length iy:=v.2
    refine⟨hB,v,?_⟩
    have br:=hb B _ hB
    simp only[BR]at br
    cases hm:c.m B with
    |none=>
     rw[hm]at br v
     obtain⟨rfl,hf⟩:=br
     refine⟨[],[],?_,trivial,hf⟩
     simp only[fC]at v
     rcases v with rfl|rfl<;>rfl
    |some b=>
     rw[hm]at br v
     obtain⟨es,Ms,he,ha,hf⟩:=br
     refine⟨es,Ms,?_,ha,hf⟩
     simp only[fC]at v
     subst v
     have hl:=ha.len.1
     have:hget c.h b l.length=some ⟨t'.n,es⟩:=cZ.2 ⟨he,hl⟩
     simp only[fF,this,aB,eO]
     rw[if_pos (by simp),<-hl,eX]
   ·cases e
  ·cases e
 ·cases e
theorem fC.nils {n:Nat} {iv:IV} (h:iv = .nils\/iv = .esl):fC none n iv:=h
theorem fC.onc {mb:Option Nat} {n:Nat} {iv:IV} (h:fC mb n iv):iv.onc=true:=by
 unfold fC at h
 split at h
 ·rcases h with rfl|rfl<;>rfl
 ·subst h;rfl
theorem Ib {st:gJ} (g:G R T TI c st s) {S:List Nat} (hw:∀B∈S,∃x,c.H[B]? = some x/\x.wr=true) {t:Ty} {l:List t.den} {mb:Option Nat} {f':List Nat} {h':aN} {iv:IV} (hlen:c.h.length≤h'.length)
 (hh:∀i,i<c.h.length->(∀B∈S,i∉c.ft B)->h'[i]? = c.h[i]?) (hin:∀b,b∈mb.toList++f'->((∃B∈S,b∈c.ft B)\/c.h.length≤b)/\b<h'.length) (hnd:(mb.toList++f').Nodup)
 (hv:fC mb l.length iv) (hbr:match mb with|none=>l=[]/\f'=[]|some b=>∃es Ms,h'[b]? = some (some ⟨t.n,es⟩)/\kK (TF c.p c.Z c.h c.rt t) l es Ms/\f'=cS Ms.flatten) (hsame:∀b∈f',h'[b]? = c.h[b]?)
 (e:k (.val (.own2 c.H.length)) { st with H:=eL S false 0 c.H++[.arr2 true t l none] } = some r) {op:gQ} (ev:aT (eC prog opn) opn dst op s=some (.val iv,(s.1,h'))):fG prog opn R T TI c s k r dst op:=by
 obtain⟨c',hc',g',le⟩:=g.gh.gather hw (x':=.arr2 true t l none) rfl mb f' h' hlen hh hin hnd (fun c' hc' le=>by
  simp only[BR]
  cases mb with
  |none=>exact hbr
  |some b=>
   obtain⟨es,Ms,h1,h2,h3⟩:=hbr
   refine⟨es,Ms,by rw[hc'];exact h1,h2.imp fun a e M hM h=>?_,h3⟩
   rw[le.p]
   exact TF.mono le.Z le.rt h fun b' hb'=>by rw[hc'];exact hsame b' (by rw[h3];exact nP hM hb'))
 refine⟨.val iv,(s.1,h'),ev,.val (.own2 c.H.length),{ st with H:=eL S false 0 c.H++[.arr2 true t l none] },c',⟨g',?_,?_,g.gf.le le⟩,le,?_,e⟩
 ·rw[hc']
 ·rw[hc']
 ·simp only[cY,Va,mP]
  refine⟨hv.onc,?_⟩
  have:c'.H[c.H.length]? = some (.arr2 true t l none):=by
   rw[hc']
   have:=Gc (H:=c.H) (l:=S) (k:=0)
   rw[<-this];exact nN
  rw[this]
  simp only
  rw[hc'];simp only[pA,if_true];exact hv
theorem own_lt {c:Cf} (g:GH R c) {B b:Nat} {x:jY} (hB:c.H[B]? = some x) (hx:x.wr=true) (h:b∈c.ft B):b<c.h.length:=g.lt B x b hB (by intro e;subst e;cases hx) h
theorem Un {sz bytes:Nat} {t:Ty} {x y:SX} {a b:AV} {ix iy:IV} (g:G R T TI c st s) (hsz:t.n=sz) (hpos:0<sz) (h1:x.val s.1=some ix) (h2:Va c a ix) (h3:y.val s.1=some iy) (h4:Va c b iy)
 (e:Ya bytes t a b st k=some r):fG prog opn R T TI c s k r dst (.app sz bytes x y):=by
 subst hsz
 unfold Ya at e
 split at e
 ·obtain⟨z,e1,e'⟩:=aA.1 e
  clear e;have e:=e';clear e'
  obtain⟨hc,e'⟩:=dZ.1 e
  clear e;have e:=e';clear e'
  rw[decide_eq_true_eq]at hc
  obtain⟨hB,hv,es,Ms,he,ha,hf⟩:=Fd g.H g.gh.blk h4 e1
  have hl:=ha.len.1
  simp only[Va]at h2
  rw[<-g.H]at e
  have he':fF s.2 t.n iy=some es:=by rw[<-g.h];exact he
  have hnd:=g.gh.nd _ _ hB rfl
  by_cases hn:z.1=[]
  ·have hes:es=[]:=bK.1 (by rw[hl,hn];rfl)
   have hMs:Ms=[]:=bK.1 (by rw[ha.len.2,hn];rfl)
   refine Ib (mb:=none) (f':=[]) (h':=c.h) (iv:=ix) g (S:=[z.2]) (fun B hB'=>by simp at hB';subst hB';exact⟨_,hB,rfl⟩) (aK _) (fun _ _ _=>rfl) (by simp) (by simp) h2 ⟨hn,rfl⟩ (by simp) e ?_
   simp only[aT,h1,h3,aB,append,he',if_neg (show ¬t.n=0 by omega),hes]
   rcases h2 with rfl|rfl<;>simp[g.h]
  ·have hes:es≠[]:=by intro h;rw[h]at hl;exact hn (bK.1 hl.symm)
   refine Ib (mb:=some c.h.length) (f':=cS Ms.flatten) (h':=c.h++[some ⟨t.n,es⟩]) (iv:=.sl c.h.length es.length 0 es.length es.length) g (S:=[z.2]) (fun B hB'=>by simp at hB';subst hB';exact⟨_,hB,rfl⟩) (by simp) (fun i hi _=>bC hi) (fun b hb=>?_) ?_ (by simp only[fC];rw[hl]) ⟨es,Ms,by simp,ha,rfl⟩ (fun b hb=>?_) e ?_
   ·simp only[dX,cN,aQ]at hb
    rcases hb with rfl|hb
    ·exact⟨.inr (aK _),by simp⟩
    ·have hb':b∈c.ft z.2:=Cf.ft_f (by rw[hf];exact hb)
     have:=own_lt g.gh hB rfl hb'
     exact⟨.inl ⟨z.2,by simp,hb'⟩,by simp;omega⟩
   ·simp only[dX,cN,cT]
    refine⟨fun hb=>?_,?_⟩
    ·have:=own_lt g.gh hB rfl (b:=c.h.length) (Cf.ft_f (by rw[hf];exact hb))
     omega
    ·rw[<-hf]
     simp only[Cf.ft,fD]at hnd
     exact hnd.2.1
   ·have:=own_lt g.gh hB rfl (b:=b) (Cf.ft_f (by rw[hf];exact hb))
    exact bC this
   ·simp only[aT,h1,h3,aB,append,he,if_neg (show ¬t.n=0 by omega),<-g.h]
    rcases h2 with rfl|rfl<;>simp only[if_neg hes,hl,if_pos hc,aB]
 ·rename_i B
  obtain⟨c1,g1,le1,e'⟩:=zN (fr:=st.fr) g e
  clear e;have e:=e';clear e'
  obtain⟨z,e1,e'⟩:=aA.1 e
  clear e;have e:=e';clear e'
  have h2':=Va.le le1 h2
  have h4':=Va.le le1 h4
  simp only[Va,mP]at h2'
  obtain⟨hB2,hv2,es2,Ms2,he2,ha2,hf2⟩:=Fd (H:=c1.H) rfl g1.gh.blk h4' e1
  split at e
  ·rename_i t' l hB
   split at e
   ·rename_i ht;subst ht
    simp only[pK]at e
    split at e
    ·cases e
    ·rename_i hne
     obtain⟨hc,e'⟩:=dZ.1 e
     clear e;have e:=e';clear e'
     rw[decide_eq_true_eq]at hc
     rw[hB]at h2'
     have hv:fC (c1.m B) l.length ix:=h2'.2
     have br:=g1.gh.blk B _ hB
     simp only[BR]at br
     have hl2:=ha2.len.1
     have he':fF s.2 t'.n iy=some es2:=by rw[<-g1.h];exact he2
     have hS:∀B'∈[B,z.2],∃x,c1.H[B']? = some x/\x.wr=true:=fun B' hB'=>by
      simp at hB'
      rcases hB' with rfl|rfl
      ·exact⟨_,hB,rfl⟩
      ·exact⟨_,hB2,rfl⟩
     have nd1:=g1.gh.nd _ _ hB rfl
     have nd2:=g1.gh.nd _ _ hB2 rfl
     have dis:∀b,b∈c1.ft B->b∉c1.ft z.2:=fun b q1 q2=>hne (g1.gh.inj B z.2 _ _ b hB hB2 rfl rfl q1 q2)
     refine(fun(q:fG prog opn R T TI c1 s k r dst (.app t'.n bytes x y))=>?_) ?_
     ·obtain⟨sv,s',q1,a',st',c',q2,q3,q4,q5⟩:=q
      exact⟨sv,s',q1,a',st',c',q2,le1.trans q3,q4,q5⟩
     cases hm:c1.m B with
     |none=>
      rw[hm]at br hv
      obtain⟨rfl,hf⟩:=br
      simp only[fC]at hv
      by_cases hn:z.1=[]
      ·have hes:es2=[]:=bK.1 (by rw[hl2,hn];rfl)
       refine Ib (mb:=none) (f':=[]) (h':=c1.h) (iv:=ix) g1 (S:=[B,z.2]) hS (aK _) (fun _ _ _=>rfl) (by simp) (by simp) hv ⟨by simp[hn],rfl⟩ (by simp) e ?_
       simp only[aT,h1,h3,aB,append,he',if_neg (show ¬t'.n=0 by omega),hes]
       rcases hv with rfl|rfl<;>simp[g1.h]
      ·have hes:es2≠[]:=by intro h;rw[h]at hl2;exact hn (bK.1 hl2.symm)
       refine Ib (mb:=some c1.h.length) (f':=cS Ms2.flatten) (h':=c1.h++[some ⟨t'.n,es2⟩]) (iv:=.sl c1.h.length es2.length 0 es2.length es2.length) g1 (S:=[B,z.2]) hS (by simp) (fun i hi _=>bC hi) (fun b hb=>?_) ?_ (by simp only[fC,bZ];rw[hl2]) ⟨es2,Ms2,by simp,by simpa using ha2,rfl⟩ (fun b hb=>?_) e ?_
       ·simp only[dX,cN,aQ]at hb
        rcases hb with rfl|hb
        ·exact⟨.inr (aK _),by simp⟩
        ·have hb':b∈c1.ft z.2:=Cf.ft_f (by rw[hf2];exact hb)
         have:=own_lt g1.gh hB2 rfl hb'
         exact⟨.inl ⟨z.2,by simp,hb'⟩,by simp;omega⟩
       ·simp only[dX,cN,cT]
        refine⟨fun hb=>?_,?_⟩
        ·have:=own_lt g1.gh hB2 rfl (b:=c1.h.length) (Cf.ft_f (by rw[hf2];exact hb))
         omega
        ·rw[<-hf2]
         simp only[Cf.ft,fD]at nd2
         exact nd2.2.1
       ·have:=own_lt g1.gh hB2 rfl (b:=b) (Cf.ft_f (by rw[hf2];exact hb))
        exact bC this
       ·simp only[iL,bV]at hc
        simp only[aT,h1,h3,aB,append,he2,if_neg (show ¬t'.n=0 by omega),<-g1.h]
        rcases hv with rfl|rfl<;>simp only[if_neg hes,hl2,if_pos hc,aB]
     |some b0=>
      rw[hm]at br hv
      obtain⟨es,Ms,he,ha,hf⟩:=br
      simp only[fC]at hv
      subst hv
      have hl:=ha.len.1
      have hb0:b0∈c1.ft B:=Cf.ft_m hm
      have hb0l:=own_lt g1.gh hB rfl hb0
      have hg:hget s.2 b0 l.length=some ⟨t'.n,es⟩:=by rw[<-g1.h];exact cZ.2 ⟨he,hl⟩
      have hin:∀b,b∈b0::(cS Ms.flatten++cS Ms2.flatten)->(∃B'∈[B,z.2],b∈c1.ft B')/\b<c1.h.length:=fun b hb=>by
       rcases aQ.1 hb with rfl|hb
       ·exact⟨⟨B,by simp,hb0⟩,hb0l⟩
       ·rcases aE.1 hb with hb|hb
        ·have hb':b∈c1.ft B:=Cf.ft_f (by rw[hf];exact hb)
         exact⟨⟨B,by simp,hb'⟩,own_lt g1.gh hB rfl hb'⟩
        ·have hb':b∈c1.ft z.2:=Cf.ft_f (by rw[hf2];exact hb)
         exact⟨⟨z.2,by simp,hb'⟩,own_lt g1.gh hB2 rfl hb'⟩
      have hnd:(b0::(cS Ms.flatten++cS Ms2.flatten)).Nodup:=by
       simp only[Cf.ft,hm,hf,dX,cN]at nd1
       rw[<-cG,fD]
       refine⟨nd1,?_,fun a ha' b hb' e=>?_⟩
       ·rw[<-hf2]
        simp only[Cf.ft,fD]at nd2
        exact nd2.2.1
       ·subst e
        refine dis a ?_ (Cf.ft_f (by rw[hf2];exact hb'))
        simp only[Cf.ft,hm,hf,dX,cN];exact ha'
      have hnb:∀b,b∈cS Ms.flatten++cS Ms2.flatten->b≠b0:=fun b hb e=>by
       rw[cT]at hnd
       exact hnd.1 (by rw[<-e];exact hb)
      by_cases hn:z.1=[]
      ·have hes:es2=[]:=bK.1 (by rw[hl2,hn];rfl)
       have hMs:Ms2=[]:=bK.1 (by rw[ha2.len.2,hn];rfl)
       refine Ib (mb:=some b0) (f':=cS Ms.flatten++cS Ms2.flatten) (h':=c1.h) (iv:=.sl b0 l.length 0 l.length l.length) g1 (S:=[B,z.2]) hS (aK _) (fun _ _ _=>rfl) (fun b hb=>by obtain⟨q1,q2⟩:=hin b hb;exact⟨.inl q1,q2⟩) hnd (by simp[fC,hn]) ⟨es,Ms,he,by simpa [hn]using ha,by simp[hMs,cS]⟩ (fun _ _=>rfl) e ?_
       simp only[aT,h1,h3,aB,append,he',if_neg (show ¬t'.n=0 by omega),hg,hes]
       simp[g1.h]
      ·have hes:es2≠[]:=by intro h;rw[h]at hl2;exact hn (bK.1 hl2.symm)
       have hlp:0<es2.length:=fN.2 hes
       refine Ib (mb:=some b0) (f':=cS Ms.flatten++cS Ms2.flatten) (h':=c1.h.set b0 (some ⟨t'.n,es++es2⟩)) (iv:=.sl b0 (l.length+es2.length) 0 (l.length+es2.length) (l.length+es2.length)) g1 (S:=[B,z.2]) hS (by simp) (fun i hi hno=>bX (fun e=>hno B (by simp) (by rw[e];exact hb0)))
        (fun b hb=>by obtain⟨q1,q2⟩:=hin b hb;exact⟨.inl q1,by simpa using q2⟩) hnd (by simp only[fC,aV];rw[hl2]) ⟨es++es2,Ms++Ms2,eK he,ha.app ha2,by simp[kI]⟩ (fun b hb=>bX (hnb b hb)) e ?_
       simp only[aT,h1,h3,aB,append,he',if_neg (show ¬t'.n=0 by omega),hg]
       rw[hl2]at *
       rw[if_pos ⟨trivial,aK _,by omega⟩,if_neg hes,if_neg (by omega),if_pos hc,if_pos ⟨by omega,trivial⟩]
       simp only[aB,<-hl,eX,g1.h]
   ·cases e
  ·cases e
 ·cases e
theorem Qj {c:Cf} (g:GH R c):∀{w:List Nat},w.Nodup->(∀B∈w,∃x,c.H[B]? = some x/\x.wr=true)->(w.flatMap c.ft).Nodup:=by
 intro w
 induction w with
 |nil=>intro _ _;simp
 |cons B w ih=>
  intro hn hw
  rw[cT]at hn
  have ih:=ih hn.2 (fun B hB=>hw B (by simp[hB]))
  obtain⟨x,h1,h2⟩:=hw B (by simp)
  rw[eG,fD]
  refine⟨g.nd B x h1 h2,ih,fun a ha b hb e=>?_⟩
  subst e
  obtain⟨B',hB',hm'⟩:=dS.1 hb
  obtain⟨x',h3,h4⟩:=hw B' (by simp[hB'])
  exact hn.1 (by rw[g.inj B B' x x' a h1 h3 h2 h4 ha hm'];exact hB')
theorem Hc {c:Cf} (hb:xB c) {t:Ty}:∀{es:List (List AV)} {us:List (List IV)} {y:List t.den×List Nat},dI (dB c) es us->He c.H t es=some y->
 ∃Ms,kK (TF c.p c.Z c.h c.rt t) y.1 us Ms/\(cS Ms.flatten).Perm (y.2.flatMap c.ft)/\∀B∈y.2,∃x,c.H[B]? = some x/\x.wr=true
 |[],[],y,_,e=>by
  simp only[He,aD]at e;subst e
  exact⟨[],trivial,by simp[cS],by simp⟩
 |a::es,b::us,y,h,e=>by
  simp only[He]at e
  obtain⟨z,e1,e⟩:=aA.1 e
  split at e
  ·rename_i hz
   split at e
   ·rename_i hf
    obtain⟨y',e2,e⟩:=aA.1 e
    simp only[aD]at e;subst e
    rw[Rq]at hf
    obtain⟨u,v,M,rfl,g1,g2,g3⟩:=kL hb (fun _ h=>h) h.1 e1 (fun B hB=>by rw[hf]at hB;cases hB)
    rw[hz]at g2
    simp only[dB]at g2;subst g2
    rw[bA]at *
    obtain⟨Ms,q1,q2,q3⟩:=Hc hb h.2 e2
    refine⟨M::Ms,⟨g1,q1⟩,?_,fun B hB=>?_⟩
    ·simp only[cB,kI,List.flatMap_append]
     exact g3.own.append q2
    ·rcases aE.1 hB with hB|hB
     ·exact g3.w B hB
     ·exact q3 B hB
   ·cases e
  ·cases e
 |[],_::_,_,h,_=>h.elim
 |_::_,[],_,h,_=>h.elim
theorem Uk {sz len:Nat} {z:List IV} {ps:List (Nat×SX)} {t:Ty} {es:List (List AV)} {us:List (List IV)} (g:G R T TI c st s) (hsz:t.n=sz) (hu:dI (dB c) es us) (hlen:us.length=len) (e:Xz t es st k=some r)
 (ev:aT (eC prog opn) opn dst (.bsl true sz z len ps) s=some (.val (.sl s.2.length len 0 len len),(s.1,s.2++[some ⟨sz,us⟩]))):fG prog opn R T TI c s k r dst (.bsl true sz z len ps):=by
 subst hsz
 unfold Xz at e
 rw[<-g.H]at e
 obtain⟨y,e1,e'⟩:=aA.1 e
 clear e;have e:=e';clear e'
 split at e
 ·rename_i hn
  rw[lQ]at hn
  obtain⟨Ms,q1,q2,q3⟩:=Hc g.gh.blk hu e1
  have hl:=q1.len.1
  have fin:∀b∈cS Ms.flatten,∃B∈y.2,b∈c.ft B:=fun b hb=>dS.1 (q2.mem_iff.1 hb)
  have flt:∀b∈cS Ms.flatten,b<c.h.length:=fun b hb=>by
   obtain⟨B,hB,hb'⟩:=fin b hb
   obtain⟨x,h1,h2⟩:=q3 B hB
   exact own_lt g.gh h1 h2 hb'
  refine Ib (mb:=some c.h.length) (f':=cS Ms.flatten) (h':=c.h++[some ⟨t.n,us⟩]) (iv:=.sl c.h.length len 0 len len) g (S:=y.2) q3 (by simp) (fun i hi _=>bC hi) (fun b hb=>?_) ?_ (by simp only[fC];rw[<-hl,hlen]) ⟨us,Ms,by simp,q1,rfl⟩ (fun b hb=>bC (flt b hb)) e (by rw[g.h];exact ev)
  ·simp only[dX,cN,aQ]at hb
   rcases hb with rfl|hb
   ·exact⟨.inr (aK _),by simp⟩
   ·have:=flt b hb
    exact⟨.inl (fin b hb),by simp;omega⟩
  ·simp only[dX,cN,cT]
   refine⟨fun hb=>?_,?_⟩
   ·have:=flt _ hb
    omega
   ·rw[q2.nodup_iff];exact Qj g.gh hn q3
 ·cases e
theorem Cd {σ:Fr} {sz:Nat}:∀{ps:List (Nat×SX)} {us out:List (List IV)},lD σ sz us ps=some out->out.length=us.length
 |[],us,out,h=>by simp only[lD,aD]at h;subst h;rfl
 |(i,x)::ps,us,out,h=>by
  simp only[lD]at h
  obtain⟨_,_,h⟩:=aA.1 h
  obtain⟨_,_,h⟩:=aA.1 h
  split at h
  ·have:=Cd h;simpa using this
  ·cases h
theorem Ur {op:gQ} (g:G R T TI c st s) (e:Yd ety T st dst op k=some r):fG prog opn R T TI c s k r dst op:=by
 unfold Yd at e
 split at e
 ·
  split at e
  ·rename_i hx
   obtain⟨sv,h1,h2⟩:=kA g.gf hx
   cases sv<;>simp only[cY,Va]at h2
   exact Pn g h1 h2.2 e
  ·cases e
 ·
  split at e
  ·rename_i hx
   obtain⟨v,e1,e'⟩:=aA.1 e
   clear e;have e:=e';clear e'
   obtain⟨vs,e2,e'⟩:=aA.1 e
   clear e;have e:=e';clear e'
   split at e
   ·rename_i hn
    obtain⟨sv,h1,h2⟩:=kA g.gf hx
    cases sv<;>simp only[cY,Va]at h2
    obtain⟨iv,h3,h4⟩:=dV g.gf e1
    obtain⟨us,h5,h6⟩:=uL h4 e2
    exact Lh g h1 h2.2 h3 h5 h6 (by rw[(dB.len h6).1,hn]) e
   ·cases e
  ·cases e
 ·
  split at e
  ·rename_i B i o hx
   split at e
   ·rename_i wr t l op hB
    obtain⟨sv,h1,h2⟩:=kA g.gf hx
    cases sv<;>simp only[cY,Va]at h2
    rw[<-g.H]at hB
    have h3:=h2.2
    unfold lW at h3
    rw[hB]at h3
    obtain⟨b,hm,rfl,hil⟩:=h3
    refine .same g (sv:=.val (.ptr b l.length i (o.val+_))) (by simp only[aT,h1,aB];rfl) ?_ e
    simp only[cY,Va,lW,hB]
    exact⟨rfl,b,hm,by rw[kT.add_val],hil⟩
   ·cases e
  ·cases e
 ·
  split at e
  ·rename_i B i o hx
   split at e
   ·rename_i wr t l op hB
    obtain⟨sv,h1,h2⟩:=kA g.gf hx
    cases sv<;>simp only[cY,Va]at h2
    rw[<-g.H]at hB
    have h3:=h2.2
    unfold lW at h3
    rw[hB]at h3
    obtain⟨b,hm,rfl,hil⟩:=h3
    refine .same g (sv:=.val (.ptr b l.length i o.val)) (by simp only[aT,h1,aB]) ?_ e
    simp only[cY,Va]
    exact h2
   ·cases e
  ·cases e
 ·
  split at e
  ·rename_i B hx
   obtain⟨iv,e1,e'⟩:=aA.1 e
   clear e;have e:=e';clear e'
   obtain⟨ix,h1,h2⟩:=dV g.gf hx
   obtain⟨ii,h3,h4⟩:=dV g.gf e1
   obtain⟨n,h5,e'⟩:=qE h4 e
   clear e;have e:=e';clear e'
   split at e
   ·rename_i wr t l op hB
    split at e
    ·rename_i hsz;subst hsz
     obtain⟨hc,e'⟩:=dZ.1 e
     clear e;have e:=e';clear e'
     rw[decide_eq_true_eq]at hc
     rw[<-g.H]at hB
     simp only[Va,mP]at h2
     rw[hB]at h2
     have hv:fC (c.m B) l.length ix:=h2.2
     have br:=g.gh.blk B _ hB
     cases hm:c.m B with
     |none=>
      rw[hm]at br
      rw[(BR.arr2_none br).2.1]at hc
      simp at hc
     |some b=>
      rw[hm]at br hv
      simp only[fC]at hv
      subst hv
      obtain⟨es,he,hl⟩:∃es,c.h[b]? = some (some ⟨t.n,es⟩)/\es.length=l.length:=by
       cases op with
       |none=>simp only[BR]at br;obtain⟨es,Ms,q1,q2,_⟩:=br;exact⟨es,q1,q2.len.1⟩
       |some y=>
        obtain⟨j,cs1⟩:=y
        simp only[BR]at br
        obtain⟨b',es1,ee,es2,Ms1,Ms2,hb',q0,q1,q2,q3,q4,q5,_⟩:=br
        injection hb' with hb';subst hb'
        refine⟨_,q0,?_⟩
        have h1:=q4.len.1
        have h2:=q5.len.1
        simp only[bP,bW,aV,eE]at h1 h2 |-
        omega
      have hg:hget s.2 b l.length=some ⟨t.n,es⟩:=by rw[<-g.h];exact cZ.2 ⟨he,hl⟩
      refine .same g (sv:=.val (.ptr b l.length (0+n) 0)) (by simp only[aT,h1,h3,h5,aB,hg];rw[if_pos ⟨trivial,hc,by omega⟩]) ?_ e
      simp only[cY,Va,lW,hB]
      exact⟨rfl,b,hm,by simp[kT.val],hc⟩
    ·cases e
   ·cases e
  ·cases e
 ·
  obtain⟨a,e1,e'⟩:=aA.1 e
  clear e;have e:=e';clear e'
  obtain⟨b,e2,e'⟩:=aA.1 e
  clear e;have e:=e';clear e'
  obtain⟨t,e3,e'⟩:=aA.1 e
  clear e;have e:=e';clear e'
  split at e
  ·rename_i ht
   obtain⟨ix,h1,h2⟩:=dV g.gf e1
   obtain⟨iy,h3,h4⟩:=dV g.gf e2
   exact Un g ht.1 ht.2 h1 h2 h3 h4 e
  ·cases e
 ·
  split at e
  ·rename_i own sz z len ps hz
   obtain⟨a,e1,e'⟩:=aA.1 e
   clear e;have e:=e';clear e'
   split at e
   ·rename_i h1
    obtain⟨es,e2,e'⟩:=aA.1 e
    clear e;have e:=e';clear e'
    obtain⟨t,e3,e'⟩:=aA.1 e
    clear e;have e:=e';clear e'
    split at e
    ·rename_i ht
     obtain⟨us,h2,h3⟩:=rX g (dI.repl ((jS (c:=c) e1).1 h1) len) e2
     have hlen:us.length=len:=by have:=Cd h2;simpa using this
     obtain⟨ht1,rfl⟩:=ht
     refine Uk g ht1 h3 hlen e ?_
     simp only[aT]
     rw[if_pos hz,h2];rfl
    ·cases e
   ·cases e
  ·cases e
 ·cases e
end
end Go.Ideal
namespace Go.Ideal
section
variable {Rr:Type} {prog:Nat->Option mO} {opn:Nat->Bool} {cs:Nat->Option Ct} {ety:Nat->Option Ty} {icall:Nat->List AV->eB->(AV->eB->Option Rr)->Option Rr}
 {R:lL} {T:List dP} {TI:List SV} {c:Cf} {st:gJ} {s:St} {k:dP->gJ->Option Rr} {r:Rr} {dst:Option Nat}
theorem op_loadN (g:G R T TI c st s) {n:Option Nat} {x:SX} (e:aOpN T st (.load n x) k=some r):fG prog opn R T TI c s k r dst (.load n x):=by
 simp only[aOpN]at e
 split at e
 ·rename_i B i o hx
  split at e
  ·rename_i wr sz es hB
   obtain⟨cs,e1,e'⟩:=aA.1 e
   clear e;have e:=e';clear e'
   obtain⟨p,e2,e'⟩:=aA.1 e
   clear e;have e:=e';clear e'
   obtain⟨q,e3,e'⟩:=aA.1 e
   clear e;have e:=e';clear e'
   obtain⟨v,e4,e'⟩:=aA.1 e
   clear e;have e:=e';clear e'
   obtain⟨sv,h1,h2⟩:=kA g.gf hx
   cases sv<;>simp only[cY]at h2<;>try (exact h2.elim)
   rename_i iv
   simp only[Va,KeptrR]at h2
   rw[<-g.H]at hB
   rw[hB]at h2
   obtain⟨_,b,hm,rfl,hi⟩:=h2
   have br:=g.gh.blk B _ hB
   simp only[BR]at br
   obtain⟨_,b',hm',es',h3,h4⟩:=br
   rw[hm]at hm';injection hm' with hm';subst hm'
   obtain⟨e0,h5,h6,h7⟩:=h4.get e1
   obtain⟨p1,p2,p3⟩:=h6.split e2
   obtain⟨q1,q2,q3⟩:=p2.split e3
   simp only[bW]at q3
   have hg:hget s.2 b es.length=some ⟨sz,es'⟩:=by rw[<-g.h];exact cZ.2 ⟨h3,h4.len⟩
   obtain⟨iv,h9,h8,h8'⟩:=Jl e4 q1
   refine .same g (sv:=.val iv) ?_ h9 e
   cases n with
   |none=>
    replace h8:=h8 rfl
    simp only[Option.getD_none]at h8
    simp only[Option.getD_none]at q3
    simp only[aT,h1,aB,eS,hg,h5]
    rw[if_pos (by omega)]
    simp only[aB,h8]
   |some n=>
    have h8:=h8' n rfl
    simp only[kC]at q3 h8
    subst h8
    simp only[aT,h1,aB,eS,hg,h5]
    rw[if_pos (by omega)]
    simp only[aB]
  ·cases e
 ·rename_i B hx
  split at e
  ·rename_i wr hp ln kd l n hB
   split at e
   ·rename_i hn
    obtain⟨hl,e'⟩:=dZ.1 e
    clear e;have e:=e';clear e'
    rw[decide_eq_true_eq]at hl
    obtain⟨sv,h1,h2⟩:=kA g.gf hx
    cases sv<;>simp only[cY]at h2<;>try (exact h2.elim)
    rename_i iv
    simp only[Va]at h2
    rw[<-g.H]at hB
    rcases h2.2 with h|⟨wr',hp',ln',t',l',b,hB',hm,rfl,hi⟩
    ·rw[h]at hB;cases hB
    rw[hB]at hB'
    simp only[aD,jY.arr.injEq]at hB'
    obtain⟨rfl,rfl,rfl,rfl,hll⟩:=hB'
    have hll:=eq_of_heq hll
    subst hll
    have br:=g.gh.blk B _ hB
    simp only[BR,hm]at br
    obtain⟨_,es,h6,h7⟩:=br
    have hle:=h7.len
    have hg:hget s.2 b l.length=some ⟨1,es⟩:=by rw[<-g.h];exact cZ.2 ⟨h6,hle⟩
    have h0:∃e0,es[0]? = some e0/\e0.length=1:=by
     have hlt:0<es.length:=by omega
     refine⟨es[0],aG hlt,?_⟩
     obtain⟨x,_,hx⟩:=h7.mem_r es[0] (bH hlt)
     simp only[TR]at hx;rw[hx];rfl
    obtain⟨e0,h8,h9⟩:=h0
    refine .same g (sv:=.val (.agg es.flatten)) ?_ ?_ e
    ·simp only[aT,h1,aB,eS,hg,h8,kT.val]
     rw[if_neg (by omega),if_pos ⟨trivial,trivial,by omega⟩]
     rw[eO,bU (by omega)]
     rfl
    ·simp only[cY,Va]
     refine⟨_,rfl,?_⟩
     rw[dB.single]
     simp only[Ca,TR]
     exact⟨es,rfl,by omega,h7.imp fun a b h=>by simpa only[TR]using h⟩
   ·cases e
  ·cases e
 ·cases e
theorem op_iadrN (g:G R T TI c st s) {sz:Nat} {x i:SX} (e:aOpN T st (.iadr sz x i) k=some r):fG prog opn R T TI c s k r dst (.iadr sz x i):=by
 simp only[aOpN]at e
 split at e
 ·rename_i B hx
  obtain⟨b,e2,e'⟩:=aA.1 e
  clear e;have e:=e';clear e'
  obtain⟨ix,h1,h2⟩:=dV g.gf hx
  obtain⟨iy,h3,h4⟩:=dV g.gf e2
  obtain⟨n,h5,e'⟩:=qE h4 e
  clear e;have e:=e';clear e'
  split at e
  ·rename_i wr sz' es hB
   split at e
   ·rename_i hs
    subst hs
    obtain⟨hlt,e'⟩:=dZ.1 e
    clear e;have e:=e';clear e'
    rw[decide_eq_true_eq]at hlt
    rw[<-g.H]at hB
    simp only[Va,KownR]at h2
    rw[hB]at h2
    obtain⟨_,b0,hm,rfl⟩:=h2
    have br:=g.gh.blk B _ hB
    simp only[BR]at br
    obtain⟨_,b',hm',es',h6,h7⟩:=br
    rw[hm]at hm';injection hm' with hm';subst hm'
    have hg:hget s.2 b0 es.length=some ⟨sz',es'⟩:=by rw[<-g.h];exact cZ.2 ⟨h6,h7.len⟩
    refine .same g (sv:=.val (.ptr b0 es.length n 0)) ?_ ?_ e
    ·simp only[aT,h1,h3,h5,aB,hg]
     rw[if_pos ⟨trivial,hlt,by omega⟩]
     simp
    ·simp only[cY,Va,KeptrR]
     rw[hB]
     exact⟨rfl,b0,hm,rfl,hlt⟩
   ·cases e
  ·cases e
 ·cases e
theorem cas_single:∀{cs:List AV} {ivs:List IV},dB c cs ivs->cs.all AV.one=true->dI (fun e e'=>dB c e e'/\e'.length=1) (cs.map fun a=>[a]) (ivs.map fun v=>[v])
 |[],ivs,h,_=>by simp only[dB]at h;subst h;trivial
 |a::r,ivs,h,ho=>by
  simp only[gD,aF]at ho
  simp only[dB]at h
  obtain⟨u,v,rfl,h1,h2⟩:=h
  obtain⟨iv,rfl,h3,h4⟩:=(eT ho.1).1 h1
  exact⟨⟨dB.single.2 h1,rfl⟩,cas_single h2 ho.2⟩
theorem cas_flat:∀{es:List (List AV)} {us:List (List IV)},dI (dB c) es us->dB c es.flatten us.flatten
 |[],[],_=>rfl
 |e::es,u::us,h=>by simp only[cB];exact dB.app h.1 (cas_flat h.2)
 |[],_::_,h=>h.elim
 |_::_,[],h=>h.elim
theorem any_own {f:AV->Bool} (hf:∀a u,f a=true->Ca c a u->u.any IV.own=true):∀{cs:List AV} {ivs:List IV},dB c cs ivs->cs.any f=true->ivs.any IV.own=true
 |[],ivs,_,h=>by simp at h
 |a::r,ivs,h,ho=>by
  simp only[dB]at h
  obtain⟨u,v,rfl,h1,h2⟩:=h
  simp only[List.any_cons,cV]at ho
  rw[List.any_append,cV]
  rcases ho with ho|ho
  ·exact .inl (hf a u ho h1)
  ·exact .inr (any_own hf h2 ho)
theorem ownA_ok {a:AV} {u:List IV} (ho:ownA c.H a=true) (h:Ca c a u):u.any IV.own=true:=by
 unfold ownA at ho
 split at ho
 ·rename_i t cs
  simp only[Ca,Va]at h
  obtain⟨w,rfl,ivs,rfl,h⟩:=h
  simp only[List.any_cons,List.any_nil,Bool.or_false,IV.own,IV.ownL_eq]
  refine any_own (fun a u hp h=>?_) h ho
  unfold ptrA at hp
  split at hp
  ·rename_i B o
   split at hp
   ·rename_i wr cs' hB
    simp only[Ca]at h
    obtain⟨iv,rfl,_,h⟩:=h
    obtain⟨b,_,rfl⟩:=h.obj hB
    rfl
   ·cases hp
  ·cases hp
 ·cases ho
theorem kelems_ok (g:G R T TI c st s) {sz:Nat} {b:AV} {iv:IV} {fs:List (List AV)} (e:kelems st.H sz b=some fs) (h:Va c b iv):∃us,fF s.2 sz iv=some us/\dI (fun e e'=>dB c e e'/\e'.length=sz) fs us:=by
 unfold kelems at e
 split at e
 ·injection e with e;subst e
  simp only[Va]at h
  exact⟨[],by rcases h with rfl|rfl<;>rfl,trivial⟩
 ·rename_i cs'
  split at e
  ·rename_i hs
   obtain⟨rfl,ho⟩:=hs
   injection e with e;subst e
   simp only[Va]at h
   obtain⟨ivs,rfl,h⟩:=h
   refine⟨ivs.map fun v=>[v],?_,cas_single h ho⟩
   simp only[fF]
   rw[if_pos (by simp)]
  ·cases e
 ·rename_i B
  split at e
  ·rename_i wr sz' es hB
   split at e
   ·rename_i hs
    subst hs
    injection e with e;subst e
    rw[<-g.H]at hB
    simp only[Va,KownR]at h
    rw[hB]at h
    obtain⟨_,b0,hm,rfl⟩:=h
    have br:=g.gh.blk B _ hB
    simp only[BR]at br
    obtain⟨_,b',hm',es',h6,h7⟩:=br
    rw[hm]at hm';injection hm' with hm';subst hm'
    have hg:hget s.2 b0 es.length=some ⟨sz',es'⟩:=by rw[<-g.h];exact cZ.2 ⟨h6,h7.len⟩
    refine⟨es',?_,h7⟩
    simp only[fF,hg,aB]
    rw[if_pos ⟨trivial,by omega⟩]
    rw[eO,<-h7.len,eX]
   ·cases e
  ·cases e
 ·cases e
theorem op_bslN (g:G R T TI c st s) {own:Bool} {sz:Nat} {z:List IV} {len:Nat} {ps:List (Nat×SX)} (e:aOpN T st (.bsl own sz z len ps) k=some r):fG prog opn R T TI c s k r dst (.bsl own sz z len ps):=by
 have fillen:∀{ps:List (Nat×SX)} {us out:List (List IV)},lD s.1 sz us ps=some out->out.length=us.length/\((∀u∈us,u.length=sz)->∀u∈out,u.length=sz):=by
  intro ps
  induction ps with
  |nil=>intro us out h;simp only[lD,aD]at h;subst h;exact⟨rfl,fun h=>h⟩
  |cons p ps ih=>
   intro us out h
   obtain⟨i,x⟩:=p
   simp only[lD]at h
   obtain⟨_,_,h⟩:=aA.1 h
   obtain⟨vs,_,h⟩:=aA.1 h
   split at h
   ·rename_i hv
    have:=ih h
    refine⟨by simpa using this.1,fun hu=>this.2 fun u hm=>?_⟩
    rcases jL hm with hm|rfl
    ·exact hu u hm
    ·exact hv.1
   ·cases h
 simp only[aOpN]at e
 split at e
 ·rename_i hz
  obtain⟨rfl,hz1,rfl,hz3⟩:=hz
  obtain⟨a,e1,e'⟩:=aA.1 e
  clear e;have e:=e';clear e'
  split at e
  ·rename_i h1
   obtain⟨es,e2,e'⟩:=aA.1 e
   clear e;have e:=e';clear e'
   split at e
   ·rename_i hr
    obtain⟨hr1,hr2⟩:=hr
    obtain⟨us,h2,h3⟩:=rX g (dI.repl ((jS (c:=c) e1).1 h1) len) e2
    have hl:∀u∈us,u.length=1:=(fillen h2).2 fun u hu=>by rw[cA hu];exact hz1
    have hf:=cas_flat h3
    rw[<-g.H]at hr2
    have hown:us.flatten.any IV.own=true:=any_own (fun a u h h'=>ownA_ok h h') hf hr2
    have hus:us=us.flatten.map fun v=>[v]:=by
     have:∀{us:List (List IV)},(∀u∈us,u.length=1)->us=us.flatten.map fun v=>[v]:=by
      intro us
      induction us with
      |nil=>intro _;rfl
      |cons u us ih=>
       intro h
       obtain⟨v,rfl⟩:=iS.1 (h u (by simp))
       simp only[cB,cG,bZ,eZ]
       rw[<-ih fun u hu=>h u (by simp[hu])]
     exact this hl
    refine .same g (a:=.val (.klit es.flatten)) (sv:=.val (.lit us)) ?_ ?_ e
    ·simp only[aT]
     rw[if_pos ⟨hz1,by decide,hz3⟩,h2]
     simp only[aB,aR,if_false,IV.ownL_eq]
     rw[if_pos hown]
    ·simp only[cY,Va]
     exact⟨us.flatten,by rw[<-hus],hf⟩
   ·cases e
  ·cases e
 split at e
 ·rename_i hz
  obtain⟨rfl,hz1,hz2,hz3,hz4⟩:=hz
  obtain⟨a,e1,e'⟩:=aA.1 e
  clear e;have e:=e';clear e'
  split at e
  ·rename_i h1
   obtain⟨es,e2,e'⟩:=aA.1 e
   clear e;have e:=e';clear e'
   split at e
   ·rename_i hr
    obtain⟨us,h2,h3⟩:=rX g (dI.repl ((jS (c:=c) e1).1 h1) len) e2
    have hl:us.length=len/\∀u∈us,u.length=sz:=by
     have:∀{ps:List (Nat×SX)} {us out:List (List IV)},lD s.1 sz us ps=some out->out.length=us.length/\((∀u∈us,u.length=sz)->∀u∈out,u.length=sz):=by
      intro ps
      induction ps with
      |nil=>intro us out h;simp only[lD,aD]at h;subst h;exact⟨rfl,fun h=>h⟩
      |cons p ps ih=>
       intro us out h
       obtain⟨i,x⟩:=p
       simp only[lD]at h
       obtain⟨_,_,h⟩:=aA.1 h
       obtain⟨vs,_,h⟩:=aA.1 h
       split at h
       ·rename_i hv
        have:=ih h
        refine⟨by simpa using this.1,fun hu=>this.2 fun u hm=>?_⟩
        rcases jL hm with hm|rfl
        ·exact hu u hm
        ·exact hv.1
       ·cases h
     have:=this h2
     refine⟨by simpa using this.1,this.2 fun u hu=>?_⟩
     rw[cA hu];exact hz1
    have h4:dI (fun e e'=>dB c e e'/\e'.length=sz) es us:=by
     have:∀{es:List (List AV)} {us:List (List IV)},dI (dB c) es us->(∀u∈us,u.length=sz)->dI (fun e e'=>dB c e e'/\e'.length=sz) es us:=by
      intro es
      induction es with
      |nil=>intro us h _;cases us with|nil=>trivial|cons _ _=>exact h.elim
      |cons x es ih=>
       intro us h hu
       cases us with
       |nil=>exact h.elim
       |cons u us=>exact⟨⟨h.1,hu u (by simp)⟩,ih h.2 fun u hm=>hu u (by simp[hm])⟩
     exact this h3 hl.2
    have hel:us.length=es.length:=h3.len
    obtain⟨c',hc',g',le⟩:=g.gh.push (.kns true sz es) ⟨sz,us⟩ rfl fun c' hc' le=>by
     simp only[BR,true_and]
     refine⟨c.h.length,rfl,us,?_,h4.imp fun a b h=>⟨h.1.le le,h.2⟩⟩
     rw[hc'];simp
    refine⟨.val (.sl s.2.length len 0 len len),(s.1,s.2++[some ⟨sz,us⟩]),?_,.val (.kown st.H.length),{ st with H:=st.H++[.kns true sz es] },c',⟨g',?_,?_,g.gf.le le⟩,le,?_,e⟩
    ·simp only[aT]
     rw[if_pos ⟨hz1,hz2,hz3⟩,h2]
     simp only[aB,if_true]
    ·rw[hc'];simp[g.H]
    ·rw[hc'];simp[g.h]
    ·simp only[cY,Va,KownR]
     refine⟨rfl,?_⟩
     have:c'.H[st.H.length]? = some (.kns true sz es):=by rw[hc',<-g.H];exact nN
     rw[this]
     refine⟨c.h.length,by rw[hc',<-g.H];simp[pA],?_⟩
     rw[<-hel,hl.1,g.h]
   ·cases e
  ·cases e
 ·cases e
theorem op_appNn (g:G R T TI c st s) {sz bytes:Nat} {x y:SX} (e:aOpN T st (.app sz bytes x y) k=some r):fG prog opn R T TI c s k r dst (.app sz bytes x y):=by
 simp only[aOpN]at e
 split at e
 ·rename_i B hx
  obtain⟨b,e2,e'⟩:=aA.1 e
  clear e;have e:=e';clear e'
  split at e
  ·rename_i sz' es hB
   split at e
   ·rename_i hs
    obtain⟨rfl,hpos⟩:=hs
    obtain⟨fs,e3,e'⟩:=aA.1 e
    clear e;have e:=e';clear e'
    obtain⟨hcut,e'⟩:=dZ.1 e
    clear e;have e:=e';clear e'
    rw[decide_eq_true_eq]at hcut
    obtain⟨ix,h1,h2⟩:=dV g.gf hx
    obtain⟨iy,h3,h4⟩:=dV g.gf e2
    obtain⟨us,h5,h6⟩:=kelems_ok g e3 h4
    rw[<-g.H]at hB
    simp only[Va,KownR]at h2
    rw[hB]at h2
    obtain⟨_,b0,hm,rfl⟩:=h2
    have br:=g.gh.blk B _ hB
    simp only[BR]at br
    obtain⟨hf,b',hm',es',h7,h8⟩:=br
    rw[hm]at hm';injection hm' with hm';subst hm'
    have hlu:=h6.len
    have hle:=h8.len
    have hg:hget s.2 b0 es.length=some ⟨sz',es'⟩:=by rw[<-g.h];exact cZ.2 ⟨h7,hle⟩
    have fin:∀h' iv',c.h.length≤h'.length->(∀i,i<c.h.length->c.m B≠some i->h'[i]? = c.h[i]?)->h'[b0]? = some (some ⟨sz',es'++us⟩)->append s.2 sz' bytes (.sl b0 es.length 0 es.length es.length) iy=some (iv',h')->
     iv' = .sl b0 (es++fs).length 0 (es++fs).length (es++fs).length->fG prog opn R T TI c s k r dst (.app sz' bytes x y):=by
     intro h' iv' q1 q2 q3 q4 q5
     obtain⟨c',hc',g',le⟩:=g.gh.ren hB rfl (x':=.kns true sz' (es++fs)) rfl (some b0) h' q1 q2 (fun b hb=>by injection hb with hb;subst hb;exact .inl hm) (fun b hb=>by injection hb with hb;subst hb;exact cF q3) fun c' hc' le=>by
      simp only[BR,true_and]
      exact⟨b0,rfl,es'++us,by rw[hc'];exact q3,(h8.imp fun a b h=>⟨h.1.le le,h.2⟩).app (h6.imp fun a b h=>⟨h.1.le le,h.2⟩)⟩
     rw[<-g.H]at e
     refine⟨.val iv',(s.1,h'),?_,.val (.kown c.H.length),{ st with H:=c.H.set B .gone++[.kns true sz' (es++fs)] },c',⟨g',?_,?_,g.gf.le le⟩,le,?_,e⟩
     ·simp only[aT,h1,h3,aB,q4]
     ·rw[hc']
     ·rw[hc']
     ·simp only[cY,Va,KownR]
      have:c'.H[c.H.length]? = some (.kns true sz' (es++fs)):=by
       rw[hc']
       have:(c.H.set B .gone).length=c.H.length:=by simp
       rw[<-this];exact nN
      rw[this]
      subst q5
      refine⟨rfl,b0,?_,rfl⟩
      rw[hc'];simp[pA]
    by_cases hn:us=[]
    ·subst hn
     have hfs:fs=[]:=bK.1 hlu.symm
     subst hfs
     refine fin s.2 _ (by rw[g.h];exact aK _) (fun i _ _=>by rw[g.h]) (by rw[<-g.h,bA];exact h7) ?_ rfl
     simp only[append,h5,aB,if_neg (show ¬sz'=0 by omega),hg]
     rw[if_pos ⟨trivial,aK _,by omega⟩];simp
    ·have hpos':0<us.length:=fN.2 hn
     refine fin (s.2.set b0 (some ⟨sz',es'++us⟩)) (.sl b0 (es.length+us.length) 0 (es.length+us.length) (es.length+us.length)) (by rw[g.h];simp)
      (fun i hi hne=>by rw[g.h];exact bX (fun h=>hne (by rw[h];exact hm))) (by rw[g.h]at h7;exact eK h7) ?_ (by rw[aV,hlu])
     simp only[append,h5,aB,if_neg (show ¬sz'=0 by omega),hg]
     rw[if_pos ⟨trivial,aK _,by omega⟩,if_neg hn,if_neg (by omega),if_pos (by rw[hlu];exact hcut),if_pos ⟨by omega,trivial⟩]
     have:List.take es.length es'=es':=by rw[<-hle,eX]
     rw[this]
   ·cases e
  ·cases e
 ·rename_i cs' hx
  obtain⟨b,e2,e'⟩:=aA.1 e
  clear e;have e:=e';clear e'
  split at e
  ·rename_i hs
   obtain⟨rfl,ho,hrf⟩:=hs
   obtain⟨fs,e3,e'⟩:=aA.1 e
   clear e;have e:=e';clear e'
   obtain⟨ix,h1,h2⟩:=dV g.gf hx
   obtain⟨iy,h3,h4⟩:=dV g.gf e2
   obtain⟨us,h5,h6⟩:=kelems_ok g e3 h4
   have h2':=h2
   simp only[Va]at h2
   obtain⟨ivs,rfl,h2⟩:=h2
   have h7:=cas_single h2 ho
   have hl:=h6.len
   have hli:(ivs.map fun v=>[v]).length=cs'.length:=by have:=h7.len;simpa using this
   split at e
   ·rename_i hf
    have hfs:fs=[]:=by simpa using hf
    subst hfs
    have hus:us=[]:=bK.1 hl
    subst hus
    exact .same g (sv:=.val (.lit (ivs.map fun v=>[v]))) (by simp only[aT,h1,h3,aB,append,h5,if_neg (show ¬(1:Nat)=0 by decide),if_true]) (a:=.val (.klit cs')) (by simp only[cY];exact h2') e
   ·rename_i hf
    have hne:us≠[]:=by
     rintro rfl
     have:fs=[]:=bK.1 hl.symm
     subst this
     simp at hf
    obtain⟨hcut,e'⟩:=dZ.1 e
    clear e;have e:=e';clear e'
    rw[decide_eq_true_eq]at hcut
    have hall:=h7.app h6
    have hlen:=hall.len
    obtain⟨c',hc',g',le⟩:=g.gh.push (.kns true 1 (cs'.map (fun a=>[a])++fs)) ⟨1,(ivs.map fun v=>[v])++us⟩ rfl fun c' hc' le=>by
     simp only[BR,true_and]
     refine⟨c.h.length,rfl,(ivs.map fun v=>[v])++us,?_,hall.imp fun a b h=>⟨h.1.le le,h.2⟩⟩
     rw[hc'];simp
    refine⟨.val (.sl s.2.length ((ivs.map fun v=>[v]).length+us.length) 0 ((ivs.map fun v=>[v]).length+us.length) ((ivs.map fun v=>[v]).length+us.length)),(s.1,s.2++[some ⟨1,(ivs.map fun v=>[v])++us⟩]),?_,.val (.kown st.H.length),{ st with H:=st.H++[.kns true 1 (cs'.map (fun a=>[a])++fs)] },c',⟨g',?_,?_,g.gf.le le⟩,le,?_,e⟩
    ·simp only[aT,h1,h3,aB,append,h5,if_neg (show ¬(1:Nat)=0 by decide)]
     rw[if_neg hne,if_pos ⟨by simp,by rw[hli,hl];exact hcut⟩]
     rfl
    ·rw[hc'];simp[g.H]
    ·rw[hc'];simp[g.h]
    ·simp only[cY,Va,KownR]
     refine⟨rfl,?_⟩
     have:c'.H[st.H.length]? = some (.kns true 1 (cs'.map (fun a=>[a])++fs)):=by rw[hc',<-g.H];exact nN
     rw[this]
     refine⟨c.h.length,by rw[hc',<-g.H];simp[pA],?_⟩
     rw[<-hlen,aV,g.h]
  ·cases e
 ·cases e
theorem arrI_ok {cs:List AV} {y:IntKind×List Int} {u:List IV} (e:arrI cs=some y) (h:dB c cs u):u=y.2.map (fun x=>IV.int y.1 x)/\y.2.length=arrN cs:=by
 unfold arrI at e
 split at e
 ·rename_i hp ln n kd l
  injection e with e;subst e
  rw[dB.single]at h
  simp only[Ca,TR]at h
  obtain⟨es,rfl,hl,h1⟩:=h
  exact⟨wC h1,by rw[<-h1.len];exact hl⟩
 ·rename_i kd a r
  obtain⟨l,e1,e'⟩:=aA.1 e
  injection e' with e';subst e'
  have h1:=ints_cells e1 h
  refine⟨h1,?_⟩
  have h2:=(dB.len h).1
  have h3:l.length=u.length:=by rw[h1];simp
  have h4:∀{cs:List AV} {l:List Int},pY kd cs=some l->mA cs=cs.length:=by
   intro cs
   induction cs with
   |nil=>intro l _;rfl
   |cons a r ih=>
    intro l e
    cases a<;>simp only[pY]at e<;>try (cases e;done)
    split at e
    ·obtain⟨m,e1,_⟩:=aA.1 e
     simp only[mA,AV.w,ih e1,eE];omega
    ·cases e
  show l.length=(AV.int kd a::r).length
  rw[h3,h2,h4 e1]
 ·cases e
theorem newArr (g:G R T TI c st s) {kd:IntKind} {l:List Int} (hn:0<l.length) {op:gQ}
 (he:aT (eC prog opn) opn dst op s=some (.val (.ptr s.2.length l.length 0 0),(s.1,s.2++[some ⟨1,l.map fun x=>[IV.int kd x]⟩])))
 (e:k (.val (.eptr st.H.length 0 (.st 0))) { st with H:=st.H++[.arr true false false (.int kd) l] } = some r):fG prog opn R T TI c s k r dst op:=by
 obtain⟨c',hc',g',le⟩:=g.gh.push (.arr true false false (.int kd) l) ⟨1,l.map fun x=>[IV.int kd x]⟩ rfl fun c' hc' le=>by
  simp only[BR,true_and]
  refine⟨l.map fun x=>[IV.int kd x],?_,wB l⟩
  rw[hc'];simp[Ty.n]
 refine⟨_,_,he,.val (.eptr st.H.length 0 (.st 0)),{ st with H:=st.H++[.arr true false false (.int kd) l] },c',⟨g',?_,?_,g.gf.le le⟩,le,?_,e⟩
 ·rw[hc'];simp[g.H]
 ·rw[hc'];simp[g.h]
 ·simp only[cY,Va]
  refine⟨rfl,.inr ⟨true,false,false,.int kd,l,s.2.length,?_,?_,rfl,hn⟩⟩
  ·rw[hc',<-g.H];exact nN
  ·rw[hc',<-g.H,<-g.h];simp[pA]
theorem op_boxA (g:G R T TI c st s) {x:SX} (e:aOpN T st (.boxA x) k=some r):fG prog opn R T TI c s k r dst (.boxA x):=by
 simp only[aOpN]at e
 split at e
 ·rename_i cs hx
  obtain⟨y,e1,e'⟩:=aA.1 e
  clear e;have e:=e';clear e'
  split at e
  ·rename_i hn
   obtain⟨ix,h1,h2⟩:=dV g.gf hx
   simp only[Va]at h2
   obtain⟨ivs,rfl,h2⟩:=h2
   obtain⟨rfl,h4⟩:=arrI_ok e1 h2
   refine newArr g (kd:=y.1) (l:=y.2) (by omega) ?_ e
   simp only[aT,h1,aB,IV.flat,An,List.map_map]
   rfl
  ·cases e
 ·cases e
theorem op_allocA (g:G R T TI c st s) {loc:Bool} {sz:Nat} {z:List (List IV)} (e:aOpN T st (.alloc loc sz z) k=some r):fG prog opn R T TI c s k r dst (.alloc loc sz z):=by
 simp only[aOpN]at e
 split at e
 ·rename_i hz
  obtain⟨rfl,rfl,hz⟩:=hz
  obtain⟨cs,e0,e'⟩:=aA.1 e
  clear e;have e:=e';clear e'
  obtain⟨y,e1,e'⟩:=aA.1 e
  clear e;have e:=e';clear e'
  split at e
  ·rename_i hn
   have one:cs.all AV.one=true:=by
    unfold arrI at e1
    split at e1
    ·exfalso
     revert e0
     generalize z.flatten=zz
     intro e0
     cases zz with
     |nil=>simp[mN]at e0
     |cons v zs=>
      simp only[mN]at e0
      obtain⟨a,h1,h2⟩:=aA.1 e0
      obtain⟨b,h3,h4⟩:=aA.1 h2
      simp only[aD,List.cons.injEq]at h4
      obtain⟨rfl,_⟩:=h4
      have:=Kc (c:=c) h1
      simp only[Va]at this
    ·rename_i kd a r'
     obtain⟨l,h1,_⟩:=aA.1 e1
     have:∀{cs:List AV} {l:List Int},pY kd cs=some l->cs.all AV.one=true:=by
      intro cs
      induction cs with
      |nil=>intro l _;rfl
      |cons a r ih=>
       intro l e
       cases a<;>simp only[pY]at e<;>try (cases e;done)
       split at e
       ·obtain⟨m,e1,_⟩:=aA.1 e
        simp only[gD,AV.one,Bool.true_and];exact ih e1
       ·cases e
     exact this h1
    ·cases e1
   obtain⟨h3,h4⟩:=arrI_ok e1 ((jS (c:=c) e0).1 one)
   have hzz:z=y.2.map fun x=>[IV.int y.1 x]:=by
    have:∀{z:List (List IV)} {l:List IV},z.all (·.length=1)=true->z.flatten=l->z=l.map fun v=>[v]:=by
     intro z
     induction z with
     |nil=>intro l _ h;simp at h;subst h;rfl
     |cons e z ih=>
      intro l h1 h2
      simp only[gD,aF,decide_eq_true_eq]at h1
      obtain⟨v,rfl⟩:=iS.1 h1.1
      subst h2
      simp only[cB,cG,bZ,eZ]
      rw[<-ih h1.2 rfl]
    rw[this hz h3,List.map_map];rfl
   refine newArr g (kd:=y.1) (l:=y.2) (by omega) ?_ e
   simp only[aT,aR,if_false]
   rw[if_pos ⟨hz,by decide⟩,hzz]
   simp
  ·cases e
 ·cases e
theorem op_slA (g:G R T TI c st s) {n sz:Nat} {x:SX} {lo hi:Option SX} (e:aOpN T st (.slA n sz x lo hi) k=some r):fG prog opn R T TI c s k r dst (.slA n sz x lo hi):=by
 simp only[aOpN]at e
 split at e
 ·rename_i B hx
  split at e
  ·rename_i wr hp ln t l hB
   split at e
   ·rename_i hz
    obtain⟨rfl,ht⟩:=hz
    obtain⟨hl,e'⟩:=dZ.1 e
    clear e;have e:=e';clear e'
    rw[decide_eq_true_eq]at hl
    obtain⟨l0,h3,e'⟩:=qD g e
    clear e;have e:=e';clear e'
    obtain⟨r0,h4,e'⟩:=qD g e
    clear e;have e:=e';clear e'
    obtain⟨hlr,e'⟩:=dZ.1 e
    clear e;have e:=e';clear e'
    rw[decide_eq_true_eq]at hlr
    obtain⟨sv,h1,h2⟩:=kA g.gf hx
    cases sv<;>simp only[cY]at h2<;>try (exact h2.elim)
    rename_i iv
    simp only[Va]at h2
    rw[<-g.H]at hB
    rcases h2.2 with h|⟨wr',hp',ln',t',l',b,hB',hm,rfl,hi⟩
    ·rw[h]at hB;cases hB
    rw[hB]at hB'
    simp only[aD,jY.arr.injEq]at hB'
    obtain⟨rfl,rfl,rfl,rfl,hll⟩:=hB'
    have hll:=eq_of_heq hll
    subst hll
    have br:=g.gh.blk B _ hB
    simp only[BR,hm]at br
    obtain⟨_,es,h6,h7⟩:=br
    have hg:hget s.2 b l.length=some ⟨t.n,es⟩:=by rw[<-g.h];exact cZ.2 ⟨h6,h7.len⟩
    refine .same g (sv:=.val (.sl b l.length (0+l0) (r0-l0) (n-l0))) ?_ ?_ e
    ·simp only[aT,h1,h3,h4,aB,kT.val]
     rw[if_pos ⟨hlr.1,hlr.2,trivial⟩]
     simp only[hg,aB]
     rw[if_pos ⟨ht,trivial,by omega⟩]
    ·simp only[cY,Va]
     refine⟨rfl,.inr ⟨_,_,_,_,l,hB,?_⟩⟩
     unfold tJ
     rw[hm]
     exact⟨by omega,by omega,by simp⟩
   ·cases e
  ·cases e
 ·cases e
theorem aOpN_ok {op:gQ} (g:G R T TI c st s) (e:aOpN T st op k=some r):fG prog opn R T TI c s k r dst op:=by
 cases op<;>try (simp only[aOpN]at e;cases e;done)
 case load=>exact op_loadN g e
 case iadr=>exact op_iadrN g e
 case app=>exact op_appNn g e
 case bsl=>exact op_bslN g e
 case boxA=>exact op_boxA g e
 case alloc=>exact op_allocA g e
 case slA=>exact op_slA g e
end
end Go.Ideal
namespace Go.Ideal
theorem GH.setNil {R:lL} {c:Cf} (g:GH R c) {B:Nat} {hp ln hp' ln':Bool} {t:Ty} (hB:c.H[B]? = some (.arr true hp ln t [])) (hm:c.m B=none) (hf:c.f B=[]):
 ∃c',c' = { c with H:=c.H.set B (.arr true hp' ln' t []) }/\GH R c'/\Le c c':=by
 refine⟨_,rfl,g.gen rfl rfl rfl (fun j i B' h=>by simp only;rw[bX (fun e=>by rw[e,hB]at h;cases h)];exact h) (aK _) (fun _=>False) (fun _ h=>h.elim) (fun b hb _=>rfl) (fun B' y hB'=>?_) (fun le B' y hB'=>?_)⟩
 ·by_cases e:B'=B
  ·subst e
   rw[hB]at hB';injection hB' with hB';subst hB'
   exact⟨rfl,_,eK hB,.inr rfl⟩
  ·exact pW (by simp only;rw[bX e];exact hB') rfl
 ·rcases gA hB' with ⟨rfl,rfl⟩|⟨e,h⟩
  ·exact .inr (.inr ⟨rfl,by simp only[hm,hf,BR,and_self],by simp[Cf.ft,hm,hf],fun b hb=>by simp[Cf.ft,hm,hf]at hb⟩)
  ·exact .inr (.inl ⟨h,rfl,rfl,fun _ _ h=>h⟩)
section
variable {Rr:Type} {prog:Nat->Option mO} {opn:Nat->Bool} {cs:Nat->Option Ct} {ety:Nat->Option Ty} {icall:Nat->List AV->eB->(AV->eB->Option Rr)->Option Rr}
 {R:lL} {T:List dP} {TI:List SV} {c:Cf} {st:gJ} {s:St} {k:dP->gJ->Option Rr} {r:Rr} {dst:Option Nat}
variable (g:G R T TI c st s)
include g
theorem Qs {sz:Nat} {x y:SX} {b:AV} {iy:IV} (h3:y.val s.1=some iy) (h4:Va c b iy) {B off len cap:Nat} {wr hp ln:Bool} {t:Ty} {l:List t.den} {ix:IV} (h1:x.val s.1=some ix) (hB:c.H[B]? = some (.arr true hp ln t l))
 (hs:tJ (c.m B) l.length off len cap ix) (ht:t.n=sz/\0<sz) {src:List t.den} (e4:Jn c.H t b=some src)
 (e:k (.val (.int .i64 (min src.length len:Nat))) { st with H:=c.H.set B (.arr true (hp||b.hpF c.H) (ln||b.lnF c.H) t (l.take off++src.take (min src.length len)++l.drop (off+min src.length len))) } = some r):fG prog opn R T TI c s k r dst (.cpy sz x y):=by
 obtain⟨rfl,hpos⟩:=ht
 obtain⟨es,h5,h6⟩:=vN g.gh.blk e4 h4
 have hl:=h6.len
 have br:=g.gh.blk B _ hB
 simp only[BR]at br
 have hf:=br.1
 replace br:=br.2
 obtain⟨s1,s2,hs⟩:=hs
 cases hm:c.m B with
 |none=>
  rw[hm]at br hs;simp only at br hs;subst br
  obtain⟨hs,rfl,rfl⟩:=hs
  obtain⟨c',hc',g',le⟩:=g.gh.setNil (hp':=hp||b.hpF c.H) (ln':=ln||b.lnF c.H) hB hm hf
  simp only[Nat.min_zero,List.take_nil,Yj,List.drop_nil,bA]at e
  refine⟨.val (.int .i64 (0:Nat)),s,?_,.val (.int .i64 (0:Nat)),{ st with H:=c.H.set B (.arr true (hp||b.hpF c.H) (ln||b.lnF c.H) t []) },c',⟨g',?_,?_,g.gf.le le⟩,le,by simp[cY,Va],e⟩
  ·simp only[aT,h1,h3,aB,copy,<-g.h,h5]
   rcases hs with rfl|rfl<;>simp only[aB]<;>rw[g.h]
  ·rw[hc']
  ·rw[hc',g.h]
 |some b0=>
  rw[hm]at br hs;simp only at br hs;subst hs
  obtain⟨es0,q1,q2⟩:=br
  have hl0:=q2.len
  have hg:hget c.h b0 l.length=some ⟨t.n,es0⟩:=cZ.2 ⟨q1,hl0⟩
  have fl1:∀{l es},dI (TR c.p c.Z c.h ln t hp) l es->dI (TR c.p c.Z c.h (ln||b.lnF c.H) t (hp||b.hpF c.H)) l es:=fun h=>h.imp fun a b h=>TR.flags (by simp;exact fun h=>.inl h) (by simp;exact fun h=>.inl h) h
  have fl2:=h6.imp (q:=TR c.p c.Z c.h (ln||b.lnF c.H) t (hp||b.hpF c.H)) fun a b h=>TR.flags (by simp;exact fun h=>.inr h) (by simp;exact fun h=>.inr h) h
  have hall:=((fl1 (q2.take off)).app (fl2.take (min src.length len))).app (fl1 (q2.drop (off+min src.length len)))
  obtain⟨c',hc',g',le⟩:=g.gh.set hB rfl (x':=.arr true (hp||b.hpF c.H) (ln||b.lnF c.H) t (l.take off++src.take (min src.length len)++l.drop (off+min src.length len))) rfl
   (by simp only[eD,aV,bP,bW];omega) hm hf ⟨t.n,es0.take off++es.take (min src.length len)++es0.drop (off+min src.length len)⟩ fun c' hc' le=>by
     simp only[BR,true_and]
     exact⟨_,by rw[hc'];exact eK q1,hall.imp fun a b h=>TR.le le h⟩
  refine⟨.val (.int .i64 (min src.length len:Nat)),(s.1,c.h.set b0 (some ⟨t.n,es0.take off++es.take (min src.length len)++es0.drop (off+min src.length len)⟩)),?_,.val (.int .i64 (min src.length len:Nat)),{ st with H:=c.H.set B (.arr true (hp||b.hpF c.H) (ln||b.lnF c.H) t (l.take off++src.take (min src.length len)++l.drop (off+min src.length len))) },c',⟨g',?_,?_,g.gf.le le⟩,le,by simp[cY,Va],e⟩
  ·simp only[aT,h1,h3,aB,copy,<-g.h,h5,hg]
   rw[if_pos ⟨trivial,by omega,hpos⟩,hl];rfl
  ·rw[hc']
  ·rw[hc']
theorem Xj {sz:Nat} {x y:SX} (e:iI cs opn ety icall T st dst (.cpy sz x y) k=some r):fG prog opn R T TI c s k r dst (.cpy sz x y):=by
 simp only[iI]at e
 obtain⟨a,e1,e'⟩:=aA.1 e
 clear e;have e:=e';clear e'
 obtain⟨b,e2,e'⟩:=aA.1 e
 clear e;have e:=e';clear e'
 obtain⟨ix,h1,h2⟩:=dV g.gf e1
 obtain⟨iy,h3,h4⟩:=dV g.gf e2
 rw[<-g.H]at e
 cases a
 case own B=>
  simp only[Va]at h2
  rcases h2.2 with h|⟨wr,hp,ln,t,l,hB,h2'⟩
  ·simp only[h]at e;cases e
  ·simp only[hB]at e
   cases wr<;>simp only at e
   ·cases e
   split at e
   ·rename_i ht
    obtain⟨src,e4,e⟩:=aA.1 e
    refine Qs g (wr:=true) (off:=0) (len:=l.length) (cap:=l.length) h3 h4 h1 hB ?_ ht e4 e
    unfold fC at h2'
    refine⟨by omega,aK _,?_⟩
    have br:=g.gh.blk B _ hB
    simp only[BR]at br
    replace br:=br.2
    cases hm:c.m B with
    |none=>rw[hm]at h2' br;simp only at h2' br |-;subst br;exact⟨h2',rfl,trivial⟩
    |some b0=>rw[hm]at h2';simp only at h2' |-;exact h2'
   ·cases e
 case sub B off len cap=>
  simp only[Va]at h2
  rcases h2.2 with h|⟨wr,hp,ln,t,l,hB,h2'⟩
  ·simp only[h]at e;cases e
  ·simp only[hB]at e
   obtain⟨hc,e⟩:=dZ.1 e
   cases wr<;>simp only at e
   ·cases e
   split at e
   ·rename_i ht
    obtain⟨src,e4,e⟩:=aA.1 e
    exact Qs g (wr:=true) h3 h4 h1 hB h2' ht e4 e
   ·cases e
 all_goals (simp only at e;cases e)
theorem Qu {sz:Nat} {x:SX} {z:List IV} {a:List AV} {B off len cap:Nat} {hp ln:Bool} {t:Ty} {l:List t.den} {ix:IV} (h1:x.val s.1=some ix) (hB:c.H[B]? = some (.arr true hp ln t l))
 (hs:tJ (c.m B) l.length off len cap ix) (e1:mN z=some a) (hz:a.all AV.one=true/\t.n=sz/\0<sz/\mA a=sz/\AV.refsL a=[]/\oG c.H a=false/\nB c.H a=false) {v:t.den×List AV} (e2:oC c.H t a=some v) (hx:v.2=[])
 (e:k (.val (.tup [])) { st with H:=c.H.set B (.arr true hp ln t (l.take off++List.replicate len v.1++l.drop (off+len))) } = some r):fG prog opn R T TI c s k r dst (.clr sz z x):=by
 obtain⟨z1,rfl,hpos,z3,z4,z5,z6⟩:=hz
 have hc:dB c a z:=(jS e1).1 z1
 obtain⟨pre,p1,p2⟩:=jM g.gh.blk e2 hc
 rw[hx,bA]at p1;subst p1
 obtain⟨u1,u2,p3,p4,p5⟩:=p2 hp ln (by rw[z5];simp) (by rw[z6];simp) (fun B hB=>by rw[z4]at hB;cases hB)
 rw[hx]at p5;simp only[dB]at p5;subst p5
 simp only[bA]at p3;subst p3
 have hlz:z.length=t.n:=by have:=(dB.len hc).1;omega
 have br:=g.gh.blk B _ hB
 simp only[BR]at br
 have hf:=br.1
 replace br:=br.2
 obtain⟨s1,s2,hs⟩:=hs
 have hnz:∀m,(List.replicate m z).all (·.length=t.n)=true:=fun m=>by
  rw[bE]
  intro e he
  rw[cA he];simpa using hlz
 cases hm:c.m B with
 |none=>
  rw[hm]at br hs;simp only at br hs;subst br
  obtain⟨hs,rfl,rfl⟩:=hs
  obtain⟨c',hc',g',le⟩:=g.gh.setNil (hp':=hp) (ln':=ln) hB hm hf
  simp only[List.take_nil,Hi,List.drop_nil,bA]at e
  refine⟨.val (.tup []),s,?_,.val (.tup []),{ st with H:=c.H.set B (.arr true hp ln t []) },c',⟨g',?_,?_,g.gf.le le⟩,le,by simp[cY,Va,jP],e⟩
  ·rcases hs with rfl|rfl<;>simp[aT,h1,lenOf,copy,hlz,fF]
  ·rw[hc']
  ·rw[hc',g.h]
 |some b0=>
  rw[hm]at br hs;simp only at br hs;subst hs
  obtain⟨es0,q1,q2⟩:=br
  have hl0:=q2.len
  have hg:hget c.h b0 l.length=some ⟨t.n,es0⟩:=cZ.2 ⟨q1,hl0⟩
  have hall:=((q2.take off).app (dI.repl p4 len)).app (q2.drop (off+len))
  obtain⟨c',hc',g',le⟩:=g.gh.set hB rfl (x':=.arr true hp ln t (l.take off++List.replicate len v.1++l.drop (off+len))) rfl
   (by simp only[eD,aV,bP,bW,eA];omega) hm hf ⟨t.n,es0.take off++List.replicate len z++es0.drop (off+len)⟩ fun c' hc' le=>by
     simp only[BR,true_and]
     exact⟨_,by rw[hc'];exact eK q1,hall.imp fun a b h=>TR.le le h⟩
  refine⟨.val (.tup []),(s.1,c.h.set b0 (some ⟨t.n,es0.take off++List.replicate len z++es0.drop (off+len)⟩)),?_,.val (.tup []),{ st with H:=c.H.set B (.arr true hp ln t (l.take off++List.replicate len v.1++l.drop (off+len))) },c',⟨g',?_,?_,g.gf.le le⟩,le,by simp[cY,Va,jP],e⟩
  ·have hmin:min (List.replicate len z).length len=len:=by simp
   simp only[aT,h1,aB,lenOf,copy,<-g.h,fF,hg]
   rw[if_pos hlz,if_pos (hnz len)]
   simp only[aB]
   rw[if_pos ⟨trivial,by omega,hpos⟩]
   simp
  ·rw[hc']
  ·rw[hc']
theorem Xk {sz:Nat} {z:List IV} {x:SX} (e:iI cs opn ety icall T st dst (.clr sz z x) k=some r):fG prog opn R T TI c s k r dst (.clr sz z x):=by
 simp only[iI]at e
 obtain⟨a,e1,e'⟩:=aA.1 e
 clear e;have e:=e';clear e'
 obtain⟨b,e2,e'⟩:=aA.1 e
 clear e;have e:=e';clear e'
 obtain⟨ix,h1,h2⟩:=dV g.gf e1
 rw[<-g.H]at e
 cases a
 case own B=>
  simp only[Va]at h2
  rcases h2.2 with h|⟨wr,hp,ln,t,l,hB,h2'⟩
  ·simp only[h]at e;cases e
  ·simp only[hB]at e
   cases wr<;>simp only at e
   ·cases e
   split at e
   ·rename_i ht
    obtain⟨v,e4,e⟩:=aA.1 e
    split at e
    ·rename_i hv
     refine Qu g (off:=0) (len:=l.length) (cap:=l.length) h1 hB ?_ e2 ht e4 hv e
     unfold fC at h2'
     refine⟨by omega,aK _,?_⟩
     have br:=g.gh.blk B _ hB
     simp only[BR]at br
     replace br:=br.2
     cases hm:c.m B with
     |none=>rw[hm]at h2' br;simp only at h2' br |-;subst br;exact⟨h2',rfl,trivial⟩
     |some b0=>rw[hm]at h2';simp only at h2' |-;exact h2'
    ·cases e
   ·cases e
 case sub B off len cap=>
  simp only[Va]at h2
  rcases h2.2 with h|⟨wr,hp,ln,t,l,hB,h2'⟩
  ·simp only[h]at e;cases e
  ·simp only[hB]at e
   obtain⟨hc,e⟩:=dZ.1 e
   cases wr<;>simp only at e
   ·cases e
   split at e
   ·rename_i ht
    obtain⟨v,e4,e⟩:=aA.1 e
    split at e
    ·rename_i hv
     exact Qu g h1 hB h2' e2 ht e4 hv e
    ·cases e
   ·cases e
 all_goals (simp only at e;cases e)
variable (hcs:∀f ct,cs f=some ct->hQ prog opn f ct) (hic:mY prog opn icall)
include hcs hic
theorem Cu {f:Nat} {args:List AV} {ivs:List IV} (h:jP c args ivs) (e:Em cs opn icall f args st k=some r):
 ∃iv h',iX (eC prog opn) opn f ivs s.2=some (iv,h')/\∃a st' c',G R T TI c' st' (s.1,h')/\Le c c'/\cY c' a (.val iv)/\k a st'=some r:=by
 unfold Em at e
 split at e
 ·rename_i ho
  obtain⟨iv,h',h1,v,c',g',hh,le,h2,h3⟩:=hic f args st.H _ r e R c ivs g.gh g.H h
  refine⟨iv,h',by unfold iX;rw[if_pos ho,<-g.h];exact h1,.val v,{ st with H:=c'.H },c',⟨g',rfl,hh,g.gf.le le⟩,le,h2,h3⟩
 ·rename_i ho
  obtain⟨ct,e1,e⟩:=aA.1 e
  obtain⟨x,e2,e⟩:=aA.1 e
  split at e
  ·rename_i hf
   obtain⟨res,e3,e⟩:=aA.1 e
   obtain⟨v,e4,e⟩:=aA.1 e
   rw[<-g.H]at e2 hf e4
   obtain⟨iv,h1,h2⟩:=zK (hcs f ct e1) (by simpa using ho) g.gh.blk h e2 hf e3
   exact⟨iv,c.h,by rw[<-g.h];exact h1,.val v,st,c,⟨g.gh,g.H,rfl,g.gf⟩,Le.refl c,Fk e4 h2,e⟩
  ·cases e
theorem Tk {f:Nat} {args:List SX} (e:iI cs opn ety icall T st dst (.call f args) k=some r):fG prog opn R T TI c s k r dst (.call f args):=by
 simp only[iI]at e
 obtain⟨l,e1,e⟩:=aA.1 e
 obtain⟨ivs,h1,h2⟩:=vZ g.gf e1
 obtain⟨iv,h',h3,h4⟩:=Cu g hcs hic h2 e
 exact⟨.val iv,(s.1,h'),by simp only[aT,h1,aB,h3],h4⟩
theorem Ph {f:Nat} {args:List SX} (e:iI cs opn ety icall T st dst (.callc f args) k=some r):fG prog opn R T TI c s k r dst (.callc f args):=by
 simp only[iI]at e
 obtain⟨l,e1,e⟩:=aA.1 e
 obtain⟨ivs,h1,h2⟩:=vZ g.gf e1
 unfold Rf at e
 obtain⟨ct,e1,e⟩:=aA.1 e
 obtain⟨x,e2,e⟩:=aA.1 e
 split at e
 ·rename_i hf
  obtain⟨res,e3,e⟩:=aA.1 e
  obtain⟨v,e4,e⟩:=aA.1 e
  rw[<-g.H]at e2 hf e4
  obtain⟨iv,q1,q2⟩:=zK (opn':=fun _=>false) (hcs f ct e1) rfl g.gh.blk h2 e2 hf e3
  exact⟨.val iv,(s.1,c.h),by rw[g.h]at q1;simp only[aT,h1,aB,q1,g.h],.val v,st,c,⟨g.gh,g.H,rfl,g.gf⟩,Le.refl c,Fk e4 q2,e⟩
 ·cases e
theorem Pg {f:SX} {args:List SX} (e:iI cs opn ety icall T st dst (.callv f args) k=some r):fG prog opn R T TI c s k r dst (.callv f args):=by
 simp only[iI]at e
 obtain⟨fv,e1,e⟩:=aA.1 e
 obtain⟨l,e2,e⟩:=aA.1 e
 obtain⟨ivf,h1,h2⟩:=dV g.gf e1
 obtain⟨ivs,h3,h4⟩:=vZ g.gf e2
 cases fv<;>simp only at e<;>try (cases e;done)
 simp only[Va]at h2
 obtain⟨a',b',rfl,h5,h6⟩:=h2
 obtain⟨iv,h',h7,h8⟩:=Cu g hcs hic ((h5.app h4).app h6) e
 exact⟨.val iv,(s.1,h'),by simp only[aT,h1,h3,aB,h7],h8⟩
theorem op_mkI {t:Nat} {x:SX} (e:iI cs opn ety icall T st dst (.mkI t x) k=some r):fG prog opn R T TI c s k r dst (.mkI t x):=by
 simp only[iI]at e
 obtain⟨a,e1,e'⟩:=aA.1 e
 clear e;have e:=e';clear e'
 obtain⟨ix,h1,h2⟩:=dV g.gf e1
 exact .same g (sv:=.val (.iface t ix)) (by simp only[aT,h1,aB]) (by simp only[cY,Va];exact⟨ix,rfl,h2⟩) e
theorem op_asrt {ok ag:Bool} {t:Nat} {z:List IV} {x:SX} (e:iI cs opn ety icall T st dst (.asrt ok t ag z x) k=some r):fG prog opn R T TI c s k r dst (.asrt ok t ag z x):=by
 simp only[iI]at e
 obtain⟨a,e1,e'⟩:=aA.1 e
 clear e;have e:=e';clear e'
 obtain⟨ix,h1,h2⟩:=dV g.gf e1
 cases a<;>simp only at e<;>try (cases e;done)
 rename_i u v
 simp only[Va]at h2
 obtain⟨w,rfl,h2⟩:=h2
 split at e
 ·rename_i hut
  cases ok with
  |true=>exact .same g (sv:=.val (.tup [w,.bool true])) (by simp only[aT,h1,aB,if_pos hut,if_true]) (by simp only[cY,if_true,Va,jP];exact⟨_,rfl,w,_,rfl,h2,_,[],rfl,rfl,rfl⟩) e
  |false=>exact .same g (sv:=.val w) (by simp only[aT,h1,aB,if_pos hut,aR,if_false]) (by simp only[cY,aR,if_false];exact h2) e
 ·rename_i hut
  split at e
  ·rename_i hok
   obtain⟨zc,e2,e'⟩:=aA.1 e
   clear e;have e:=e';clear e'
   obtain⟨zv,e3,e'⟩:=aA.1 e
   clear e;have e:=e';clear e'
   obtain⟨q1,_⟩:=jS (c:=c) e2
   have key:∃iz,zVal ag z=some iz/\Va c zv iz:=by
    unfold azVal at e3
    split at e3
    ·rename_i hz
     have hc:=q1 hz
     cases ag with
     |true=>
      simp only[if_true,aD]at e3;subst e3
      exact⟨.agg z,rfl,by simp only[Va];exact⟨z,rfl,hc⟩⟩
     |false=>
      simp only[aR,if_false]at e3
      split at e3
      ·rename_i c0
       injection e3 with e3;subst e3
       rw[dB.single]at hc
       obtain⟨iv,h3,_,h4⟩:=(eT (by simpa using hz)).1 hc
       subst h3
       exact⟨iv,rfl,h4⟩
      ·cases e3
    ·cases e3
   obtain⟨iz,h3,h4⟩:=key
   exact .same g (sv:=.val (.tup [iz,.bool false])) (by simp only[aT,h1,aB,if_neg hut,if_pos hok,h3]) (by simp only[cY,Va,jP];exact⟨_,rfl,iz,_,rfl,h4,_,[],rfl,rfl,rfl⟩) e
  ·cases e
theorem op_callm {tab:List (Nat×Nat×Option (Nat×Nat))} {x:SX} {args:List SX} (e:iI cs opn ety icall T st dst (.callm tab x args) k=some r):fG prog opn R T TI c s k r dst (.callm tab x args):=by
 simp only[iI]at e
 obtain⟨xv,e1,e'⟩:=aA.1 e
 clear e;have e:=e';clear e'
 obtain⟨l,e2,e'⟩:=aA.1 e
 clear e;have e:=e';clear e'
 obtain⟨ivx,h1,h2⟩:=dV g.gf e1
 obtain⟨ivs,h3,h4⟩:=vZ g.gf e2
 cases xv<;>simp only at e<;>try (cases e;done)
 rename_i t v
 simp only[Va]at h2
 obtain⟨w,rfl,h2⟩:=h2
 obtain⟨⟨f,sel⟩,e3,e'⟩:=aA.1 e
 clear e;have e:=e';clear e'
 obtain⟨v',e4,e'⟩:=aA.1 e
 clear e;have e:=e';clear e'
 have key:∃w',selOf sel w=some w'/\Va c v' w':=by
  cases sel with
  |none=>simp only[aSel,aD]at e4;subst e4;exact⟨w,rfl,h2⟩
  |some s0=>
   obtain⟨off,n⟩:=s0
   cases v<;>simp only[aSel]at e4<;>try (cases e4;done)
   obtain⟨p,e5,e4⟩:=aA.1 e4
   obtain⟨q,e6,e4⟩:=aA.1 e4
   injection e4 with e4;subst e4
   simp only[Va]at h2
   obtain⟨ivs',rfl,h2⟩:=h2
   obtain⟨p1,p2,p3⟩:=h2.split e5
   obtain⟨p4,p5,p6⟩:=p2.split e6
   simp only[bW]at p6
   exact⟨.agg ((ivs'.drop off).take n),by simp only[selOf,part];rw[if_pos (by omega)],by simp only[Va];exact⟨_,rfl,p4⟩⟩
 obtain⟨w',h5,h6⟩:=key
 obtain⟨iv,h',h7,h8⟩:=Cu g hcs hic (show jP c (v'::l) (w'::ivs) from ⟨w',ivs,rfl,h6,h4⟩) e
 exact⟨.val iv,(s.1,h'),by simp only[aT,h1,h3,e3,h5,aB,h7],h8⟩
theorem Pe {x:SX} (e:iI cs opn ety icall T st dst (.range x) k=some r):fG prog opn R T TI c s k r dst (.range x):=by
 simp only[iI]at e
 obtain⟨a,e1,e'⟩:=aA.1 e
 clear e;have e:=e';clear e'
 obtain⟨iv,h1,h2⟩:=dV g.gf e1
 split at e
 ·rename_i b t
  split at e
  ·rename_i hf
   simp only[Va]at h2;subst h2
   refine .same g (sv:=.box [.mark,.str b,.int .i64 0]) ?_ (show cY c (.box _) (.box _) from ?_) e
   ·simp only[aT,h1,aB];rw[if_pos (pL g.gf hf)]
   ·simp only[cY];simp[dB,Ca]
  ·cases e
 ·cases e
theorem Sy {x:SX} (e:iI cs opn ety icall T st dst (.next x) k=some r):fG prog opn R T TI c s k r dst (.next x):=by
 simp only[iI]at e
 split at e
 ·rename_i t
  split at e
  ·rename_i b n hl
   obtain⟨hn,e'⟩:=dZ.1 e
   clear e;have e:=e';clear e'
   rw[decide_eq_true_eq]at hn
   have hf:FR TI c (some (.box [.mark,.str b,.int .i64 n])) _:=hl▸g.gf.fr _
   obtain⟨s',h1,h2⟩:=hf
   cases s'<;>simp only[cY]at h2
   simp only[dB,Ca]at h2
   obtain⟨_,_,rfl,rfl,_,_,rfl,rfl,_,_,rfl,rfl,rfl⟩:=h2
   have hit:Ig (s.1.get t)=some (b,n.toNat):=by rw[h1];simp[Ig,hn]
   cases hc:decide (n.toNat<b.length) with
   |true=>
    rw[hc]at e
    simp only[cond_true]at e
    rw[decide_eq_true_eq]at hc
    refine⟨.val (.tup [.bool true,.int .i64 n.toNat,.int .i32 (nF b n.toNat).1]),(s.1.put t (.box [.mark,.str b,.int .i64 (n.toNat+(nF b n.toNat).2:Nat)]),s.2),?_,_,{ st with fr:=st.fr.put t (.box [.mark,.str b,.int .i64 (n.toNat+(nF b n.toNat).2:Nat)]) },c,
     ⟨g.gh,g.H,g.h,Du g.gf (a:=.box [.mark,.str b,.int .i64 (n.toNat+(nF b n.toNat).2:Nat)]) (s:=.box [.mark,.str b,.int .i64 (n.toNat+(nF b n.toNat).2:Nat)]) ?_⟩,Le.refl c,?_,e⟩
    ·simp only[aT,hit,aB];rw[if_pos hc]
    ·simp only[cY];simp[dB,Ca]
    ·simp[cY,Va,jP]
   |false=>
    rw[hc]at e
    simp only[cond_false]at e
    rw[decide_eq_false_iff_not]at hc
    refine .same g (sv:=.val (.tup [.bool false])) ?_ ?_ e
    ·simp only[aT,hit,aB];rw[if_neg hc]
    ·simp[cY,Va,jP]
  ·cases e
 ·cases e
theorem Yc {op:gQ} (e:iI cs opn ety icall T st dst op k=some r):fG prog opn R T TI c s k r dst op:=by
 cases op
 case mov=>exact Xb g e
 case pick=>exact Sv g e
 case alloc=>exact Pj g e
 case box=>exact Xm g e
 case build=>exact Pi g e
 case bsl=>exact Xl g e
 case load=>exact Sz g e
 case store=>exact Pc g e
 case nilc=>exact Sx g e
 case bin=>exact Xn g e
 case eq=>exact op_eq g e
 case un=>exact op_un g e
 case cvI=>exact Xi g e
 case cvSB=>exact Tg g e
 case cvBS=>exact Tj g e
 case cvLL=>exact Th g e
 case cvIS=>exact Ti g e
 case cvSS=>exact Tf g e
 case mkF=>exact Xd g e
 case mks=>exact Xc g e
 case slS=>exact Wz g e
 case slL=>exact Xa g e
 case fadr=>exact Te g e
 case fld=>exact Xg g e
 case iadr=>exact Td g e
 case iadrA=>exact Pf g e
 case idxS=>exact Tb g e
 case idxA=>exact Tc g e
 case ext=>exact Xh g e
 case range=>exact Pe g hcs hic e
 case next=>exact Sy g hcs hic e
 case call=>exact Tk g hcs hic e
 case callc=>exact Ph g hcs hic e
 case callv=>exact Pg g hcs hic e
 case callm=>exact op_callm g hcs hic e
 case mkI=>exact op_mkI g hcs hic e
 case asrt=>exact op_asrt g hcs hic e
 case app=>exact Xo g e
 case appz=>exact Tl g e
 case cpy=>exact Xj g e
 case clr=>exact Xk g e
 case len=>exact Xe g e
 case lenA=>exact Ta g e
 case mn=>exact op_mn g e
 case mx=>exact op_mx g e
 all_goals (simp only[iI]at e;cases e)
omit g in
theorem uT {T:List dP} {TI:List SV} {c:Cf} {st:gJ} {s:St} (g:G R T TI c st s) {d:Option Nat} {a:dP} {sv:SV} (v:cY c a sv) {K:gJ->Option Rr} (e:Cn T st d a K=some r):
 ∃st' s',gL s d sv=some s'/\G R T TI c st' s'/\K st'=some r:=by
 cases d with
 |none=>exact⟨st,s,rfl,g,e⟩
 |some t=>
  simp only[Cn]at e
  split at e
  ·rename_i hf
   refine⟨{ st with fr:=st.fr.put t a },(s.1.put t sv,s.2),?_,⟨g.gh,g.H,g.h,Du g.gf v⟩,e⟩
   simp only[gL];rw[if_pos (pL g.gf hf)]
  ·cases e
theorem Uq {x:Option SX} {K:gJ->Option Rr} (e:Yb T st x K=some r):∃st' c',G R T TI c' st' s/\Le c c'/\K st'=some r:=by
 unfold Yb at e
 split at e
 ·rename_i B o hx
  split at e
  ·rename_i t x hB
   obtain⟨v,hx2,e2⟩:=aA.1 e
   subst hx2
   rw[<-g.H]at hB e2
   obtain⟨c',h1,h2,h3,h4⟩:=Bc g.gh hB
   refine⟨⟨st.fr,_⟩,c',?_,h4,e2⟩
   exact⟨h3,h1,by rw[h2];exact g.h,g.gf.le h4⟩
  ·exact⟨st,c,g,Le.refl c,e⟩
 ·exact⟨st,c,g,Le.refl c,e⟩
theorem xO {op:gQ} (e:Nh cs opn ety icall T st dst op k=some r):fG prog opn R T TI c s k r dst op:=by
 unfold Nh at e
 split at e
 ·exact aOpN_ok g e
 split at e
 ·exact Ur g e
 obtain⟨st1,c1,g1,le1,e1⟩:=Uq g hcs hic e
 obtain⟨sv,s1,h1,a,st2,c2,g2,le2,v2,e2⟩:=Yc g1 hcs hic e1
 exact⟨sv,s1,h1,a,st2,c2,g2,le1.trans le2,v2,e2⟩
theorem Rb {it:cH} {K:gJ->Option Rr} (e:aIt cs opn ety icall T it st K=some r):
 ∃s',fL (eC prog opn) opn it s=some s'/\∃st' c',G R T TI c' st' s'/\Le c c'/\K st'=some r:=by
 unfold aIt at e
 split at e
 ·rename_i hg
  obtain⟨sv,s1,h1,a,st1,c1,g1,le1,v1,e1⟩:=xO g hcs hic e
  obtain⟨st2,s2,h2,g2,e2⟩:=uT hcs hic g1 v1 e1
  exact⟨s2,by simp only[fL,hg,wanted,aB,if_true,h1,h2],st2,c1,g2,le1,e2⟩
 ·rename_i t w hg
  split at e
  ·rename_i b hb
   obtain⟨sv,h1,h2⟩:=fS g.gf hb
   cases sv<;>simp only[cY,Va]at h2
   subst h2
   have ref:∀b',b'=b->G R T TI c { st with fr:=st.fr.put t (.val (.bool b')) } s:=by
    rintro b' rfl
    refine⟨g.gh,g.H,g.h,⟨fun t'=>?_,g.gf.len,g.gf.T,g.gf.tl⟩⟩
    simp only[gZ.put,gZ.get]
    split
    ·rename_i ht;subst ht
     exact⟨_,h1,by simp[cY,Va]⟩
    ·exact g.gf.fr t'
   by_cases hbw:b=w
   ·subst hbw
    simp only[beq_self_eq_true,cond_true]at e
    obtain⟨sv,s1,h3,a,st1,c1,g1,le1,v1,e1⟩:=xO (ref _ rfl) hcs hic e
    obtain⟨st2,s2,h4,g2,e2⟩:=uT hcs hic g1 v1 e1
    exact⟨s2,by simp only[fL,hg,wanted,h1,aB,beq_self_eq_true,if_true,h3,h4],st2,c1,g2,le1,e2⟩
   ·have:(b==w)=false:=by simpa using hbw
    rw[this]at e
    simp only[cond_false]at e
    have hb':(!w)=b:=by cases b<;>cases w<;>simp_all
    obtain⟨st2,s2,h4,g2,e2⟩:=uT hcs hic (ref _ hb') (show cY c (.val (.tup [])) (.val (.tup [])) by simp[cY,Va,jP]) e
    exact⟨s2,by simp only[fL,hg,wanted,h1,aB,this,aR,if_false,h4],st2,c,g2,Le.refl c,e2⟩
  ·rename_i hb
   obtain⟨sv,h1,h2⟩:=fS g.gf hb
   cases sv<;>simp only[cY,Va,jP]at h2
   obtain⟨_,rfl,rfl⟩:=h2
   obtain⟨st2,s2,h4,g2,e2⟩:=uT hcs hic g (show cY c (.val (.tup [])) (.val (.tup [])) by simp[cY,Va,jP]) e
   exact⟨s2,by simp only[fL,hg,wanted,h1,aB,aR,if_false,h4],st2,c,g2,Le.refl c,e2⟩
  ·cases e
omit g in
theorem Kv {T:List dP} {TI:List SV}:∀{its:List cH} {c:Cf} {st:gJ} {s:St},G R T TI c st s->∀{K:gJ->Option Rr},Ut cs opn ety icall T its st K=some r->
 ∃s',dL (eC prog opn) opn its s=some s'/\∃st' c',G R T TI c' st' s'/\Le c c'/\K st'=some r
 |[],c,st,s,g,K,e=>⟨s,rfl,st,c,g,Le.refl c,e⟩
 |it::its,c,st,s,g,K,e=>by
  simp only[Ut]at e
  obtain⟨s1,h1,st1,c1,g1,le1,e1⟩:=Rb g hcs hic e
  obtain⟨s2,h2,st2,c2,g2,le2,e2⟩:=Kv g1 e1
  exact⟨s2,by simp only[dL,h1,aB,h2],st2,c2,g2,le1.trans le2,e2⟩
end
theorem mZ {call:Nat->List IV->aN->Option (IV×aN)} {opn:Nat->Bool} {c:cH} {s:St} (h:same call opn c s=true):
 ∃t u,c.dst=some t/\s.1.get t=some u/\(∀cs,u≠.box cs)/\((wanted s.1 c.g=some true/\∃s1,aT call opn c.dst c.op s=some (u,s1))\/(wanted s.1 c.g=some false/\u = .val (.tup []))):=by
 unfold same at h
 split at h
 ·rename_i hw
  split at h
  ·rename_i v s1 t he hd
   obtain⟨h1,h2⟩:=rN.1 h
   exact⟨t,v,hd,h1,h2,.inl ⟨hw,s1,he⟩⟩
  ·cases h
 ·rename_i hw
  split at h
  ·rename_i t hd
   split at h
   ·rename_i hu
    exact⟨t,_,hd,hu,(fun cs e=>by cases e),.inr ⟨hw,rfl⟩⟩
   ·cases h
  ·cases h
 ·cases h
theorem lX {call:Nat->List IV->aN->Option (IV×aN)} {opn:Nat->Bool} {c:cH} {s:St} {t:Nat} {u:SV} (hd:c.dst=some t) (hu:s.1.get t=some u) (hn:∀cs,u≠.box cs)
 (h:(wanted s.1 c.g=some true/\∃s1,aT call opn c.dst c.op s=some (u,s1))\/(wanted s.1 c.g=some false/\u = .val (.tup []))):same call opn c s=true:=by
 unfold same
 rcases h with ⟨hw,s1,he⟩|⟨hw,rfl⟩
 ·rw[hw,he,hd]
  exact rN.2 ⟨hu,hn⟩
 ·rw[hw,hd]
  simp only[hu]
theorem xY {call:Nat->List IV->aN->Option (IV×aN)} {opn:Nat->Bool} {c:cH} {σ F:Fr} {h:aN} (hs:same call opn c (σ,h)=true)
 (hA:∀t∈c.slots,lN σ F t) (hd:∀t,c.dst=some t->F.get t = σ.get t)
 (hb:c.op.deaf=false->∀t∈c.op.slots,∀s off cs,(SX.t t).ev F=some (.lptr s off)->σ.get s=some (.box cs)->F.get s=some (.box cs)):same call opn c (F,h)=true:=by
 obtain⟨t,u,e1,e2,e0,e3⟩:=mZ hs
 have hw:wanted F c.g=wanted σ c.g:=by
  cases hg:c.g with
  |none=>rfl
  |some p=>
   obtain⟨t',w⟩:=p
   rcases hA t' (by simp[cH.slots,hg])with h1|⟨c1,c2,h1,h2⟩
   ·simp only[wanted,h1]
   ·simp only[wanted,h1,h2]
 refine lX e1 (by rw[hd t e1];exact e2) e0 ?_
 simp only[hw]
 rcases e3 with ⟨h1,s1,h2⟩|h1
 ·obtain⟨F1,h3,_⟩:=kR (F:=F) (fun t ht=>hA t (by simp[cH.slots,ht])) hb (fun t' ht'=>by
   have:t'=t:=by rw[e1]at ht';injection ht' with ht';exact ht'.symm
   subst this
   have h4:=hd t' e1
   unfold bF
   rw[h4,e2]
   cases u with
   |box cs=>exact absurd rfl (e0 cs)
   |val=>rfl
   |lptr=>rfl) h2
  exact .inl ⟨h1,_,h3⟩
 ·exact .inr h1
theorem Bv {fr:gZ}:∀{live:List Nat} {t:Nat},(gZ.keep fr live).get t=if t∈live then (match fr.get t with
 |some (.lptr _ _)=>none
 |v=>v) else none
 |[],t=>rfl
 |l::ls,t=>by
  have ih:=Bv (fr:=fr) (live:=ls) (t:=t)
  simp only[gZ.keep]
  by_cases h:l=t
  ·subst h
   cases hl:fr.get l with
   |none=>simp only[ih,hl];simp
   |some v=>cases v<;>simp only[gZ.get,if_true,aQ,true_or]<;>simp only[ih,hl]<;>simp
  ·have hm:(t∈l::ls)↔t∈ls:=by simp[Ne.symm h]
   cases hl:fr.get l with
   |none=>simp only[ih,hm]
   |some v=>cases v<;>simp only[gZ.get,if_neg h,ih,hm]
theorem Bu {σ:Fr}:∀{live:List Nat} {t:Nat},(Fr.keep σ live).get t=if t∈live then (match σ.get t with
 |some (.lptr _ _)=>none
 |v=>v) else none
 |[],t=>rfl
 |l::ls,t=>by
  have ih:=Bu (σ:=σ) (live:=ls) (t:=t)
  simp only[Fr.keep]
  by_cases h:l=t
  ·subst h
   cases hl:σ.get l with
   |none=>simp only[ih,hl];simp
   |some v=>cases v<;>simp only[Fr.get,if_true,aQ,true_or]<;>simp only[ih,hl]<;>simp
  ·have hm:(t∈l::ls)↔t∈ls:=by simp[Ne.symm h]
   cases hl:σ.get l with
   |none=>simp only[ih,hm]
   |some v=>cases v<;>simp only[Fr.get,if_neg h,ih,hm]
theorem Gd {T TI} {c:Cf} {fr:gZ} {σ:Fr} (g:GF T TI c fr σ) (live:List Nat):GF T TI c (fr.keep live) (σ.keep live):=by
 refine⟨fun t=>?_,g.len,g.T,g.tl⟩
 rw[Bv,Bu]
 have h:=g.fr t
 split
 ·cases hf:fr.get t with
  |none=>
   rw[hf]at h
   simp only[FR]at h |-
   intro cs hc
   split at hc
   ·cases hc
   ·exact h cs hc
  |some a=>
   rw[hf]at h
   cases a with
   |val a=>
    obtain⟨s,h1,h2⟩:=h
    cases s<;>simp only[cY]at h2
    simp only[h1];exact⟨_,rfl,h2⟩
   |box a=>
    obtain⟨s,h1,h2⟩:=h
    cases s<;>simp only[cY]at h2
    simp only[h1];exact⟨_,rfl,h2⟩
   |lptr n o=>
    obtain⟨s,h1,h2⟩:=h
    cases s<;>simp only[cY]at h2
    simp only[h1,FR];simp
   |cst i=>
    obtain⟨s,h1,h2⟩:=h
    cases s with
    |val _=>simp only[h1];exact⟨_,rfl,h2⟩
    |box _=>simp only[h1];exact⟨_,rfl,h2⟩
    |lptr n o=>exact(g.tl _ (aL h2) n o rfl).elim
 ·simp[FR]
end Go.Ideal
namespace Go.Ideal
section
variable {call:Nat->List IV->aN->Option (IV×aN)} {opn:Nat->Bool}
theorem Fp {d:Option Nat} {o:gQ} (hs:∀n a x,o≠.store n a x) (hn:∀x,o≠.next x) {s:St} {sv:SV} {s1:St} (e:aT call opn d o s=some (sv,s1)):s1.1=s.1:=by
 cases o
 case store=>exact(hs _ _ _ rfl).elim
 case next=>exact(hn _ rfl).elim
 all_goals
  simp only[aT]at e
  (repeat' first
    |(injection e with e;injection e with _ e;subst e;rfl)
    |(cases e;done)
    |(obtain⟨_,_,e⟩:=e)
    |(simp only[aA]at e)
    |split at e
    |(simp_all;done))
theorem yH {s s':St} {d:Option Nat} {sv:SV} (e:gL s d sv=some s'):s'.2=s.2/\(∀t,d≠some t->s'.1.get t=s.1.get t)/\∀t,d=some t->bF s.1 t=true:=by
 cases d with
 |none=>simp only[gL,aD]at e;subst e;exact⟨rfl,fun _ _=>rfl,fun _ h=>by cases h⟩
 |some t=>
  simp only[gL]at e
  split at e
  ·rename_i hf
   simp only[aD]at e;subst e
   refine⟨rfl,fun t' h=>?_,fun t' h=>by injection h with h;subst h;exact hf⟩
   simp only[Fr.put,Fr.get]
   rw[if_neg (fun e=>h (by rw[e]))]
  ·cases e
theorem Be {σ:Fr} {c:cH} {h h':aN} {n:Option Nat} {x:SX} (ho:c.op = .load n x) (hc:∀sa m,x.ev σ = some sa->eS (σ,h') sa m=eS (σ,h) sa m) (hs:same call opn c (σ,h)=true):same call opn c (σ,h')=true:=by
 obtain⟨t,u,e1,e2,e0,e3⟩:=mZ hs
 refine lX e1 e2 e0 ?_
 rcases e3 with ⟨h1,s1,h2⟩|h1
 ·refine .inl ⟨h1,?_⟩
  rw[ho]at h2 |-
  simp only[aT]at h2 |-
  obtain⟨sa,q1,h2⟩:=aA.1 h2
  refine⟨(σ,h'),?_⟩
  rw[q1]
  simp only[aB]
  cases n with
  |none=>
   simp only at h2 |-
   rw[hc sa 1 q1]
   obtain⟨cs,q2,h2⟩:=aA.1 h2
   rw[q2]
   simp only[aB]
   split at h2
   ·injection h2 with h2;injection h2 with h2 _;rw[<-h2]
   ·cases h2
  |some n=>
   simp only at h2 |-
   rw[hc sa n q1]
   obtain⟨cs,q2,h2⟩:=aA.1 h2
   rw[q2]
   simp only[aB]
   injection h2 with h2;injection h2 with h2 _;rw[<-h2]
 ·exact .inr h1
theorem Bg {T:List dP} {TI:List SV} {c0:Cf} {fr:gZ} {σ:Fr} (g:GF T TI c0 fr σ) {c:cH} {h h':aN} (hs:same call opn c (σ,h)=true) (hf:zE T fr c.op=true) (hh:c0.h=h) (hZ:∀b,c0.Z b->h'[b]? = h[b]?):same call opn c (σ,h')=true:=by
 unfold zE at hf
 cases hd:c.op.deaf with
 |true=>
  obtain⟨t,u,e1,e2,e0,e3⟩:=mZ hs
  refine lX e1 e2 e0 ?_
  rcases e3 with ⟨h1,s1,h2⟩|h1
  ·exact .inl ⟨h1,_,Gr hd h2⟩
  ·exact .inr h1
 |false=>
  rw[hd,lA]at hf
  have hg:∀{b tot:Nat},c0.Z b->hget h' b tot=hget h b tot:=fun {b tot} hb=>by simp only[hget,hZ b hb]
  have ro:∀{x:SX},(match ax T fr x with
   |some (.val (.lst ..))=>true
   |some (.val .nils)=>true
   |_=>false)=true->∀a,x.val σ = some a->a = .nils\/a = .esl\/(∃bo es,a = .ro bo es)\/∃b tot off len cap,a = .sl b tot off len cap/\c0.Z b:=by
   intro x hx a ha
   split at hx
   ·rename_i hp ln t l hax
    obtain⟨sv,q1,q2⟩:=kA g hax
    cases sv<;>simp only[cY,Va,TR]at q2
    rename_i iv
    have:iv=a:=by
     simp only[SX.val,q1,aB]at ha
     injection ha
    subst this
    obtain⟨iv',hh,q2⟩:=q2
    simp at hh;subst hh
    rcases q2 with ⟨_,h2⟩|⟨bo,es,rfl,_,_⟩|⟨hpt,b',tot,off,len,cap,kk,rfl,hz,_⟩
    ·rcases h2 with rfl|rfl
     ·exact .inl rfl
     ·exact .inr (.inl rfl)
    ·exact .inr (.inr (.inl ⟨_,_,rfl⟩))
    ·exact .inr (.inr (.inr ⟨_,_,_,_,_,rfl,hz⟩))
   ·rename_i hax
    obtain⟨sv,q1,q2⟩:=kA g hax
    cases sv<;>simp only[cY,Va]at q2
    rename_i iv
    have:iv=a:=by
     simp only[SX.val,q1,aB]at ha
     injection ha
    subst this
    rcases q2 with rfl|rfl
    ·exact .inl rfl
    ·exact .inr (.inl rfl)
   ·cases hx
  cases ho:c.op<;>rw[ho]at hf<;>simp only at hf<;>try (cases hf;done)
  case slL sz x lo hi mx=>
   obtain⟨t,u,e1,e2,e0,e3⟩:=mZ hs
   refine lX e1 e2 e0 ?_
   rcases e3 with ⟨h1,s1,h2⟩|h1
   ·refine .inl ⟨h1,?_⟩
    rw[ho]at h2 |-
    simp only[aT]at h2 |-
    obtain⟨a,a1,h2⟩:=aA.1 h2
    obtain⟨l,a2,h2⟩:=aA.1 h2
    obtain⟨n,a3,h2⟩:=aA.1 h2
    obtain⟨rr,a4,h2⟩:=aA.1 h2
    simp only[a1,a2,a3,a4,aB]
    have fin:∀{P:Prop} [Decidable P] {v:IV} {s2:St},(if P then some (SV.val v,s2) else none)=some (u,s1)->∃s1',(if P then some (SV.val v,((σ,h'):St)) else none)=some (u,s1'):=by
     intro P _ v s2 h
     split at h
     ·rename_i hP
      injection h with h;injection h with h _
      exact⟨_,by rw[if_pos hP,h]⟩
     ·cases h
    cases mx with
    |none=>
     rcases ro hf a a1 with rfl|rfl|⟨bo,es,rfl⟩|⟨b,tot,off,len,cap,rfl,hz⟩
     ·exact fin h2
     ·exact fin h2
     ·exact fin h2
     ·simp only at h2 |-
      obtain⟨k,a5,h2⟩:=aA.1 h2
      rw[hg hz,a5]
      simp only[aB]
      exact fin h2
    |some m=>
     rcases ro hf a a1 with rfl|rfl|⟨bo,es,rfl⟩|⟨b,tot,off,len,cap,rfl,hz⟩
     all_goals
      simp only at h2 |-
      obtain⟨v,a5,h2⟩:=aA.1 h2
      obtain⟨w,a6,h2⟩:=aA.1 h2
      simp only[a5,a6,aB]
     ·exact fin h2
     ·exact fin h2
     ·split at h2
      ·rename_i hP
       injection h2 with h2;injection h2 with h2 _
       exact⟨_,by rw[if_pos hP,h2]⟩
      ·rename_i hP
       rw[if_neg hP]
       exact fin h2
     ·split at h2
      ·rename_i hP
       injection h2 with h2;injection h2 with h2 _
       exact⟨_,by rw[if_pos hP,h2]⟩
      ·rename_i hP
       rw[if_neg hP]
       obtain⟨k,a7,h2⟩:=aA.1 h2
       rw[hg hz,a7]
       simp only[aB]
       exact fin h2
   ·exact .inr h1
  case iadr sz x i=>
   obtain⟨t,u,e1,e2,e0,e3⟩:=mZ hs
   refine lX e1 e2 e0 ?_
   rcases e3 with ⟨h1,s1,h2⟩|h1
   ·refine .inl ⟨h1,?_⟩
    rw[ho]at h2 |-
    simp only[aT]at h2 |-
    obtain⟨a,a1,h2⟩:=aA.1 h2
    obtain⟨l,a2,h2⟩:=aA.1 h2
    obtain⟨n,a3,h2⟩:=aA.1 h2
    simp only[a1,a2,a3,aB]
    rcases ro hf a a1 with rfl|rfl|⟨bo,es,rfl⟩|⟨b,tot,off,len,cap,rfl,hz⟩
    ·cases h2
    ·cases h2
    ·simp only at h2 |-
     obtain⟨e,a5,h2⟩:=aA.1 h2
     simp only[a5,aB]
     split at h2
     ·rename_i hsz
      rw[if_pos hsz]
      injection h2 with h2;injection h2 with h2 _;exact⟨_,by rw[<-h2]⟩
     ·cases h2
    ·simp only at h2 |-
     obtain⟨k,a5,h2⟩:=aA.1 h2
     rw[hg hz,a5]
     simp only[aB]
     split at h2
     ·rename_i hsz
      rw[if_pos hsz]
      injection h2 with h2;injection h2 with h2 _;exact⟨_,by rw[<-h2]⟩
     ·cases h2
   ·exact .inr h1
  rename_i n x
  refine Be ho (fun sa m hsa=>?_) hs
  split at hf
  ·rename_i s o hx
   obtain⟨sv,q1,q2⟩:=kA g hx
   rw[hsa]at q1;injection q1 with q1;subst q1
   cases sa<;>simp only[cY]at q2
   rfl
  ·rename_i hp ln cs o hx
   obtain⟨sv,q1,q2⟩:=kA g hx
   rw[hsa]at q1;injection q1 with q1;subst q1
   cases sa<;>simp only[cY,Va]at q2
   obtain⟨e,_,⟨bo,rfl⟩|⟨_,b,tot,i,k,rfl,hz,_⟩⟩:=q2
   ·rfl
   ·simp only[eS,hg hz]
  ·cases hf
theorem zF {it c:cH} {s' s1:St} {sv:SV} (hd:∀t,it.dst=some t->t∉c.slots/\c.dst≠some t) (h1:same call opn c s1=true) (h2:gL s1 it.dst sv=some s'):same call opn c s'=true:=by
 obtain⟨p1,p2,p3⟩:=yH h2
 have:s'=(s'.1,s1.2):=by rw[<-p1]
 rw[this]
 refine xY (σ:=s1.1) (F:=s'.1) (h:=s1.2) h1 (fun t ht=>.inl (p2 t fun e=>(hd t e).1 ht)) (fun t ht=>p2 t fun e=>(hd t e).2 ht) (fun _ t _ s off cs _ hb=>?_)
 by_cases hds:it.dst=some s
 ·have:=p3 s hds
  unfold bF at this
  rw[hb]at this;cases this
 ·rw[p2 s hds];exact hb
theorem Lz {T:List dP} {TI:List SV} {c0:Cf} {fr:gZ} {σ:Fr} (g:GF T TI c0 fr σ) {it c:cH} {h:aN} {s':St} (hk:Py opn T fr it c=true) (hs:same call opn c (σ,h)=true) (e:fL call opn it (σ,h)=some s') (hh0:c0.h=h) (hZ:∀b,c0.Z b->s'.2[b]? = h[b]?):same call opn c s'=true:=by
 unfold Py at hk
 rw[aF]at hk
 obtain⟨hk1,hk2⟩:=hk
 have hd:∀t,it.dst=some t->t∉c.slots/\c.dst≠some t:=by
  intro t ht
  rw[ht]at hk1
  simpa using hk1
 have fin:∀{s1:St} {sv:SV},same call opn c s1=true->gL s1 it.dst sv=some s'->same call opn c s'=true:=fun h1 h2=>zF hd h1 h2
 simp only[fL]at e
 obtain⟨w,hw,e⟩:=aA.1 e
 cases w with
 |false=>exact fin hs (by simpa using e)
 |true=>
  simp only[if_true]at e
  obtain⟨r,h1,h2⟩:=aA.1 e
  obtain⟨sv,s1⟩:=r
  have hZ1:∀b,c0.Z b->s1.2[b]? = h[b]?:=fun b hb=>by rw[<-(yH h2).1];exact hZ b hb
  refine fin ?_ h2
  have box:∀{s:Nat} {cs0 cs1:List IV},σ.get s=some (.box cs0)->(c.op.deaf||c.op.slots.all fun t=>match ax T fr (.t t) with
   |some (.lptr s' _)=>s' != s
   |some _=>true
   |none=>false)=true->same call opn c (σ.put s (.box cs1),h)=true:=by
   intro s cs0 cs1 hb hall
   have hget:∀t,t≠s->(σ.put s (.box cs1)).get t = σ.get t:=fun t ht=>by
    simp only[Fr.put,Fr.get];rw[if_neg (fun e=>ht e.symm)]
   have hal:∀t,lN σ (σ.put s (.box cs1)) t:=fun t=>by
    by_cases ht:t=s
    ·subst ht;exact .inr ⟨cs0,cs1,hb,by simp[Fr.put,Fr.get]⟩
    ·exact .inl (hget t ht)
   refine xY hs (fun t _=>hal t) (fun t ht=>hget t fun e=>?_) (fun hdf t ht s' off cs he hc=>?_)
   ·subst e
    obtain⟨t',u,e1,e2,e0,_⟩:=mZ hs
    rw[ht]at e1;injection e1 with e1;subst e1
    rw[hb]at e2;injection e2 with e2
    exact absurd e2.symm (e0 cs0)
   ·rw[hdf,lA,bE]at hall
    have:=hall t ht
    cases hx:ax T fr (.t t) with
    |none=>rw[hx]at this;cases this
    |some a=>
     rw[hx]at this
     obtain⟨sv',q1,q2⟩:=kA g hx
     have he':(SX.t t).ev σ = some (.lptr s' off):=by
      rw[<-iO (σ:=σ) (F:=σ.put s (.box cs1)) (x:=.t t) fun t _=>hal t];exact he
     rw[he']at q1;injection q1 with q1;subst q1
     cases a<;>simp only[cY]at q2
     obtain⟨rfl,_⟩:=q2
     rw[hget _ (by simpa using this)];exact hc
  cases he:Qq opn T fr it.op with
  |none=>rw[he]at hk2;cases hk2
  |some bh=>
   obtain⟨b,hp⟩:=bh
   rw[he]at hk2
   simp only[aF]at hk2
   obtain⟨hh,hb⟩:=hk2
   have other:(∀n a x,it.op≠.store n a x)->(∀x,it.op≠.next x)->hp = !it.op.quiet opn->same call opn c s1=true:=by
    intro hns hnn hq
    have f1:s1.1 = σ:=Fp hns hnn h1
    have:s1=(σ,s1.2):=by rw[<-f1]
    rw[this]
    cases hqq:it.op.quiet opn with
    |true=>rw[kW hqq h1];exact hs
    |false=>
     rw[hqq]at hq
     subst hq
     exact Bg g hs (by simpa using hh) hh0 hZ1
   cases ho:it.op
   case store n p x=>
    rw[ho]at he h1
    simp only[Qq]at he
    simp only[aT]at h1
    obtain⟨sa,q1,h1⟩:=aA.1 h1
    obtain⟨v,q2,h1⟩:=aA.1 h1
    obtain⟨vs,q3,h1⟩:=aA.1 h1
    split at h1
    ·obtain⟨s2,q4,h1⟩:=aA.1 h1
     injection h1 with h1;injection h1 with _ h1;subst h1
     split at he
     ·rename_i s o hx
      injection he with he;injection he with e1 e2;subst e1;subst e2
      obtain⟨sv',q5,q6⟩:=kA g hx
      rw[q1]at q5;injection q5 with q5;subst q5
      cases sa<;>simp only[cY]at q6
      obtain⟨rfl,rfl⟩:=q6
      simp only[storeAt]at q4
      split at q4
      ·rename_i cs hcs
       split at q4
       ·simp only[aD]at q4;subst q4
        exact box hcs hb
       ·cases q4
      ·cases q4
     ·rename_i v' hx
      injection he with he;injection he with e1 e2;subst e1;subst e2
      obtain⟨sv',q5,q6⟩:=kA g hx
      rw[q1]at q5;injection q5 with q5;subst q5
      have:s2.1 = σ:=by
       cases sa with
       |lptr=>simp only[cY]at q6
       |box=>simp only[cY]at q6
       |val iv=>
        cases iv<;>simp only[storeAt]at q4<;>try (cases q4;done)
        obtain⟨k,_,q4⟩:=aA.1 q4
        obtain⟨e,_,q4⟩:=aA.1 q4
        split at q4
        ·simp only[aD]at q4;subst q4;rfl
        ·split at q4
         ·simp only[aD]at q4;subst q4;rfl
         ·cases q4
      have:s2=(σ,s2.2):=by rw[<-this]
      rw[this]
      exact Bg g hs (by simpa using hh) hh0 hZ1
     ·cases he
    ·cases h1
   case next x=>
    rw[ho]at he h1
    simp only[Qq]at he
    cases x with
    |t t=>
     simp only[aD,aM]at he
     obtain⟨rfl,rfl⟩:=he
     simp only[aT]at h1
     obtain⟨q,q1,h1⟩:=aA.1 h1
     split at h1
     ·injection h1 with h1;injection h1 with _ h1;subst h1
      unfold Ig at q1
      split at q1
      ·rename_i b n hb0
       exact box hb0 hb
      ·cases q1
     ·injection h1 with h1;injection h1 with _ h1;subst h1;exact hs
    |c v=>cases he
    |f id=>cases he
   all_goals
    refine other (by rw[ho];simp) (by rw[ho];simp) ?_
    rw[ho]at he
    simp only[Qq,aD,aM]at he
    rw[ho];exact he.2.symm
theorem Ef {h h':aN} {sz bytes:Nat} {x y v:IV} (e:append h sz bytes x y=some (v,h')) {b:Nat} (hb:b<h.length) (hx:∀b1 tot off len cap,x = .sl b1 tot off len cap->b1≠b):h'[b]? = h[b]?:=by
 unfold append at e
 obtain⟨new,_,e⟩:=aA.1 e
 split at e
 ·cases e
 ·split at e
  ·split at e
   ·injection e with e;injection e with _ e;rw[e]
   ·split at e
    ·injection e with e;injection e with _ e;rw[<-e];exact bC hb
    ·cases e
  ·split at e
   ·injection e with e;injection e with _ e;rw[e]
   ·split at e
    ·injection e with e;injection e with _ e;rw[<-e];exact bC hb
    ·cases e
  ·rename_i b1 tot off len cap
   have hne:=hx _ _ _ _ _ rfl
   obtain⟨k,_,e⟩:=aA.1 e
   split at e
   ·split at e
    ·injection e with e;injection e with _ e;rw[e]
    ·split at e
     ·injection e with e;injection e with _ e;rw[<-e];exact bX (Ne.symm hne)
     ·split at e
      ·split at e
       ·injection e with e;injection e with _ e;rw[<-e];exact bX (Ne.symm hne)
       ·cases e
      ·cases e
   ·cases e
  ·split at e
   ·injection e with e;injection e with _ e;rw[e]
   ·cases e
  ·split at e
   ·injection e with e;injection e with _ e;rw[e]
   ·split at e
    ·injection e with e;injection e with _ e;rw[<-e];exact bC hb
    ·cases e
  ·cases e
theorem yO {R:lL} {T:List dP} {TI:List SV} {c0:Cf} {st:gJ} {σ:Fr} {h h':aN} (g:G R T TI c0 st (σ,h)) {c:cH} {n:Option Nat} {p:SX} {B0:Nat} {o:kT} {w:Bool} {cs:List AV} (hc:c.op = .load n p)
 (hp:ax T st.fr p=some (.val (.ptr B0 o))) (k0:c0.H[B0]? = some (.obj w cs)) (hfr:∀b0,c0.m B0=some b0->b0<h.length->h'[b0]? = h[b0]?) (hs:same call opn c (σ,h)=true):same call opn c (σ,h')=true:=by
 refine Be hc (fun sa m hsa=>?_) hs
 obtain⟨sv',q1,q2⟩:=kA g.gf hp
 rw[hsa]at q1;injection q1 with q1;subst q1
 cases sa<;>simp only[cY,Va]at q2
 obtain⟨_,q2⟩:=q2
 unfold lV at q2
 rw[k0]at q2
 obtain⟨b0,m0,rfl⟩:=q2
 have hlt:b0<h.length:=by
  have:=g.gh.lt B0 _ b0 k0 (by simp) (Cf.ft_m m0)
  rw[g.h]at this;exact this
 simp only[eS,hget,hfr b0 m0 hlt]
theorem If {R:lL} {T:List dP} {TI:List SV} {c0:Cf} {st:gJ} {σ:Fr} {h:aN} (g:G R T TI c0 st (σ,h)) {it c:cH} {s':St} (hk:Pz T st it c=true) (hs:same call opn c (σ,h)=true) (e:fL call opn it (σ,h)=some s'):same call opn c s'=true:=by
 unfold Pz at hk
 rw[aF]at hk
 obtain⟨hk1,hk2⟩:=hk
 have hd:∀t,it.dst=some t->t∉c.slots/\c.dst≠some t:=by
  intro t ht
  rw[ht]at hk1
  simpa using hk1
 simp only[fL]at e
 obtain⟨w,hw,e⟩:=aA.1 e
 cases w with
 |false=>exact zF hd hs (by simpa using e)
 |true=>
  simp only[if_true]at e
  obtain⟨r,h1,h2⟩:=aA.1 e
  obtain⟨sv,s1⟩:=r
  refine zF hd ?_ h2
  split at hk2
  ·rename_i sz bytes x y n p ho hc
   split at hk2
   ·rename_i B1 B0 o hx hp
    split at hk2
    ·rename_i cs hp0 ln0 t0 l0 k0 k1
     simp only[bne_iff_ne,ne_eq]at hk2
     rw[ho]at h1
     simp only[aT]at h1
     obtain⟨a,a1,h1⟩:=aA.1 h1
     obtain⟨b,b1,h1⟩:=aA.1 h1
     obtain⟨rr,r1,h1⟩:=aA.1 h1
     obtain⟨v,h'⟩:=rr
     injection h1 with h1;injection h1 with _ h1;subst h1
     rw[<-g.H]at k0 k1
     refine yO g hc hp k0 (fun b0 m0 hlt=>?_) hs
     obtain⟨iv,v1,v2⟩:=dV g.gf hx
     rw[a1]at v1;injection v1 with v1;subst v1
     simp only[Va]at v2
     obtain⟨_,v2⟩:=v2
     refine Ef r1 hlt fun b2 tot off len cap hab=>?_
     subst hab
     rcases v2 with hg|⟨wr,hp',ln',t',l',k2,ow⟩
     ·rw[k1]at hg;cases hg
     ·unfold fC at ow
      split at ow
      ·rcases ow with ow|ow<;>cases ow
      ·rename_i b3 m1
       injection ow with ow;subst ow
       intro hbb
       subst hbb
       exact hk2 (g.gh.inj B0 B1 _ _ _ k0 k1 rfl rfl (Cf.ft_m m0) (Cf.ft_m m1))
    ·cases hk2
   ·cases hk2
  ·rename_i ho hc
   split at hk2
   ·rename_i B0 o hp
    split at hk2
    ·rename_i k0
     rw[ho]at h1
     simp only[aT]at h1
     split at h1
     ·obtain⟨es,_,h1⟩:=aA.1 h1
      split at h1
      ·injection h1 with h1;injection h1 with _ h1;subst h1
       rw[<-g.H]at k0
       exact yO g hc hp k0 (fun b0 m0 hlt=>bC hlt) hs
      ·split at h1
       ·injection h1 with h1;injection h1 with _ h1;subst h1;exact hs
       ·injection h1 with h1;injection h1 with _ h1;subst h1;exact hs
     ·cases h1
    ·cases hk2
   ·cases hk2
  ·rename_i ho hc
   split at hk2
   ·rename_i B0 o hp
    split at hk2
    ·rename_i k0
     rw[ho]at h1
     simp only[aT]at h1
     obtain⟨l,_,h1⟩:=aA.1 h1
     obtain⟨cc,_,h1⟩:=aA.1 h1
     split at h1
     ·split at h1
      ·injection h1 with h1;injection h1 with _ h1;subst h1
       rw[<-g.H]at k0
       exact yO g hc hp k0 (fun b0 m0 hlt=>bC hlt) hs
      ·cases h1
     ·cases h1
    ·cases hk2
   ·cases hk2
  ·cases hk2
end
section
variable {prog:Nat->Option mO} {opn:Nat->Bool} {cs:Nat->Option Ct} {ety:Nat->Option Ty} {Rr:Type} {icall:Nat->List AV->eB->(AV->eB->Option Rr)->Option Rr} {r:Rr} {R:lL}
variable (hcs:∀f ct,cs f=some ct->hQ prog opn f ct) (hic:mY prog opn icall)
include hcs hic
def Nq (call:Nat->List IV->aN->Option (IV×aN)) (opn:Nat->Bool):List (cH×List cH)->St->Option St
 |[],s=>some s
 |(it,cs)::r,s=>(fL call opn it s).bind fun s=>if pC call opn cs s then Nq call opn r s else none
theorem Ho {c0:Cf} {T:List dP} {TI:List SV} {st':gJ} {σ σ':Fr} {h h':aN} {it:cH} (g:G R T TI c0 st' (σ',h')) (hw:rM opn st'.fr it=true)
 (e:fL (eC prog opn) opn it (σ,h)=some (σ',h')):same (eC prog opn) opn it (σ',h')=true:=by
 unfold rM at hw
 rw[aF]at hw
 obtain⟨hq,hw⟩:=hw
 cases hd:it.dst with
 |none=>rw[hd]at hw;cases hw
 |some t=>
  rw[hd]at hw
  simp only[aF,dU,iA,decide_eq_false_iff_not]at hw
  obtain⟨hns,hw⟩:=hw
  obtain⟨u,hu,hn⟩:∃u,σ'.get t=some u/\∀cs,u≠.box cs:=by
   split at hw
   ·rename_i a ha
    have:=g.gf.fr t
    rw[ha]at this
    obtain⟨sv,h1,h2⟩:=this
    cases sv<;>simp only[cY]at h2
    exact⟨_,h1,fun cs e=>by cases e⟩
   ·rename_i a o ha
    have:=g.gf.fr t
    rw[ha]at this
    obtain⟨sv,h1,h2⟩:=this
    cases sv<;>simp only[cY]at h2
    exact⟨_,h1,fun cs e=>by cases e⟩
   ·cases hw
  have key:∀{sv:SV},gL (σ,h) it.dst sv=some (σ',h')->sv=u/\h'=h/\bF σ t=true/\∀t',t'≠t->σ'.get t' = σ.get t':=by
   intro sv h2
   obtain⟨p1,p2,p3⟩:=yH h2
   rw[hd]at h2
   simp only[gL]at h2
   split at h2
   ·rename_i hf
    simp only[aD,aM]at h2
    refine⟨?_,p1,hf,fun t' ht=>p2 t' fun e=>ht (by rw[hd]at e;injection e with e;exact e.symm)⟩
    rw[<-h2.1]at hu
    simpa [Fr.put,Fr.get]using hu
   ·cases h2
  simp only[fL]at e
  obtain⟨w,hwn,e⟩:=aA.1 e
  have al:∀{sv:SV},gL (σ,h) it.dst sv=some (σ',h')->∀t'∈it.slots,lN σ σ' t':=fun h2 t' ht=>.inl ((key h2).2.2.2 t' fun e=>hns (by rw[<-e];exact ht))
  cases w with
  |false=>
   simp only[aR,if_false]at e
   obtain⟨k1,k2,k3,k4⟩:=key e
   subst k1
   refine lX hd hu hn (.inr ⟨?_,rfl⟩)
   rw[mR (it:=it) (al e)];exact hwn
  |true=>
   simp only[if_true]at e
   obtain⟨rr,h1,h2⟩:=aA.1 e
   obtain⟨sv,s1⟩:=rr
   have:=kW hq h1
   subst this
   obtain⟨k1,k2,k3,k4⟩:=key h2
   subst k1;subst k2
   refine lX hd hu hn (.inl ⟨by rw[mR (it:=it) (al h2)];exact hwn,?_⟩)
   have hdv:∀t',it.dst=some t'->bF σ' t'=true:=fun t' ht'=>by
    rw[hd]at ht';injection ht' with ht';subst ht'
    unfold bF;rw[hu]
    cases sv with
    |box cs=>exact absurd rfl (hn cs)
    |val=>rfl
    |lptr=>rfl
   have hbx:∀s cs',σ.get s=some (.box cs')->σ'.get s=some (.box cs'):=fun s cs' hb=>by
    by_cases hst:s=t
    ·subst hst
     unfold bF at k3
     rw[hb]at k3;cases k3
    ·rw[k4 s hst];exact hb
   obtain⟨F1,q1,_⟩:=kR (F:=σ') (fun t' ht'=>al h2 t' (tO ht')) (fun _ _ _ s _ cs' _ hb=>hbx s cs' hb) hdv h1
   exact⟨_,q1⟩
omit hcs hic in
theorem Hw {a b:kT} {K:Option Rr} (e:Of a b K=some r):a.val=b.val/\K=some r:=by
 unfold Of at e
 split at e
 ·split at e
  ·rename_i h;subst h;exact⟨rfl,e⟩
  ·cases e
 ·split at e
  ·rename_i h
   obtain⟨rfl,rfl,rfl⟩:=h
   simp only[qI,decide_eq_true_eq]at e
   split at e
   ·rename_i hn;subst hn;exact⟨rfl,e⟩
   ·cases e
  ·cases e
 ·cases e
theorem Cq {T:List dP} {TI:List SV} {c:Cf} {st:gJ} {s:St} {it:cH} {t:Nat} (g:G R T TI c st s) (hd:it.dst=some t) (hg:wanted s.1 it.g=some true) {K:Option Rr} (e:Eh cs opn ety icall T t it st K=some r):same (eC prog opn) opn it s=true/\K=some r:=by
 unfold Eh at e
 split at e
 ·rename_i a ha
  split at e
  ·obtain⟨sv,s',h1,v,st',c',g',le,hv,e2⟩:=xO g hcs hic e
   have hf:=g.gf.fr t
   rw[ha]at hf
   obtain⟨u,hu,hv0⟩:=hf
   have key:∀{w:IV},u = .val w->sv = .val w->same (eC prog opn) opn it s=true:=by
    rintro w rfl rfl
    exact lX hd hu (fun cs e=>by cases e) (.inl ⟨hg,s',by rw[hd];exact h1⟩)
   cases v with
   |val b=>
    simp only at e2
    unfold Vd at e2
    split at e2
    ·split at e2
     ·rename_i hk;subst hk
      simp only[qI,decide_eq_true_eq]at e2
      split at e2
      ·rename_i hn;subst hn
       cases u<;>simp only[cY]at hv0
       cases sv<;>simp only[cY]at hv
       simp only[Va]at hv0 hv
       subst hv0;subst hv
       exact⟨key rfl rfl,e2⟩
      ·cases e2
     ·cases e2
    ·simp only[qI,beq_iff_eq]at e2
     split at e2
     ·rename_i hn;subst hn
      cases u<;>simp only[cY]at hv0
      cases sv<;>simp only[cY]at hv
      simp only[Va]at hv0 hv
      subst hv0;subst hv
      exact⟨key rfl rfl,e2⟩
     ·cases e2
    ·simp only[qI,beq_iff_eq]at e2
     split at e2
     ·rename_i hn;subst hn
      cases u<;>simp only[cY]at hv0
      cases sv<;>simp only[cY]at hv
      simp only[Va]at hv0 hv
      subst hv0;subst hv
      exact⟨key rfl rfl,e2⟩
     ·cases e2
    ·cases e2
   |_=>cases e2
  ·cases e
 ·rename_i n o ha
  split at e
  ·obtain⟨sv,s',h1,v,st',c',g',le,hv,e2⟩:=xO g hcs hic e
   have hf:=g.gf.fr t
   rw[ha]at hf
   obtain⟨u,hu,hv0⟩:=hf
   cases v with
   |lptr n' o'=>
    simp only at e2
    split at e2
    ·rename_i hn;subst hn
     cases u<;>simp only[cY]at hv0
     cases sv<;>simp only[cY]at hv
     obtain⟨rfl,rfl⟩:=hv0
     obtain⟨rfl,rfl⟩:=hv
     obtain⟨ho,hK⟩:=Hw e2
     refine⟨lX hd hu (fun cs e=>by cases e) (.inl ⟨hg,s',by rw[hd,h1,ho]⟩),hK⟩
    ·cases e2
   |_=>cases e2
  ·cases e
 ·cases e
omit hcs hic in
theorem Ff {call:Nat->List IV->aN->Option (IV×aN)} {T:List dP} {TI:List SV} {c:Cf} {st:gJ} {s:St} {it:cH} {t:Nat} (g:G R T TI c st s) (hd:it.dst=some t) (hg:wanted s.1 it.g=some false) {K:Option Rr} (e:Js t st K=some r):same call opn it s=true/\K=some r:=by
 unfold Js at e
 split at e
 ·rename_i ha
  have hf:=g.gf.fr t
  rw[ha]at hf
  obtain⟨u,hu,hv⟩:=hf
  cases u<;>simp only[cY,Va,jP]at hv
  obtain⟨_,rfl,rfl⟩:=hv
  exact⟨lX hd hu (fun cs e=>by cases e) (.inr ⟨hg,rfl⟩),e⟩
 ·cases e
theorem Nf {T:List dP} {TI:List SV} {c:Cf} {st:gJ} {s:St} {it:cH} (g:G R T TI c st s) {K:Option Rr} (e:Jc cs opn ety icall T it st K=some r):same (eC prog opn) opn it s=true/\K=some r:=by
 unfold Jc at e
 split at e
 ·rename_i t hd
  split at e
  ·rename_i hg
   exact Cq hcs hic g hd (by rw[hg];rfl) e
  ·rename_i gt w hg
   split at e
   ·rename_i b hb
    obtain⟨sv,h1,h2⟩:=fS g.gf hb
    cases sv<;>simp only[cY,Va]at h2
    subst h2
    cases hbw:(b==w) with
    |true=>
     rw[hbw]at e
     exact Cq hcs hic g hd (by simp only[hg,wanted,h1,hbw]) e
    |false=>
     rw[hbw]at e
     exact Ff g hd (by simp only[hg,wanted,h1,hbw]) e
   ·rename_i hb
    obtain⟨sv,h1,h2⟩:=fS g.gf hb
    cases sv<;>simp only[cY,Va,jP]at h2
    obtain⟨_,rfl,rfl⟩:=h2
    exact Ff g hd (by simp only[hg,wanted,h1]) e
   ·cases e
 ·cases e
theorem zV {T:List dP} {TI:List SV} {c:Cf} {st:gJ} {s:St} (g:G R T TI c st s):∀{its:List cH} {K:Option Rr},xN cs opn ety icall T its st K=some r->(∀it∈its,same (eC prog opn) opn it s=true)/\K=some r
 |[],K,e=>⟨by simp,e⟩
 |it::its,K,e=>by
  simp only[xN]at e
  obtain⟨h1,e1⟩:=Nf hcs hic g e
  obtain⟨h2,e2⟩:=zV g e1
  exact⟨by rintro x hx;rcases aQ.1 hx with rfl|hx;exact h1;exact h2 x hx,e2⟩
theorem Re {T:List dP} {TI:List SV}:∀{zs:List (cH×List cH)} {wat:List cH} {c:Cf} {st:gJ} {s:St},G R T TI c st s->(∀d∈wat,same (eC prog opn) opn d s=true)->∀{K:gJ->Option Rr},aDs cs opn ety icall T zs wat st K=some r->
 ∃s',Nq (eC prog opn) opn zs s=some s'/\∃st' c',G R T TI c' st' s'/\Le c c'/\K st'=some r
 |[],wat,c,st,s,g,_,K,e=>⟨s,rfl,st,c,g,Le.refl c,e⟩
 |(it,cs')::zs,wat,c,st,s,g,hw,K,e=>by
  simp only[aDs]at e
  obtain⟨s1,h1,st1,c1,g1,le1,e1⟩:=Rb g hcs hic e
  obtain⟨σ,h⟩:=s
  obtain⟨σ1,hh1⟩:=s1
  have hw1:∀d∈wat.filter (wQ opn T st it),same (eC prog opn) opn d (σ1,hh1)=true:=fun d hd=>by
   rw[nE]at hd
   have hk:=hd.2
   unfold wQ at hk
   rw[cV]at hk
   rcases hk with hk|hk
   ·exact Lz g.gf hk (hw d hd.1) h1 g.h (fun b hb=>by rw[<-g1.h,le1.Z.h b hb,g.h])
   ·exact If g hk (hw d hd.1) h1
  obtain⟨hag,e1⟩:=zV hcs hic g1 e1
  ·have hsm:pC (eC prog opn) opn cs' (σ1,hh1)=true:=by
    unfold pC
    rw[bE]
    intro x hx
    cases hany:(wat.filter (wQ opn T st it)).any fun d=>decide (d=x) with
    |false=>exact hag x (by rw[nE];exact⟨hx,by rw[hany];rfl⟩)
    |true=>
     rw[kF]at hany
     obtain⟨d,hd,e⟩:=hany
     have:=of_decide_eq_true e
     subst this
     exact hw1 _ hd
   have hw2:∀d∈(if rM opn st1.fr it then it::wat.filter (wQ opn T st it) else wat.filter (wQ opn T st it)),same (eC prog opn) opn d (σ1,hh1)=true:=by
    split
    ·rename_i hwt
     intro d hd
     rcases aQ.1 hd with rfl|hd
     ·exact Ho hcs hic g1 hwt h1
     ·exact hw1 d hd
    ·exact hw1
   obtain⟨s2,h2,st2,c2,g2,le2,e2⟩:=Re g1 hw2 e1
   exact⟨s2,by simp only[Nq,h1,aB,hsm,if_true];exact h2,st2,c2,g2,le1.trans le2,e2⟩
end
theorem Dy {call:Nat->List IV->aN->Option (IV×aN)} {opn:Nat->Bool}:∀{a b:List (cH×List cH)} {s:St},Nq call opn (a++b) s=(Nq call opn a s).bind fun s=>Nq call opn b s
 |[],b,s=>rfl
 |(it,cs)::a,b,s=>by
  simp only[cG,Nq]
  cases fL call opn it s with
  |none=>rfl
  |some s1=>
   simp only[aB]
   split
   ·exact Dy
   ·rfl
theorem Dx {call:Nat->List IV->aN->Option (IV×aN)} {opn:Nat->Bool}:∀{a:List cH} {s:St},Nq call opn (a.map (·,[])) s=dL call opn a s
 |[],s=>rfl
 |it::a,s=>by
  simp only[eZ,Nq,dL]
  cases fL call opn it s with
  |none=>rfl
  |some s1=>simp only[aB,pC,List.all_nil,if_true];exact Dx
theorem Ql {call:Nat->List IV->aN->Option (IV×aN)} {opn:Nat->Bool}:∀{bs:List DB} {s:St},Nq call opn (bs.flatMap fun b=>(b.w,b.cs)::b.qs.map (·,[])) s=pI call opn bs s
 |[],s=>rfl
 |b::r,s=>by
  simp only[pI,eG,cG,Nq,Dy,Dx]
  cases fL call opn b.w s with
  |none=>rfl
  |some s1=>
   simp only[aB]
   split
   ·cases dL call opn b.qs s1 with
    |none=>rfl
    |some s2=>simp only[aB];exact Ql
   ·rfl
theorem Xt {call:Nat->List IV->aN->Option (IV×aN)} {opn:Nat->Bool} {q0:List cH} {bs:List DB} {s:St}:Nq call opn (Vv q0 bs) s=(dL call opn q0 s).bind fun s=>pI call opn bs s:=by
 unfold Vv
 rw[Dy,Dx]
 cases dL call opn q0 s with
 |none=>rfl
 |some s1=>simp only[aB];exact Ql
end Go.Ideal
namespace Go.Ideal
def CF (p:Bool) (Z:Nat->Prop) (h:aN) (rt:Nat->Option Nat):(cs:List SC)->DL (cs.map SC.hole)->List IV->Lo->Prop
 |[],_,ivs,L=>ivs=[]/\L=[]
 |.ty hp ln t::r,x,ivs,L=>∃u v,ivs=u++v/\TR p Z h ln t hp x.1 u/\CF p Z h rt r x.2 v L
 |.mark::r,x,ivs,L=>∃v,ivs = .mark::v/\CF p Z h rt r x.2 v L
 |.own t::r,x,ivs,L=>∃iv v mb L',ivs=iv::v/\L=(mb,[])::L'/\Jf p Z h t x.1 iv mb/\CF p Z h rt r x.2 v L'
 |.ow k t::r,x,ivs,L=>∃u v M N,ivs=u++v/\L=M++N/\TF p Z h rt (.ow k t) x.1 u M/\CF p Z h rt r x.2 v N
def KF (p:Bool) (Z:Nat->Prop) (h:aN) (rt:Nat->Option Nat) (σ:Fr) (base:Nat->Option dP) (fk:dP->Option SV->Prop) (t:Nat):(k:SK)->DL k.hs->Lo->Oo->Prop
 |.keep,_,L,O=>(∀a,base t=some a->fk a (σ.get t))/\L=[]/\O=[]
 |.val hp ln v,x,L,O=>(∃iv,σ.get t=some (.val iv)/\TV p Z h ln v hp x.1 iv)/\L=[]/\O=[]
 |.own u,x,L,O=>∃iv mb,σ.get t=some (.val iv)/\Jf p Z h u x.1 iv mb/\L=[(mb,[])]/\O=[]
 |.box cs,x,L,O=>∃ivs,σ.get t=some (.box ivs)/\CF p Z h rt cs x ivs L/\O=[]
 |.obj cs,x,L,O=>∃B b e,base t=some (.val (.ptr B (.st 0)))/\σ.get t=some (.val (.ptr b 1 0 0))/\h[b]? = some (some ⟨e.length,[e]⟩)/\CF p Z h rt cs x e L/\O=[(B,b)]
 |.root u,x,L,O=>∃B b e,base t=some (.val (.ptr B (.st 0)))/\σ.get t=some (.val (.ptr b 1 0 0))/\h[b]? = some (some ⟨e.length,[e]⟩)/\TF p Z h rt u x.1 e L/\O=[(B,b)]
 |.groot u,x,L,O=>∃B b e,base t=some (.val (.ptr B (.st 0)))/\h[b]? = some (some ⟨e.length,[e]⟩)/\TF p Z h rt u x.1 e L/\O=[(B,b)]
 |.agw u,x,L,O=>∃cs,σ.get t=some (.val (.agg cs))/\TF p Z h rt u x.1 cs L/\O=[]
 |.ow k u,x,L,O=>∃iv,σ.get t=some (.val iv)/\TF p Z h rt (.ow k u) x.1 [iv] L/\O=[]
def SF (p:Bool) (Z:Nat->Prop) (h:aN) (rt:Nat->Option Nat) (σ:Fr) (base:Nat->Option dP) (fk:dP->Option SV->Prop):(sh:nY)->DL sh.hs->Lo->Oo->Prop
 |[],_,L,O=>L=[]/\O=[]
 |(t,k)::r,x,L,O=>∃L1 L2 O1 O2,L=L1++L2/\O=O1++O2/\KF p Z h rt σ base fk t k x.fst L1 O1/\SF p Z h rt σ base fk r x.snd L2 O2
theorem DL.fst_app:∀{a b:List Ty} (x:DL a) (y:DL b),(DL.app x y).fst=x
 |[],_,_,_=>rfl
 |_::_,_,x,y=>by simp only[DL.app,DL.fst];rw[DL.fst_app];rfl
theorem DL.snd_app:∀{a b:List Ty} (x:DL a) (y:DL b),(DL.app x y).snd=y
 |[],_,_,_=>rfl
 |_::_,_,x,y=>by simp only[DL.app,DL.snd];rw[DL.snd_app]
theorem mB:∀{a:List Ty} (x:DL a),qQ (tX x)=x
 |[],_=>rfl
 |[_],x=>rfl
 |_::_::_,x=>by simp only[tX,qQ];rw[mB];rfl
section
variable {c:Cf} (hb:xB c) {Z:Nat->Prop} (hZ:∀b,c.Z b->Z b)
include hb hZ
theorem sB:∀{cs:List SC} {l:List AV} {ivs:List IV} {x:DL (cs.map SC.hole)×kY},dB c l ivs->tH c.H cs l=some x->(∀B∈x.2.frz,∀b∈c.ft B,Z b)->
 ∃L,CF c.p Z c.h c.rt cs x.1 ivs L/\tI c x.2 L []
 |[],l,ivs,x,h,e,hf=>by
  cases l with
  |nil=>simp[tH]at e;subst e;simp only[dB]at h;subst h;exact⟨[],⟨rfl,rfl⟩,tI.nil⟩
  |cons _ _=>simp[tH]at e
 |.ty hp ln t::r,l,ivs,x,h,e,hf=>by
  simp only[tH]at e
  obtain⟨y,e1,e⟩:=aA.1 e
  obtain⟨z,e2,e⟩:=aA.1 e
  split at e
  ·rename_i hfl
   simp only[aF,Yo,cV,dU]at hfl
   simp at e;subst e
   obtain⟨le,hb'⟩:=cz hb hZ
   obtain⟨pre,p1,p2⟩:=jM hb' e1 (h.le le)
   have hpre:l.take (l.length-y.2.length)=pre:=by rw[p1];simp
   rw[hpre]at hfl hf
   obtain⟨u1,u2,rfl,p3,p4⟩:=p2 hp ln (fun h=>by rcases hfl.1 with h'|h';rw[h]at h';cases h';exact h') (fun h=>by rcases hfl.2 with h'|h';rw[h]at h';cases h';exact h')
    (fun B hB b hm=>hf B (by simp[hB]) b hm)
   obtain⟨u1',u2',q1,q2,q3⟩:∃a b,u1++u2=a++b/\dB c pre a/\dB c y.2 b:=by rw[p1]at h;exact h.splitA
   have hlen:u1.length=u1'.length:=by
    have h1:=(dB.len q3).1
    have h2:=(dB.len p4).1
    have:=congrArg List.length q1
    simp only[aV]at this
    omega
   obtain⟨rfl,rfl⟩:=List.append_inj q1 hlen
   obtain⟨L,h1,h2⟩:=sB q3 e2 (fun B hB=>hf B (by simp[hB]))
   refine⟨L,⟨u1,u2,rfl,p3,h1⟩,h2.frz⟩
  ·cases e
 |.mark::r,l,ivs,x,h,e,hf=>by
  cases l with
  |nil=>simp[tH]at e
  |cons a l=>
   cases a<;>simp only[tH]at e<;>try (cases e;done)
   obtain⟨z,e2,e⟩:=aA.1 e
   simp only[aD]at e;subst e
   simp only[dB,Ca]at h
   obtain⟨_,v,rfl,rfl,h2⟩:=h
   obtain⟨L,h3,h4⟩:=sB h2 e2 hf
   exact⟨L,⟨v,rfl,h3⟩,h4⟩
 |.own t::r,l,ivs,x,h,e,hf=>by
  cases l with
  |nil=>simp[tH]at e
  |cons a l=>
   simp only[tH]at e
   obtain⟨y,e1,e⟩:=aA.1 e
   obtain⟨z,e2,e⟩:=aA.1 e
   simp at e;subst e
   simp only[dB]at h
   obtain⟨u,v,rfl,h1,h2⟩:=h
   have ho:a.one=true:=by unfold Fa at e1;split at e1<;>first|rfl|(cases e1;done)
   obtain⟨iv,rfl,_,h3⟩:=(eT ho).1 h1
   obtain⟨mb,g1,g2,g3,g4⟩:=Ez hb hZ h3 e1
   obtain⟨L,h4,h5⟩:=sB h2 e2 (fun B hB=>hf B (by simp[kY.app,hB]))
   exact⟨(mb,[])::L,⟨iv,v,mb,L,rfl,rfl,g1,h4⟩,g2.app h5⟩
 |.ow k t::r,l,ivs,x,h,e,hf=>by
  simp only[tH]at e
  obtain⟨y,e1,e⟩:=aA.1 e
  obtain⟨z,e2,e⟩:=aA.1 e
  simp only[aD]at e;subst e
  obtain⟨u,v,M,rfl,h1,h2,h3⟩:=kL hb hZ h e1 (fun B hB=>hf B (by simp[kY.app,hB]))
  obtain⟨N,h4,h5⟩:=sB h2 e2 (fun B hB=>hf B (by simp[kY.app,hB]))
  exact⟨M++N,⟨u,v,M,N,rfl,rfl,h1,h4⟩,h3.app h5⟩
variable {T:List dP} {TI:List SV} {st:gJ} {s:St} (hH:c.H=st.H) (g:GF T TI c st.fr s.1) {pos:Nat->Option Nat} {base:Nat->Option dP} {fk:dP->Option SV->Prop}
 (hk:∀t,t<pG->(∃i,st.fr.get t=some (.cst i)/\pos t=some i)->∀a,base t=some a->fk a (s.1.get t))
 {chk:Bool} (hchk:chk=true\/∀t a,t<pG->base t=some a->fk a (s.1.get t))
include hH g hk hchk
theorem Up {t:Nat} {k:SK} {x:DL k.hs×kY} (e:zZ T pos base chk st t k=some x) (hf:∀B∈x.2.frz,∀b∈c.ft B,Z b):
 ∃L O,KF c.p Z c.h c.rt s.1 base fk t k x.1 L O/\tI c x.2 L O:=by
 cases k with
 |keep=>
  simp only[zZ]at e
  split at e
  ·cases e
  rename_i hgt
  have hgt:t<pG:=by omega
  refine⟨[],[],⟨?_,rfl,rfl⟩,?_⟩
  ·rcases hchk with rfl|h
   ·split at e
    ·rename_i i hi
     simp only[if_true]at e
     split at e
     ·rename_i hp;exact hk t hgt ⟨i,hi,hp⟩
     ·cases e
    ·cases e
    ·cases e
    ·cases e
   ·exact fun a ha=>h t a hgt ha
  ·have:x.2=kY.nil:=by
    split at e
    ·split at e
     ·split at e
      ·simp at e;subst e;rfl
      ·cases e
     ·simp at e;subst e;rfl
    ·split at e
     ·cases e
     ·simp at e;subst e;rfl
    ·split at e
     ·cases e
     ·simp at e;subst e;rfl
    ·cases e
   rw[this];exact tI.nil
 |val hp ln v=>
  simp only[zZ]at e
  split at e
  ·rename_i a ha
   split at e
   ·rename_i hfl
    obtain⟨y,e1,e⟩:=aA.1 e
    simp at e;subst e
    obtain⟨sv,h1,h2⟩:=fS g ha
    cases sv<;>simp only[cY]at h2
    rename_i iv
    obtain⟨le,hb'⟩:=cz hb hZ
    rw[<-hH]at e1 hfl
    simp only[aF,Yo,cV,dU]at hfl
    have:=Cz hb' (hp:=hp) (ln:=ln) e1 (h2.le le) (fun h=>by rcases hfl.1 with h'|h';rw[h]at h';cases h';exact h') (fun h=>by rcases hfl.2 with h'|h';rw[h]at h';cases h';exact h')
     (fun B hB b hm=>hf B hB b hm)
    exact⟨[],[],⟨⟨iv,h1,this⟩,rfl,rfl⟩,tI.nil.frz⟩
   ·cases e
  ·cases e
 |own u=>
  simp only[zZ]at e
  split at e
  ·rename_i a ha
   obtain⟨y,e1,e⟩:=aA.1 e
   simp at e;subst e
   obtain⟨sv,h1,h2⟩:=fS g ha
   cases sv<;>simp only[cY]at h2
   rename_i iv
   rw[<-hH]at e1
   obtain⟨mb,g1,g2,g3,g4⟩:=Ez hb hZ h2 e1
   exact⟨[(mb,[])],[],⟨iv,mb,h1,g1,rfl,rfl⟩,g2⟩
  ·cases e
 |box cs=>
  simp only[zZ]at e
  cases ha:mF T st.fr t with
  |none=>rw[ha]at e;cases e
  |some a=>
   rw[ha]at e
   cases a with
   |box l=>
    simp only at e
    obtain⟨sv,h1,h2⟩:=fS g ha
    cases sv<;>simp only[cY]at h2
    rename_i ivs
    rw[<-hH]at e
    obtain⟨L,h3,h4⟩:=sB hb hZ h2 e hf
    exact⟨L,[],⟨ivs,h1,h3,rfl⟩,h4⟩
   |val _=>cases e
   |lptr _ _=>cases e
   |cst _=>cases e
 |obj cs=>
  simp only[zZ]at e
  split at e
  ·rename_i B B' ha hba
   split at e
   ·rename_i hBB;subst hBB
    split at e
    ·rename_i l hB
     obtain⟨y,e1,e⟩:=aA.1 e
     simp at e;subst e
     obtain⟨sv,h1,h2⟩:=fS g ha
     cases sv<;>simp only[cY,Va]at h2
     rw[<-hH]at hB e1
     obtain⟨b,hm,rfl⟩:=h2.2.obj hB
     have br:=hb _ _ hB
     simp only[BR]at br
     obtain⟨hf0,b',hm',ee,h3,hc⟩:=br
     rw[hm]at hm';injection hm' with hm';subst hm'
     obtain⟨L,h4,h5⟩:=sB hb hZ hc e1 hf
     refine⟨L,[(B',b)],⟨B',b,ee,hba,by simpa [kT.val]using h1,h3,h4,rfl⟩,⟨h5.own,by simpa using h5.obj,?_,h5.w⟩⟩
     intro z hz;simp at hz;subst hz;exact⟨hm,hf0,l,hB⟩
    ·cases e
   ·cases e
  ·cases e
 |root u=>
  simp only[zZ]at e
  split at e
  ·rename_i B B' ha hba
   split at e
   ·rename_i hBB;subst hBB
    split at e
    ·rename_i l hB
     obtain⟨y,e1,e⟩:=aA.1 e
     split at e
     ·rename_i hy
      simp at e;subst e
      obtain⟨sv,h1,h2⟩:=fS g ha
      cases sv<;>simp only[cY,Va]at h2
      rw[<-hH]at hB e1
      obtain⟨b,hm,rfl⟩:=h2.2.obj hB
      have br:=hb _ _ hB
      simp only[BR]at br
      obtain⟨hf0,b',hm',ee,h3,hc⟩:=br
      rw[hm]at hm';injection hm' with hm';subst hm'
      obtain⟨u',v',L,h6,h4,h7,h5⟩:=kL hb hZ hc e1 hf
      rw[hy]at h7
      simp only[dB]at h7;subst h7
      rw[bA]at h6;subst h6
      refine⟨L,[(B',b)],⟨B',b,ee,hba,by simpa [kT.val]using h1,h3,h4,rfl⟩,⟨h5.own,by simpa using h5.obj,?_,h5.w⟩⟩
      intro z hz;simp at hz;subst hz;exact⟨hm,hf0,l,hB⟩
     ·cases e
    ·cases e
   ·cases e
  ·cases e
 |groot u=>
  simp only[zZ]at e
  split at e
  ·rename_i B hba
   split at e
   ·rename_i l hB
    obtain⟨y,e1,e⟩:=aA.1 e
    split at e
    ·rename_i hy
     simp at e;subst e
     rw[<-hH]at hB e1
     have br:=hb _ _ hB
     simp only[BR]at br
     obtain⟨hf0,b,hm,ee,h3,hc⟩:=br
     obtain⟨u',v',L,h6,h4,h7,h5⟩:=kL hb hZ hc e1 hf
     rw[hy]at h7
     simp only[dB]at h7;subst h7
     rw[bA]at h6;subst h6
     refine⟨L,[(B,b)],⟨B,b,ee,hba,h3,h4,rfl⟩,⟨h5.own,by simpa using h5.obj,?_,h5.w⟩⟩
     intro z hz;simp at hz;subst hz;exact⟨hm,hf0,l,hB⟩
    ·cases e
   ·cases e
  ·cases e
 |agw u=>
  simp only[zZ]at e
  split at e
  ·rename_i l ha
   obtain⟨y,e1,e⟩:=aA.1 e
   split at e
   ·rename_i hy
    simp only[aD]at e;subst e
    obtain⟨sv,h1,h2⟩:=fS g ha
    cases sv<;>simp only[cY,Va]at h2
    obtain⟨ivs,rfl,h2⟩:=h2
    rw[<-hH]at e1
    obtain⟨u',v',M,h3,g1,g2,g3⟩:=kL hb hZ h2 e1 hf
    rw[hy]at g2
    simp only[dB]at g2;subst g2
    rw[bA]at h3;subst h3
    exact⟨M,[],⟨_,h1,g1,rfl⟩,g3⟩
   ·cases e
  ·cases e
 |ow k u=>
  simp only[zZ]at e
  split at e
  ·rename_i a ha
   split at e
   ·rename_i ho
    obtain⟨y,e1,e⟩:=aA.1 e
    split at e
    ·rename_i hy
     simp only[aD]at e;subst e
     obtain⟨sv,h1,h2⟩:=fS g ha
     cases sv<;>simp only[cY]at h2
     rename_i iv
     rw[<-hH]at e1
     obtain⟨u',v',M,h3,g1,g2,g3⟩:=kL hb hZ (dB.single.2 ((eT ho).2 ⟨iv,rfl,yN ho h2,h2⟩)) e1 hf
     rw[hy]at g2
     simp only[dB]at g2;subst g2
     rw[bA]at h3;subst h3
     exact⟨M,[],⟨iv,h1,g1,rfl⟩,g3⟩
    ·cases e
   ·cases e
  ·cases e
theorem rZ:∀{sh:nY} {x:DL sh.hs×kY},Ng T pos base chk st sh=some x->(∀B∈x.2.frz,∀b∈c.ft B,Z b)->
 ∃L O,SF c.p Z c.h c.rt s.1 base fk sh x.1 L O/\tI c x.2 L O
 |[],x,e,_=>by simp[Ng]at e;subst e;exact⟨[],[],⟨rfl,rfl⟩,tI.nil⟩
 |(t,k)::r,x,e,hf=>by
  simp only[Ng]at e
  obtain⟨y,e1,e⟩:=aA.1 e
  obtain⟨z,e2,e⟩:=aA.1 e
  simp at e;subst e
  obtain⟨L1,O1,h1,h2⟩:=Up hb hZ hH g hk hchk e1 (fun B hB=>hf B (by simp[kY.app,hB]))
  obtain⟨L2,O2,h3,h4⟩:=rZ e2 (fun B hB=>hf B (by simp[kY.app,hB]))
  refine⟨L1++L2,O1++O2,⟨L1,L2,O1,O2,rfl,rfl,?_,?_⟩,h2.app h4⟩
  ·rw[DL.fst_app];exact h1
  ·rw[DL.snd_app];exact h3
end
end Go.Ideal
