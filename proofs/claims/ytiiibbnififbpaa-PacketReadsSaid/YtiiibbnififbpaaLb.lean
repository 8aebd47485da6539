/- One operation, part 11: append; all operations that are no calls, together. -/
import Derived.Test.YtiiibbnififbpaaLa
import Derived.CallsIn
import Derived.OrdersIn
import Derived.TacticsIn
import Derived.LoopNIn
import Derived.ChangeKeysEq
import Derived.ProofKit
import Derived.ChangeOld
import Derived.Below
import Derived.Handed
import Derived.Carry
set_option linter.unusedVariables false
set_option linter.unusedSimpArgs false
namespace Go.Ideal
section
variable {P:Program} {o:Oper} {ac:Act} {w:World} {K:Kx} {h:aN} {σ:Fr} {d:Option Nat} {call:Nat->List IV->aN->Option (IV×aN)} {opn:Nat->Bool} {sv:SV} {s1:St}
theorem xZ {c:Call} {x y:Operand} {t t2 e:TypeId} {sz bytes:Nat} {z:Value} (ho:o.op = .call c) (hc:c.callee = .builtin .append) (ha:c.args = #[x,y]) (ht:c.argTypes = #[t,t2]) (he:qG P t e sz) (hb:(P.info? e).map (·.bytes)=some bytes)
 (h2:∃d,P.underlying t2=some d/\∀k,d≠.int k) (hz:(P.info? e).bind (·.zero)=some z) {base:Option Addr} {len cap n:Nat} (hx:ac.eval x = .slice base len cap) (hl:(Builtin.lenOf (ac.eval y)).run P w = .ok n w) {new:List Value}
 (hn:∀w3:World,w3.heap=w.heap->(Builtin.firstCells sz n (ac.eval y)).run P w3 = .ok new.toArray w3):
 (len+n≤cap->∀w1,(∀a,base=some a->(storeCells (a.add (len*sz)) new).run P w = .ok () w1)->(base=none->w1=w)->(execOp ac.eval o).run P w = .ok (.value (.slice base (len+n) cap)) w1)/\
 (cap<len+n->(len+n)*(bytes+1)≤17592186044416->∀old:List Value,(∀w3:World,w3.heap=w.heap->(Builtin.firstCells sz len (.slice base len cap)).run P w3 = .ok old.toArray w3)->
   ∃cap' w1,len+n≤cap'/\(execOp ac.eval o).run P w = .ok (.value (.slice (some ⟨w.heap.size,0,none⟩) (len+n) cap')) w1/\
    w1.heap=w.heap.push (.cells ((old++new).toArray++Builtin.zeroCells z.cells (cap'-(len+n))) e)/\((w1.os,w1.tape),w1.output)=((w.os,w.tape),w.output)):=by
 obtain⟨d2,hd2,hd2k⟩:=h2
 have hmt:(match d2 with | .int _=>true|_=>false)=false:=by cases d2<;>first|rfl|exact absurd rfl (hd2k _)
 rw[kJ ho hc,ha,ht]
 constructor
 ·intro hle w1 h1 h3
  cases base with
  |none=>
   rw[h3 rfl]
   simp[Go.builtin,Builtin.append_,hx,run_underlying he.und,fR he.siz,run_underlying hd2,hmt,hl,hle,hn w rfl]
  |some a=>
   have:=h1 a rfl
   simp[Go.builtin,Builtin.append_,hx,run_underlying he.und,fR he.siz,run_underlying hd2,hmt,hl,hle,hn w rfl,this]
 ·intro hgt hbytes old hold
  obtain⟨i,hi,hib⟩:=vP (P:=P) (w:=w) hb
  have hb1:len+n≤17592186044416:=cQ (oD _ (by omega)) hbytes
  have hb2:(len+n)*bytes≤17592186044416:=cQ (sH _ (by omega)) hbytes
  have hnext:=nextslicecap_le hgt
  have hnb:¬(Builtin.nextslicecap (len+n) cap*i.bytes>2^48):=by
   rw[hib]
   have:=bB bytes hnext
   rw[Nat.mul_assoc]at this
   omega
  have hmax:¬(((len+n:Nat):Int)>IntKind.i64.max/\(False\/i.bytes=0)):=by
   have e1:IntKind.i64.max=9223372036854775807:=by decide
   rw[e1];omega
  have hti:∀w3:World,(typeInfo e).run P w3 = .ok i w3:=by
   intro w3
   cases hii:P.info? e with
   |none=>simp[hii]at hb
   |some j=>
    have:(typeInfo e).run P w = .ok j w:=by simp[typeInfo,hii]
    rw[hi]at this;injection this with this;subst this
    simp[typeInfo,hii]
  have hle:¬(len+n≤cap):=by omega
  have q1:=hold w.drew rfl
  have q2:=hn w.drew rfl
  refine⟨(Question.appendCap (len+n) cap e).cut (w.tape w.drawn (.appendCap (len+n) cap e)),{ w.drew with heap:=w.heap.push (.cells ((old++new).toArray++Builtin.zeroCells z.cells ((Question.appendCap (len+n) cap e).cut (w.tape w.drawn (.appendCap (len+n) cap e))-(len+n))) e) },by simp only[Question.cut];omega,?_,rfl,rfl⟩
  have hf:(Question.appendCap (len+n) cap e).forced=false:=rfl
  have hmax':¬((9223372036854775807:Int)<(len:Int)+(n:Int)/\i.bytes=0):=by omega
  simp only[Go.builtin,Builtin.append_]
  simp[hx,run_underlying he.und,fR he.siz,run_underlying hd2,hmt,hl,hle,hti,hnb]
  rw[if_neg hmax',if_neg (by rw[hf];simp),q1]
  simp only[aH,q2,mC hz,newRow,newObj,aO,Sem.run,aU]
  simp[show w.drew.heap=w.heap from rfl]
  congr 2
  apply Ji
  simp
theorem qP (z:Array Value) (n:Nat):(Builtin.zeroCells z n).size=n*z.size:=by simp[Builtin.zeroCells]
def xM (h:aN) (sz bytes:Nat) (x:IV) (new:List (List IV)):Option (IV×aN):=
    if sz=0 then none else
    match x with
    |.nils=>if new=[] then some (x,h) else if new.length*(bytes+1)≤bY then some (.sl h.length new.length 0 new.length new.length,h++[some ⟨sz,new⟩]) else none
    |.esl=>if new=[] then some (x,h) else if new.length*(bytes+1)≤bY then some (.sl h.length new.length 0 new.length new.length,h++[some ⟨sz,new⟩]) else none
    |.sl b tot off len cap=>(hget h b tot).bind fun k=>
     if k.sz=sz/\len≤cap/\off+cap≤tot then
      if new=[] then some (x,h)
      else if len+new.length≤cap then some (.sl b tot off (len+new.length) cap,h.set b (some ⟨sz,k.es.take (off+len)++new++k.es.drop (off+len+new.length)⟩))
      else if (len+new.length)*(bytes+1)≤bY then
       if off+cap=tot/\off=0 then some (.sl b (len+new.length) 0 (len+new.length) (len+new.length),h.set b (some ⟨sz,k.es.take len++new⟩))
       else none
      else none
     else none
    |.ro _ es=>if new=[]/\es.all (·.length=sz) then some (x,h) else none
    |.lit es=>if new=[] then some (x,h) else if es.all (·.length=sz)=true/\(es.length+new.length)*(bytes+1)≤bY then some (.sl h.length (es.length+new.length) 0 (es.length+new.length) (es.length+new.length),h++[some ⟨sz,es++new⟩]) else none
    |_=>none
theorem Co {h:aN} {sz bytes:Nat} {x y:IV}:Ideal.append h sz bytes x y=(fF h sz y).bind (xM h sz bytes x):=rfl
def Ry (P:Program) (o:Oper) (ac:Act) (w:World) (x:Operand) (e:TypeId) (sz bytes n:Nat) (z:Value) (new:List Value):Prop:=
 ∀{base:Option Addr} {len cap:Nat},ac.eval x = .slice base len cap->
  (len+n≤cap->∀w1,(∀a,base=some a->(storeCells (a.add (len*sz)) new).run P w = .ok () w1)->(base=none->w1=w)->(execOp ac.eval o).run P w = .ok (.value (.slice base (len+n) cap)) w1)/\
  (0<n->cap<len+n->(len+n)*(bytes+1)≤17592186044416->∀old:List Value,(∀w3:World,w3.heap=w.heap->(Builtin.firstCells sz len (.slice base len cap)).run P w3 = .ok old.toArray w3)->
    ∃cap' w1,len+n≤cap'/\(execOp ac.eval o).run P w = .ok (.value (.slice (some ⟨w.heap.size,0,none⟩) (len+n) cap')) w1/\
     w1.heap=w.heap.push (.cells ((old++new).toArray++Builtin.zeroCells z.cells (cap'-(len+n))) e)/\((w1.os,w1.tape),w1.output)=((w.os,w.tape),w.output))
theorem Gy (g:dK K h w.heap σ ac.tmps) {x:Operand} {va:IV} (ra:bS K w.heap h va (ac.eval x)) {e:TypeId} {sz bytes:Nat} {z:Value} (hzs:z.cells.size=sz) {new:List (List IV)} {vs:List Value} (f1:∀e∈new,e.length=sz/\∀c∈e,c.one=true) (v2:dE K w.heap h new.flatten vs)
 (R:Ry P o ac w x e sz bytes new.length z vs) {r:IV×aN} (hr:xM h sz bytes va new=some r):mL P o ac w K h σ (.val r.1) (σ,r.2):=by
 unfold xM at hr
 have hall:∀e∈new,e.length=sz:=fun e he=>(f1 e he).1
 obtain⟨fl1,fl2⟩:=gB hall
 have hvl:vs.length=new.length*sz:=by rw[v2.1,fl1]
 split at hr
 ·cases hr
 ·rename_i hsz0
  have hpos:0<sz:=by omega
  have fresh:∀(base:Option Addr),ac.eval x = .slice base 0 0->new≠[]->new.length*(bytes+1)≤17592186044416->r=(.sl h.length new.length 0 new.length new.length,h++[some ⟨sz,new⟩])->mL P o ac w K h σ (.val r.1) (σ,r.2):=by
   rintro base hxe hne hle rfl
   have hn0:0<new.length:=fN.2 hne
   have run:=(R hxe).2 (fN.2 hne) (by omega) (by simpa using hle) [] (by
    intro w3 _
    cases base<;>simp[Builtin.firstCells,loadCells,loadCellsFrom])
   obtain⟨cap',w1,q1,q2,q3,qio⟩:=run
   rw[bV]at q1 q2 q3
   generalize hCS:(([]++vs).toArray++Builtin.zeroCells z.cells (cap'-new.length))=CS at q3
   have hsz:CS.size=cap'*sz:=by
    subst hCS
    rw[Array.size_append,qP,hzs]
    simp[hvl,<-cJ]
    congr 1;omega
   have hE:Ah K w.heap h sz new CS 0:=by
    refine⟨f1,by rw[hsz,bV];exact bB _ q1,fun i j e c he hcc=>?_⟩
    obtain⟨v,hv,hrr⟩:=v2.get (fl2 i j e c he hcc)
    refine⟨v,?_,hrr⟩
    subst hCS
    rw[bV,jA]
    ·simpa using hv
    ·have:=(aJ.1 hv).1;simpa using this
   obtain⟨K1,S,V⟩:=Di (el:=e) (fr:=(0,0)) g hpos (rB CS) hE (aK new.length) rfl q1 (by omega)
   refine⟨_,w1,K1,.inl q2,qio,?_,?_⟩
   ·rw[q3];exact S
   ·simp only[Uv,Ad];rw[q3];exact V
  have same:∀(a:Addr) (len cap:Nat),ac.eval x = .slice (some a) len cap->len≤cap->new=[]->(execOp ac.eval o).run P w = .ok (.value (ac.eval x)) w:=by
   intro a len cap hxe hle hnil
   have hv0:vs=[]:=dH (by rw[hvl,hnil];simp)
   have:=(R hxe).1 (by rw[hnil];simpa using hle) w (fun a _=>by rw[hv0];rfl) (fun h=>by cases h)
   rw[hnil]at this
   rw[hxe];exact this
  split at hr
  ·split at hr
   ·rename_i hnil
    injection hr with hr;subst hr
    generalize hxe:ac.eval x=y' at ra
    cases ra
    have hv0:vs=[]:=dH (by rw[hvl,hnil];simp)
    have:=(R hxe).1 (by rw[hnil];simp) w (fun a h=>by cases h) (fun _=>rfl)
    rw[hnil]at this
    exact .pure' g (x:=.slice none 0 0) (by simpa using this) .nils
   ·rename_i hne
    split at hr
    ·rename_i hle
     injection hr with hr
     generalize hxe:ac.eval x=y' at ra
     cases ra
     exact fresh none hxe hne hle hr.symm
    ·cases hr
  ·split at hr
   ·rename_i hnil
    injection hr with hr;subst hr
    generalize hxe:ac.eval x=y' at ra
    cases ra with
    |esl a=>
    have:=same a 0 0 hxe (aK _) hnil
    exact .pure' g (x:=.slice (some a) 0 0) (by rw[this,hxe]) (.esl a)
   ·rename_i hne
    split at hr
    ·rename_i hle
     injection hr with hr
     generalize hxe:ac.eval x=y' at ra
     cases ra with
     |esl a=>
     exact fresh (some a) hxe hne hle hr.symm
    ·cases hr
  ·rename_i b tot off len cap
   simp only[aA]at hr
   obtain⟨k,hk,hr⟩:=hr
   split at hr
   ·rename_i hh
    obtain⟨hz',hlc,hct⟩:=hh
    have ra0:=ra
    generalize hxe:ac.eval x=y' at ra
    cases ra with
    |sl _ _ _ _ _ a cap' hb' hlen hl=>
    obtain⟨q1,q2,q3,q4,l,q5,q6,q7⟩:=hl k hk
    obtain⟨g1,g2⟩:=fJ.1 hk
    obtain⟨_,l0,g3,gst,CS,el,fr,g4,g5,g6,g7,g8,g9⟩:=g.inv.blk b k g1
    rw[q5]at g3;injection g3 with g3;subst g3
    split at hr
    ·rename_i hnil
     injection hr with hr;subst hr
     have:=same a len cap' hxe hlen hnil
     exact .pure' g (x:=ac.eval x) this ra0
    ·rename_i hne
     have hn0:0<new.length:=fN.2 hne
     have hvone:∀v∈vs,v.oneCell'=true:=v2.one (fun c hcc=>by
      obtain⟨e,e1,e2⟩:=eY.1 hcc
      exact(f1 e e1).2 c e2)
     have stores:len+new.length≤cap'->∃w1,(execOp ac.eval o).run P w = .ok (.value (.slice (some a) (len+new.length) cap')) w1/\w1.heap=jJ w.heap l.B (rL CS (l.s+(off+len)*k.sz) vs) el fr/\a=⟨l.B,l.s+off*k.sz,none⟩/\l.s+(off+len)*k.sz+vs.length≤CS.size/\((w1.os,w1.tape),w1.output)=((w.os,w.tape),w.output):=by
      intro hle
      have ha':a=⟨l.B,l.s+off*k.sz,none⟩:=by
       rcases q6 with q6|q6
       ·omega
       ·exact q6
      have hfit:l.s+(off+len)*k.sz+vs.length≤CS.size:=by
       rw[hvl,g5,<-hz',eW,<-cJ]
       refine cQ ?_ q7
       exact Nat.add_le_add_left (bB _ (by omega)) _
      obtain⟨w1,r1,r2,rio⟩:=kO P l.B (l.s+(off+len)*k.sz) el fr vs 0 CS w g4 g6 (by simpa using hfit) hvone
      refine⟨w1,?_,by simpa using r2,ha',hfit,rio⟩
      refine(R hxe).1 hle w1 (fun a' h=>?_) (fun h=>by cases h)
      injection h with h;subst h
      rw[ha',fM,<-hz',show l.s+off*k.sz+len*k.sz=l.s+(off+len)*k.sz by rw[cJ];omega]
      exact r1
     have cells:∀(es:List (List IV)) (p:Nat),off+len≤p->(∀(i:Nat) (e:List IV),es[i]? = some e->(i<off+len/\k.es[i]? = some e)\/(off+len≤i/\i<off+len+new.length/\new[i-(off+len)]? = some e)\/(off+len+new.length≤i/\k.es[i]? = some e))->
      l.s+(off+len)*k.sz+vs.length≤CS.size->
      ∀(i j:Nat) (e:List IV) (c:IV),es[i]? = some e->e[j]? = some c->∃v,(rL CS (l.s+(off+len)*k.sz) vs)[l.s+i*k.sz+j]? = some v/\bS K w.heap h c v:=by
      intro es p _ hes hfit i j e c he hcc
      rw[nW _ _ _ hfit,hvl,<-hz']
      have hjl:e.length=k.sz->j<k.sz:=fun hh=>by rw[<-hh];exact(aJ.1 hcc).1
      rcases hes i e he with ⟨h1,h3⟩|⟨h1,h3,h4⟩|⟨h1,h3⟩
      ·have hj:=hjl (g7 e (aL h3)).1
       have:=bB k.sz (oW h1)
       rw[eF]at this
       rw[if_neg (by omega)]
       exact g9 i j e c h3 hcc
      ·have hj:=hjl (by rw[hz'];exact hall e (aL h4))
       obtain⟨v,hv,hrr⟩:=v2.get (fl2 _ j e c h4 hcc)
       have hi1:(i-(off+len))*k.sz+k.sz≤new.length*k.sz:=by rw[<-eF];exact bB _ (by omega)
       have hi2:(i-(off+len))*k.sz+(off+len)*k.sz=i*k.sz:=by rw[<-cJ];congr 1;omega
       refine⟨v,?_,hrr⟩
       rw[if_pos (by omega),<-hv,<-hz']
       congr 1;omega
      ·have hj:=hjl (g7 e (aL h3)).1
       have:=bB k.sz h1
       rw[cJ (off+len)]at this
       rw[if_neg (by omega)]
       exact g9 i j e c h3 hcc
     split at hr
     ·
      rename_i hle
      injection hr with hr;subst hr
      obtain⟨w1,r1,r2,r3,r4,rio⟩:=stores (by omega)
      have hspl:off+len+new.length≤k.es.length:=by omega
      have S:=pB (CS1:=rL CS (l.s+(off+len)*k.sz) vs) g g1 q5 (es:=k.es.take (off+len)++new++k.es.drop (off+len+new.length)) (fV hspl) g4 (iP _ _ _) (fun e he=>by
       simp only[aE]at he
       rcases he with (he|he)|he
       ·exact g7 e (bN he)
       ·rw[hz'];exact f1 e he
       ·exact g7 e (cU he)) (cells _ (off+len) (aK _) (fun i e he=>by
        rw[kN hspl]at he
        split at he
        ·rename_i hh;exact .inr (.inl ⟨hh.1,hh.2,he⟩)
        ·rename_i hh
         rcases iQ i (off+len)with h5|h5
         ·exact .inl ⟨h5,he⟩
         ·exact .inr (.inr ⟨by omega,he⟩)) r4)
      refine⟨_,w1,K,.inl r1,rio,?_,?_⟩
      ·rw[r2,<-hz'];exact S
      ·simp only[Uv,Ad]
       rw[r2,<-hz']
       have hlen':(k.es.take (off+len)++new++k.es.drop (off+len+new.length)).length=k.es.length:=fV hspl
       have hbl:b<h.length:=(aJ.1 g1).1
       have hset:(h.set b (some ⟨k.sz,k.es.take (off+len)++new++k.es.drop (off+len+new.length)⟩))[b]? = some (some ⟨k.sz,k.es.take (off+len)++new++k.es.drop (off+len+new.length)⟩):=by simp[hbl]
       refine .sl _ _ _ _ _ _ _ ⟨by simpa using hbl,fun k' hk'=>?_⟩ (by omega) fun k' hk'=>?_
       ·rw[hset]at hk';injection hk' with hk';injection hk' with hk';subst hk'
        rw[hlen',g2];exact aK _
       ·obtain⟨hk',_⟩:=fJ.1 hk'
        rw[hset]at hk';injection hk' with hk';injection hk' with hk';subst hk'
        exact⟨q1,by omega,q3,q4,l,q5,.inr r3,q7⟩
     ·rename_i hgt
      split at hr
      ·rename_i hbytes
       split at hr
       ·
        rename_i hoff
        obtain⟨hcap,rfl⟩:=hoff
        injection hr with hr;subst hr
        have hes':(k.es.take len++new).length=len+new.length:=by simp;omega
        have hgrow:k.es.length<(k.es.take len++new).length:=by omega
        have hel:∀e∈k.es.take len++new,e.length=k.sz/\∀c∈e,c.one=true:=fun e he=>by
         rcases aE.1 he with he|he
         ·exact g7 e (bN he)
         ·rw[hz'];exact f1 e he
        have hidx:∀(i:Nat) (e:List IV),(k.es.take len++new)[i]? = some e->(i<0+len/\k.es[i]? = some e)\/(0+len≤i/\i<0+len+new.length/\new[i-(0+len)]? = some e)\/(0+len+new.length≤i/\k.es[i]? = some e):=fun i e he=>by
         have hi:=(aJ.1 he).1
         rw[eR]at he
         have htl:(k.es.take len).length=len:=by simp;omega
         rw[htl]at he
         split at he
         ·rename_i h5
          rw[gW,if_pos h5]at he
          exact .inl ⟨by omega,he⟩
         ·rename_i h5
          exact .inr (.inl ⟨by omega,by omega,by rw[bV];exact he⟩)
        have jU:∀(l1:Uw) (H1:gC) (a1:Addr) (cap1:Nat),Step K h w.heap σ ac.tmps (K.add b l1) (h.set b (some ⟨k.sz,k.es.take len++new⟩)) H1 σ->a1=⟨l1.B,l1.s,none⟩->len+new.length≤cap1->l1.s+cap1*k.sz≤l1.E->
         bS (K.add b l1) H1 (h.set b (some ⟨sz,k.es.take len++new⟩)) (.sl b (len+new.length) 0 (len+new.length) (len+new.length)) (.slice (some a1) (len+new.length) cap1):=by
         intro l1 H1 a1 cap1 S ha1 hc1 hE1
         have hbl:b<h.length:=(aJ.1 g1).1
         have hset:(h.set b (some ⟨sz,k.es.take len++new⟩))[b]? = some (some ⟨sz,k.es.take len++new⟩):=by simp[hbl]
         refine .sl _ _ _ _ _ _ _ ⟨by simpa using hbl,fun k' hk'=>?_⟩ hc1 fun k' hk'=>?_
         ·rw[hset]at hk';injection hk' with hk';injection hk' with hk';subst hk'
          rw[hes'];exact aK _
         ·obtain⟨hk',_⟩:=fJ.1 hk'
          rw[hset]at hk';injection hk' with hk';injection hk' with hk';subst hk'
          exact⟨by omega,aK _,hc1,by omega,l1,by simp[Kx.add],.inr (by rw[ha1];simp),by simp only;rw[<-hz',bV];exact hE1⟩
        by_cases hin:len+new.length≤cap'
        ·obtain⟨w1,r1,r2,r3,r4,rio⟩:=stores hin
         rw[bV]at r2 r4
         have S:=Gb (H1:=w1.heap) (l1:=l) (CS:=rL CS (l.s+len*k.sz) vs) (el:=el) (fr:=fr) g g1 q5 (es:=k.es.take len++new) hgrow (by rw[r2,nI,if_pos rfl,if_pos (fI g4)]) (by rw[iP];exact g5) (fun i hi=>g6 i (by rw[iP]at hi;exact hi))
          (by rw[r2,wN];exact aK _) (.inl rfl) (fun B _ hne=>by rw[r2,nI,if_neg (Ne.symm hne)])
          ⟨hel,by rw[iP,hes',g5];refine cQ (Nat.add_le_add_left (bB _ hin) _) (by rw[bV]at q7;exact q7),by
            have:=cells (k.es.take len++new) (0+len) (aK _) hidx (by rw[bV];exact r4)
            rw[bV]at this;exact this⟩
         refine⟨_,w1,_,.inl r1,rio,by rw[<-hz'];exact S,?_⟩
         exact jU l w1.heap a cap' S (by rw[r3];simp) hin (by rw[bV]at q7;exact q7)
        ·have ha':len=0\/a=⟨l.B,l.s,none⟩:=by
          rcases q6 with q6|q6
          ·left;omega
          ·right;rw[q6];simp
         have hold:∃old:List Value,(∀w3:World,w3.heap=w.heap->(Builtin.firstCells sz len (.slice (some a) len cap')).run P w3 = .ok old.toArray w3)/\dE K w.heap h (k.es.take len).flatten old:=by
          have hre:fF h sz (.sl b tot 0 len cap)=some (k.es.take len):=by
           simp only[fF,hk,aB]
           rw[if_pos ⟨hz',by omega⟩];simp
          have rav:bS K w.heap h (.sl b tot 0 len cap) (.slice (some a) len cap'):=by rw[hxe]at ra0;exact ra0
          obtain⟨_,_,h3⟩:=rT (P:=P) g rav hre
          have htl:(k.es.take len).length=len:=by simp;omega
          obtain⟨vs',h4,h5⟩:=h3 len (by omega)
          exact⟨vs',h4,by rw[oX,Nat.min_self]at h5;exact h5⟩
         obtain⟨old,o1,o2⟩:=hold
         obtain⟨cap2,w1,p1,p2,p3,pio⟩:=(R hxe).2 (fN.2 hne) (by omega) (by simpa [bY]using hbytes) old o1
         generalize hCS:((old++vs).toArray++Builtin.zeroCells z.cells (cap2-(len+new.length)))=CS2 at p3
         have htl:(k.es.take len).length=len:=by simp;omega
         have hflat:=gB (es:=k.es.take len++new) (sz:=sz) (fun e he=>by rw[<-hz'];exact(hel e he).1)
         have hboth:dE K w.heap h (k.es.take len++new).flatten (old++vs):=by rw[mM];exact o2.append v2
         have hol:(old++vs).length=(len+new.length)*sz:=by rw[hboth.1,hflat.1,hes']
         have hsz2:CS2.size=cap2*sz:=by
          subst hCS
          rw[Array.size_append,qP,hzs]
          rw[Nk,hol,<-cJ]
          congr 1;omega
         have S:=Gb (H1:=w1.heap) (l1:=⟨w.heap.size,0,CS2.size⟩) (CS:=CS2) (el:=e) (fr:=(0,0)) g g1 q5 (es:=k.es.take len++new) hgrow (by rw[p3,jR,if_pos rfl]) rfl (rB _)
          (by rw[p3];simp) (.inr rfl) (fun B hB hne=>by rw[p3,jR,if_neg hne])
          ⟨hel,by rw[hsz2,hes',bV,hz'];exact bB _ p1,fun i j e c he hcc=>by
            obtain⟨v,hv,hrr⟩:=hboth.get (hflat.2 i j e c he hcc)
            refine⟨v,?_,hrr⟩
            subst hCS
            simp only[bV,hz']
            rw[jA]
            ·simpa using hv
            ·have:=(aJ.1 hv).1;simpa using this⟩
         refine⟨_,w1,_,.inl p2,pio,by rw[<-hz'];exact S,?_⟩
         exact jU ⟨w.heap.size,0,CS2.size⟩ w1.heap _ cap2 S rfl p1 (by simp only;rw[hsz2,hz'];omega)
       ·cases hr
      ·cases hr
   ·cases hr
  ·rename_i bor es'
   split at hr
   ·rename_i hnil
    obtain⟨hnil,hal⟩:=hnil
    injection hr with hr;subst hr
    have ra0:=ra
    generalize hxe:ac.eval x=y' at ra
    cases ra with
    |ro _ _ a cap sz' cs hcp hsz hone hst hcs hv=>
    have:=same a _ cap hxe hcp hnil
    exact .pure' g (x:=ac.eval x) this ra0
   ·cases hr
  ·rename_i es'
   have ra0:=ra
   generalize hxe:ac.eval x=y' at ra
   cases ra with
   |lit _ a sz' cs hsz hone hst hcs hv ho=>
   split at hr
   ·rename_i hnil
    injection hr with hr;subst hr
    have:=same a _ _ hxe (aK _) hnil
    exact .pure' g (x:=ac.eval x) this ra0
   ·rename_i hne
    split at hr
    ·rename_i hh
     obtain⟨hal,hle⟩:=hh
     injection hr with hr;subst hr
     have he':fF h sz (.lit es')=some es':=by simp only[fF];rw[if_pos hal]
     obtain⟨u1,_,u2⟩:=rT (P:=P) g ra0 he'
     obtain⟨old,u3,u4⟩:=u2 es'.length (aK _)
     rw[eX]at u4
     have hol:old.length=es'.length*sz:=by rw[u4.1,(gB fun e he=>(u1 e he).1).1]
     have run:=(R hxe).2 (fN.2 hne) (by have:=fN.2 hne;omega) (by simpa [bY]using hle) old (by rw[<-hxe];exact u3)
     obtain⟨cap',w1,q1,q2,q3,qio⟩:=run
     generalize hCS:((old++vs).toArray++Builtin.zeroCells z.cells (cap'-(es'.length+new.length)))=CS at q3
     have hsz:CS.size=cap'*sz:=by
      subst hCS
      rw[Array.size_append,qP,hzs]
      simp only[Nk,aV,hvl,hol,<-cJ]
      congr 1;omega
     have f1':∀e∈es'++new,e.length=sz/\∀c∈e,c.one=true:=fun e he=>(aE.1 he).elim (u1 e) (f1 e)
     obtain⟨_,fl2'⟩:=gB fun e he=>(f1' e he).1
     have v2':dE K w.heap h (es'++new).flatten (old++vs):=by rw[mM];exact u4.append v2
     have hE:Ah K w.heap h sz (es'++new) CS 0:=by
      refine⟨f1',by rw[hsz,bV,aV];exact bB _ q1,fun i j e c he hcc=>?_⟩
      obtain⟨v,hv,hrr⟩:=v2'.get (fl2' i j e c he hcc)
      refine⟨v,?_,hrr⟩
      subst hCS
      rw[bV,jA]
      ·simpa using hv
      ·have:=(aJ.1 hv).1;simpa using this
     obtain⟨K1,S,V⟩:=Di (el:=e) (fr:=(0,0)) g hpos (rB CS) hE (len:=es'.length+new.length) (cap:=es'.length+new.length) (aK _) aV q1 (by omega)
     refine⟨_,w1,K1,.inl q2,qio,?_,?_⟩
     ·rw[q3];exact S
     ·simp only[Uv,Ad];rw[q3];exact V
    ·cases hr
  ·cases hr
theorem y_app (g:dK K h w.heap σ ac.tmps) {c:Call} {x y:Operand} {sx sy:SX} {t t2 e:TypeId} {sz bytes:Nat} {z:Value} (ho:o.op = .call c) (hc:c.callee = .builtin .append) (ha:c.args = #[x,y]) (ht:c.argTypes = #[t,t2]) (hx:bG x sx) (hy:bG y sy)
 (he:qG P t e sz) (hb:(P.info? e).map (·.bytes)=some bytes) (h2:∃d,P.underlying t2=some d/\∀k,d≠.int k) (hz:(P.info? e).bind (·.zero)=some z) (hzs:z.cells.size=sz)
 (ev:aT call opn d (.app sz bytes sx sy) (σ,h)=some (sv,s1)):mL P o ac w K h σ sv s1:=by
 simp only[aT,aA]at ev
 obtain⟨va,hva,vb,hvb,r,hr,ev⟩:=ev
 injection ev with ev;injection ev with e1 e2;subst e1;subst e2
 have ra:=cD hx g.fr hva
 have rb:=cD hy g.fr hvb
 rw[Co]at hr
 obtain⟨new,hnew,hr⟩:=aA.1 hr
 obtain⟨f1,f2,f3⟩:=rT (P:=P) g rb hnew
 obtain⟨vs,v1,v2⟩:=f3 new.length (aK _)
 rw[eX]at v2
 exact Gy g ra hzs f1 v2 (fun hxe=>⟨(xZ (P:=P) (n:=new.length) ho hc ha ht he hb h2 hz hxe f2 v1).1,fun _=>(xZ (P:=P) (n:=new.length) ho hc ha ht he hb h2 hz hxe f2 v1).2⟩) hr
theorem Ls {S I E sz bytes:Nat} {z:Value} (w:World) (hS:P.underlying S=some (.slice E)) (hI:P.underlying I=some (.int .i64)) (hsz:Aw P E sz) (hp:0<sz) (hb:(P.info? E).map (·.bytes)=some bytes) (hz:(P.info? E).bind (·.zero)=some z)
 {base:Option Addr} {len cap k:Nat} (hkb0:k*(bytes+1)≤17592186044416) (ty:TypeId):
 (len+k≤cap->∀w1,(∀a,base=some a->(storeCells (a.add (len*sz)) (Builtin.zeroCells z.cells k).toList).run P w = .ok () w1)->(base=none->w1=w)->(Builtin.append_ #[S,I] ty #[.slice base len cap,.int .i64 (k:Int)]).run P w = .ok (.slice base (len+k) cap) w1)/\
 (0<k->cap<len+k->(len+k)*(bytes+1)≤17592186044416->∀old:List Value,(∀w3:World,w3.heap=w.heap->(Builtin.firstCells sz len (.slice base len cap)).run P w3 = .ok old.toArray w3)->
   ∃cap' w1,len+k≤cap'/\(Builtin.append_ #[S,I] ty #[.slice base len cap,.int .i64 (k:Int)]).run P w = .ok (.slice (some ⟨w.heap.size,0,none⟩) (len+k) cap') w1/\
    w1.heap=w.heap.push (.cells ((old++(Builtin.zeroCells z.cells k).toList).toArray++Builtin.zeroCells z.cells (cap'-(len+k))) E)/\((w1.os,w1.tape),w1.output)=((w.os,w.tape),w.output)):=by
 obtain⟨inf,hi,hib⟩:=vP (P:=P) (w:=w) hb
 have hk1:k≤17592186044416:=cQ (oD _ (by omega)) hkb0
 have hkb:k*bytes≤17592186044416:=cQ (sH _ (by omega)) hkb0
 have hti:∀w3:World,(typeInfo E).run P w3 = .ok inf w3:=by
  intro w3
  cases hii:P.info? E with
  |none=>simp[hii]at hb
  |some j=>
   have:(typeInfo E).run P w = .ok j w:=by simp[typeInfo,hii]
   rw[hi]at this;injection this with this;subst this
   simp[typeInfo,hii]
 have hw:IntKind.i64.wrap (k:Int)=(k:Int):=by rw[IntKind.wrap_i64];omega
 have hai:(asInt (.int .i64 (k:Int))).run P w = .ok (k:Int) w:=rfl
 have hneg:¬((k:Int)<0):=by omega
 have hkb':¬((281474976710656:Int)<(k:Int)*(inf.bytes:Int)):=by
  rw[hib]
  have:((k*bytes:Nat):Int)≤17592186044416:=by omega
  rw[Ao]at this;omega
 have hp0:¬(sz=0):=by omega
 have z0:(Builtin.zeroCells z.cells 0).toList=[]:=by simp[Builtin.zeroCells]
 constructor
 ·intro hle w1 h1 h3
  by_cases hk:k=0
  ·subst hk
   simp only[Builtin.append_]
   have hai0:(asInt (.int .i64 0)).run P w = .ok (0:Int) w:=rfl
   have hw0:IntKind.i64.wrap 0=0:=by decide
   have hle':len≤cap:=by omega
   cases base with
   |none=>
    rw[h3 rfl]
    simp[run_underlying hS,fR hsz,run_underlying hI,hai0,hw0,hti,hle']
   |some a=>
    have h1:=h1 a rfl
    rw[z0]at h1
    simp[run_underlying hS,fR hsz,run_underlying hI,hai0,hw0,hti,hle',h1]
  ·have hks:¬(k*sz=0):=by have:=Nat.mul_pos (Nat.pos_of_ne_zero hk) hp;omega
   simp only[Builtin.append_]
   cases base with
   |none=>
    rw[h3 rfl]
    simp[run_underlying hS,fR hsz,run_underlying hI,hai,hw,hti,hle,hkb',hneg,hk,hp0,mC hz]
   |some a=>
    have h1:=h1 a rfl
    simp[run_underlying hS,fR hsz,run_underlying hI,hai,hw,hti,hle,hkb',hneg,hk,hp0,mC hz,h1]
    exact fun h=>(hks h).elim
 ·intro hk00 hgt hbytes old hold
  have hb1:len+k≤17592186044416:=cQ (oD _ (by omega)) hbytes
  have hb2:(len+k)*bytes≤17592186044416:=cQ (sH _ (by omega)) hbytes
  have hnext:=nextslicecap_le hgt
  have hnb:¬(Builtin.nextslicecap (len+k) cap*inf.bytes>2^48):=by
   rw[hib]
   have:=bB bytes hnext
   rw[Nat.mul_assoc]at this
   omega
  have hle:¬(len+k≤cap):=by omega
  have q1:=hold w.drew rfl
  have hf:(Question.appendCap (len+k) cap E).forced=false:=rfl
  have hmax':¬((9223372036854775807:Int)<(len:Int)+(k:Int)):=by omega
  have hmx:¬((9223372036854775807:Int)<(len:Int)+max (k:Int) 0):=by omega
  refine⟨(Question.appendCap (len+k) cap E).cut (w.tape w.drawn (.appendCap (len+k) cap E)),{ w.drew with heap:=w.heap.push (.cells ((old++(Builtin.zeroCells z.cells k).toList).toArray++Builtin.zeroCells z.cells ((Question.appendCap (len+k) cap E).cut (w.tape w.drawn (.appendCap (len+k) cap E))-(len+k))) E) },by simp only[Question.cut];omega,?_,rfl,rfl⟩
  have hlist:∀r,(old++(Builtin.zeroCells z.cells k).toList).toArray++r=old.toArray++Builtin.zeroCells z.cells k++r:=fun r=>by
   congr 1
   apply Ji;simp
  rw[hlist]
  have hk:¬(k=0):=by omega
  have hks:¬(k*sz=0):=by have:=Nat.mul_pos hk00 hp;omega
  simp only[Builtin.append_]
  simp[run_underlying hS,fR hsz,run_underlying hI,hai,hw,hti,hkb',hle,hnb,hmax',hk,hp0,hneg]
  rw[if_neg (by rw[hf];simp),q1]
  simp only[aH,mC hz,newRow,newObj,aO,Sem.run,aU]
  rw[if_neg hks]
  simp[show w.drew.heap=w.heap from rfl]
theorem Wn (g:dK K h w.heap σ ac.tmps) {c:Call} {x n':Operand} {sx sn:SX} {t t2 e:TypeId} {sz bytes:Nat} {zs:List IV} {z:Value} (ho:o.op = .call c) (hc:c.callee = .builtin .append) (ha:c.args = #[x,n']) (ht:c.argTypes = #[t,t2]) (hx:bG x sx) (hn:bG n' sn) (he:qG P t e sz)
 (h2:P.underlying t2=some (.int .i64)) (hb:(P.info? e).map (·.bytes)=some bytes) (hz:(P.info? e).bind (·.zero)=some z) (hzs:Lc zs z.cells.toList) (hone:∀c∈zs,c.one=true) (ev:aT call opn d (.appz sz bytes zs sx sn) (σ,h)=some (sv,s1)):mL P o ac w K h σ sv s1:=by
 simp only[aT,aA]at ev
 obtain⟨va,hva,vn,hvn,ev⟩:=ev
 have ra:=cD hx g.fr hva
 have rn:=cD hn g.fr hvn
 split at ev
 ·rename_i n
  split at ev
  ·rename_i hh
   obtain⟨h0,hm,hzl⟩:=hh
   simp only[aA]at ev
   obtain⟨r,hr,ev⟩:=ev
   injection ev with ev;injection ev with e1 e2;subst e1;subst e2
   rw[Co]at hr
   obtain⟨new,hnew,hr⟩:=aA.1 hr
   simp only[fF]at hnew
   split at hnew
   ·injection hnew with hnew;subst hnew
    by_cases hp:sz=0
    ·unfold xM at hr;rw[if_pos hp]at hr;cases hr
    have hp:0<sz:=by omega
    have hnn:n=(n.toNat:Int):=by omega
    have hm1:n.toNat*(bytes+1)≤17592186044416:=by
     have:(n.toNat:Int)*((bytes+1:Nat):Int)≤17592186044416:=by rw[<-hnn];exact hm
     rw[<-Ao]at this;omega
    have hzc:z.cells.size=sz:=by have:=(hzs K w.heap h).1;simp at this;omega
    have hrel:dE K w.heap h (List.replicate n.toNat zs).flatten (Builtin.zeroCells z.cells n.toNat).toList:=by
     unfold Builtin.zeroCells
     have:=yE (n:=n.toNat) (hzs K w.heap h) hzl hp
     rw[<-hzc]at this
     exact this
    have R:Ry P o ac w x e sz bytes (List.replicate n.toNat zs).length z (Builtin.zeroCells z.cells n.toNat).toList:=by
     intro base len cap hxe
     rw[eA]
     have key:=Ls w he.und h2 he.siz hp hb hz (base:=base) (len:=len) (cap:=cap) (k:=n.toNat) hm1 o.type
     have hrn:=rn.int_inv
     rw[hnn]at hrn
     have e1:(#[x,n'].map ac.eval) = #[Value.slice base len cap,.int .i64 (n.toNat:Int)]:=by simp[hxe,hrn]
     rw[kJ ho hc,ha,ht,e1]
     refine⟨fun q1 w1 q2 q3=>?_,fun q0 q1 q2 old q3=>?_⟩
     ·simp only[Go.builtin,aO,key.1 q1 w1 q2 q3,aH,aU]
     ·obtain⟨cap',w1,k1,k2,k3,k4⟩:=key.2 q0 q1 q2 old q3
      exact⟨cap',w1,k1,by simp only[Go.builtin,aO,k2,aH,aU],k3,k4⟩
    exact Gy g ra hzc (fun e he=>by rw[cA he];exact⟨hzl,hone⟩) hrel R hr
   ·cases hnew
  ·cases ev
 ·cases ev
end
end Go.Ideal
namespace Go.Ideal
def gQ.isCall:gQ->Bool
 |.call ..=>true
 |.callc ..=>true
 |.callv ..=>true
 |.callm ..=>true
 |_=>false
section
variable {P:Program} {o:Oper} {ac:Act} {w:World} {K:Kx} {h:aN} {σ:Fr} {d:Option Nat} {call:Nat->List IV->aN->Option (IV×aN)} {opn:Nat->Bool} {sv:SV} {s1:St}
theorem Vx (g:dK K h w.heap σ ac.tmps) {so:gQ} (L:fP P o.op o.type so) (hcall:so.isCall=false) (ev:aT call opn d so (σ,h)=some (sv,s1)):mL P o ac w K h σ sv s1:=by
 generalize hop:o.op=op at L
 generalize hty:o.type=ty at L
 cases L with
 |mov hx=>exact Vb g hx (.inl hop) ev
 |asg hx=>exact Vb g hx (.inr hop) ev
 |pick hc ha hb=>exact Vy g hop hc ha hb ev
 |alloc hz hc ho=>exact Sf g hop hz hc ho ev
 |box hx=>exact Vc g hx hop (.inl ev)
 |boxA hx=>exact Vc (loc:=false) g hx hop (.inr ev)
 |build hb hc ho hp=>exact Se g hop hb hc ho hp ev
 |bsl he hz hc ho hp=>exact y_bsl g hop he hz hc ho hp ev
 |load ha hk=>exact Wb g hop ha hk ev
 |store ha hx hs=>exact Sb g hop ha hx hs ev
 |nilc hx=>exact Vz g hop hx ev
 |bin hx hy=>exact y_bin g hop hx hy ev
 |eqB hx hy ht=>exact y_eqB g hop hx hy ht ev
 |eqP hx hy ht=>exact Nw g hop hx hy (.inl ⟨rfl,_,ht⟩) ev
 |eqS hx hy ht=>exact Nw g hop hx hy (.inr (.inl ⟨rfl,_,ht⟩)) ev
 |eqF hx hy ht=>exact Nw g hop hx hy (.inr (.inr ⟨rfl,_,_,_,ht⟩)) ev
 |eqC hx hy hg he=>exact y_eqC g hop hx hy hg he ev
 |un hx=>exact y_un g hop hx ev
 |cvI hx hs hd=>exact y_cvI g hop hx hs hd ev
 |cvSB hx hs hd he=>exact Wj g hop hx hs hd he ev
 |cvLL hx hs he=>exact Wk g hop hx hs he ev
 |cvBS hx hs hd he hz=>exact Wm g hop hx hs hd he hz ev
 |cvIS hx hs hd=>exact Wl g hop hx hs hd ev
 |cvSS hx hs hd=>exact Wi g hop hx hs hd ev
 |mkI hx hc=>exact y_mkI g hop hx hc ev
 |mkF ha hb=>exact y_mkF g hop ha hb ev
 |mks hl hc he hz hzs ho hb=>exact y_mks g hop hl hc he hz hzs ho hb ev
 |slS hx hlo hhi ht=>exact y_slS g hop hx hlo hhi ht ev
 |slL hx hlo hhi hmx he hh=>exact y_slL g hop hx hlo hhi hmx he hh ev
 |slA hx hlo hhi ht hs=>exact y_slA g hop hx hlo hhi ht hs ev
 |fadr hx ht hf hs hn=>exact Wh g hop hx ht hf hs hn ev
 |fld hx ht hf hk=>exact y_fld g hop hx ht hf hk ev
 |iadr hx hi he=>exact Wg g hop hx hi he ev
 |iadrA hx hi ht hs=>exact Sd g hop hx hi ht hs ev
 |idxS hx hi ht=>exact Wd g hop hx hi ht ev
 |idxA hx hi ht hs gg hk=>exact We g hop hx hi ht hs hk ev
 |ext hx=>exact y_ext g hop hx ev
 |call=>simp[gQ.isCall]at hcall
 |callc=>simp[gQ.isCall]at hcall
 |callv=>simp[gQ.isCall]at hcall
 |callm=>simp[gQ.isCall]at hcall
 |asrt hx hd hz hag hzs ho=>exact y_asrt g hop hx hd hz hag hzs ho ev
 |app hc ha ht hx hy he hb h2 hz=>
  obtain⟨z,z1,z2,_⟩:=hz
  exact y_app g hop hc ha ht hx hy he hb h2 z1 z2 ev
 |appz hc ha ht hx hn he h2 hb hz hzs ho=>exact Wn g hop hc ha ht hx hn he h2 hb hz hzs ho ev
 |clr hc ha ht hx he hz hzs ho=>exact y_clr g hop hc ha ht hx he hz hzs ho ev
 |cpy hc ha ht hx hy he=>exact y_cpy g hop hc ha ht hx hy he ev
 |lenS hc ha ht hx b hu hd=>exact y_len g hop hc ha ht hx hu hd ev
 |lenA hc ha ht hu=>exact Wc g hop hc ha ht hu ev
 |cap hc ha ht hx hu=>exact y_cap g hop hc ha ht hx hu ev
 |mn hc ha hx hy=>exact y_mn g hop hc ha hx hy ev
 |mx hc ha hx hy=>exact y_mx g hop hc ha hx hy ev
 |range hx ht=>exact Sc g hx ht hop ev
 |next hx=>exact Wa g hx hop ev
 |bad=>simp[aT]at ev
end
def jC (L:Nat->Prop) (K:Kx) (h:aN) (H:gC) (σ:Fr) (a:Array Value) (K1:Kx) (h1:aN) (H1:gC) (σ1:Fr) (a1:Array Value):Prop:=
 oF K h H (fZ K h σ a) K1 h1 H1 (fZ K1 h1 σ1 a1)/\dK K1 h1 H1 σ1 a1/\a1.size=a.size/\∀t,L t->a1[t]? = a[t]?
theorem jC.refl {L:Nat->Prop} {K:Kx} {h:aN} {H:gC} {σ:Fr} {a:Array Value} (g:dK K h H σ a):jC L K h H σ a K h H σ a:=⟨.refl ..,g,rfl,fun _ _=>rfl⟩
theorem jC.trans {L:Nat->Prop} {K K1 K2:Kx} {h h1 h2:aN} {H H1 H2:gC} {σ σ1 σ2:Fr} {a a1 a2:Array Value} (s:jC L K h H σ a K1 h1 H1 σ1 a1) (t:jC L K1 h1 H1 σ1 a1 K2 h2 H2 σ2 a2):jC L K h H σ a K2 h2 H2 σ2 a2:=
 ⟨s.1.trans t.1,t.2.1,t.2.2.1.trans s.2.2.1,fun u hu=>(t.2.2.2 u hu).trans (s.2.2.2 u hu)⟩
theorem Step.to2 {L:Nat->Prop} {K K1:Kx} {h h1:aN} {H H1:gC} {σ σ1:Fr} {a:Array Value} (s:Step K h H σ a K1 h1 H1 σ1):jC L K h H σ a K1 h1 H1 σ1 a:=⟨s.1,s.2,rfl,fun _ _=>rfl⟩
theorem yG {L:Nat->Prop} {K K1:Kx} {h h1:aN} {H H1:gC} {σ σ1:Fr} {a:Array Value} {sv:SV} {x:Value} {t:Nat} (S:Step K h H σ a K1 h1 H1 σ1) (sb:Uv K1 H1 h1 σ1 a H.size sv x) (hlf:bF σ1 t=true) (ht:t<a.size) (hL:¬L t):
 jC L K h H σ a K1 h1 H1 (σ1.put t sv) (a.setIfInBounds t x):=by
 obtain⟨E,g⟩:=S
 have hnb:∀cs,σ1.get t≠some (.box cs):=fun cs e=>by simp[bF,e]at hlf
 have hget:∀u:Nat,(a.setIfInBounds t x)[u]? = if t=u then some x else a[u]?:=fun u=>by
  rw[bO]
  by_cases e:t=u
  ·subst e;rw[if_pos rfl,if_pos rfl,if_pos ht]
  ·rw[if_neg e,if_neg e]
 have hkeep:∀{u:Nat} {cs:List IV},σ1.get u=some (.box cs)->t≠u:=fun e e'=>by subst e';exact hnb _ e
 have hbox:∀B,oN (σ1.put t sv) (a.setIfInBounds t x) B->oN σ1 a B\/H.size≤B:=by
  rintro B ⟨u,cs,e1,e2⟩
  rw[bL]at e1
  rw[hget]at e2
  split at e1
  ·rename_i e
   subst e
   injection e1 with e1;subst e1
   rw[if_pos rfl]at e2
   obtain⟨B',ob,f1,_,_,_,_,_,f2⟩:=sb
   injection e2 with e2
   rw[f1]at e2;injection e2 with e2;injection e2 with e2;injection e2 with e2;subst e2
   exact .inr f2
  ·rename_i e
   rw[if_neg e]at e2
   exact .inl ⟨u,cs,e1,e2⟩
 refine⟨⟨E.len,E.gen,E.st,E.st',E.size,E.fr,fun B hB hm=>?_,E.nst⟩,⟨g.inv,?_⟩,by simp,fun u hu=>Array.getElem?_setIfInBounds_ne (fun e=>hL (by rw[e];exact hu))⟩
 ·rcases hm with hm|hm
  ·exact E.mn B hB (.inl hm)
  ·rcases hbox B hm with hm|hm
   ·exact E.mn B hB (.inr hm)
   ·omega
 ·refine⟨fun u v hu hgo=>?_,fun u cs hu=>?_,fun u s off hu=>?_,fun u u' cs cs' B e1 e2 e3 e4=>?_⟩
  ·rw[bL]at hu
   rw[hget]
   split at hu
   ·rename_i e
    injection hu with hu;subst hu
    rw[if_pos e]
    exact⟨x,rfl,sb⟩
   ·rename_i e
    rw[if_neg e]
    exact g.fr.val u v hu hgo
  ·rw[bL]at hu
   rw[hget]
   split at hu
   ·rename_i e
    injection hu with hu;subst hu
    rw[if_pos e]
    obtain⟨B',ob,f1,f2,f3,f4,f5,f6,f7⟩:=sb
    exact⟨B',ob,by rw[f1],f2,f3,f4,f5⟩
   ·rename_i e
    rw[if_neg e]
    exact g.fr.box u cs hu
  ·rw[bL]at hu
   split at hu
   ·rename_i e
    injection hu with hu;subst hu
    obtain⟨B,cs,f1,f2,f3⟩:=sb
    exact⟨B,cs,by rw[bL,if_neg (hkeep f1)];exact f1,by rw[hget,if_neg (hkeep f1)];exact f2,by rw[hget,if_pos e,f3]⟩
   ·rename_i e
    obtain⟨B,cs,f1,f2,f3⟩:=g.fr.lptr u s off hu
    exact⟨B,cs,by rw[bL,if_neg (hkeep f1)];exact f1,by rw[hget,if_neg (hkeep f1)];exact f2,by rw[hget,if_neg e];exact f3⟩
  ·rw[bL]at e1 e2
   rw[hget]at e3 e4
   have hnew:∀{cs:List IV},sv = .box cs->x = .pointer (some ⟨B,0,none⟩)->¬oN σ1 a B:=by
    rintro cs rfl hx
    obtain⟨B',ob,f1,f2,f3,f4,f5,f6,f7⟩:=sb
    rw[hx]at f1;injection f1 with f1;injection f1 with f1;injection f1 with f1;subst f1
    exact f6
   split at e1
   ·rename_i e
    injection e1 with e1
    rw[if_pos e]at e3
    injection e3 with e3
    split at e2
    ·rename_i e';rw[<-e,<-e']
    ·rename_i e'
     rw[if_neg e']at e4
     exact absurd ⟨u',cs',e2,e4⟩ (hnew e1 e3)
   ·rename_i e
    rw[if_neg e]at e3
    split at e2
    ·rename_i e'
     injection e2 with e2
     rw[if_pos e']at e4
     injection e4 with e4
     exact absurd ⟨u,cs,e1,e3⟩ (hnew e2 e4)
    ·rename_i e'
     rw[if_neg e']at e4
     exact g.fr.sep u u' cs cs' B e1 e2 e3 e4
theorem kH (σ:Fr) (l:List Nat) (t:Nat) {v:SV} (e:(σ.keep l).get t=some v):σ.get t=some v/\∀s o,v≠.lptr s o:=by
 induction l with
 |nil=>simp[Fr.keep,Fr.get]at e
 |cons u l ih=>
  simp only[Fr.keep]at e
  split at e
  ·rename_i x hx
   simp only[Fr.get]at e
   split at e
   ·rename_i h;subst h;injection e with e;subst e;exact⟨hx,by simp⟩
   ·exact ih e
  ·rename_i x hx
   simp only[Fr.get]at e
   split at e
   ·rename_i h;subst h;injection e with e;subst e;exact⟨hx,by simp⟩
   ·exact ih e
  ·exact ih e
theorem iC {L:Nat->Prop} {K:Kx} {h:aN} {H:gC} {σ:Fr} {a:Array Value} (g:dK K h H σ a) (l:List Nat):jC L K h H σ a K h H (σ.keep l) a:=by
 have hb:∀B,oN (σ.keep l) a B->oN σ a B:=fun B ⟨t,cs,e1,e2⟩=>⟨t,cs,(kH σ l t e1).1,e2⟩
 have R:=oF.refl K h H (fZ K h σ a)
 refine⟨⟨R.len,R.gen,R.st,R.st',R.size,R.fr,fun B _ hm=>hm.imp id (hb B),R.nst⟩,⟨g.inv,⟨fun t v e hgo=>g.fr.val t v (kH σ l t e).1 hgo,fun t cs e=>g.fr.box t cs (kH σ l t e).1,fun t s o e=>absurd rfl ((kH σ l t e).2 s o),fun s t cs cs' B e1 e2 e3 e4=>g.fr.sep s t cs cs' B (kH σ l s e1).1 (kH σ l t e2).1 e3 e4⟩⟩,rfl,fun _ _=>rfl⟩
theorem Io {h:aN} {d:Nat} {v v':IV} (e:fz h d v=some v'):v'.one=v.one:=by
 cases d with
 |zero=>
  simp only[fz]at e
  split at e
  ·cases e
  ·injection e with e;rw[e]
 |succ d=>
  simp only[fz]at e
  split at e
  ·cases v<;>simp only[aA]at e<;>first
    |(cases e;done)
    |(obtain⟨_,_,_,_,_,_,e⟩:=e;injection e with e;subst e;rfl)
    |(obtain⟨_,_,e⟩:=e
      split at e
      ·simp only[aA]at e
       obtain⟨_,_,e⟩:=e
       injection e with e;subst e;rfl
      ·cases e)
    |(obtain⟨_,_,e⟩:=e;injection e with e;subst e;rfl)
    |(obtain⟨_,_,_,_,e⟩:=e;injection e with e;subst e;rfl)
  ·injection e with e;rw[e]
theorem iV {α β:Type} {f:α->Option β}:∀{l:List α} {r:List β},dM f l=some r->r.length=l.length
 |[],r,e=>by simp only[dM,aD]at e;subst e;rfl
 |x::xs,r,e=>by
  simp only[dM,aA]at e
  obtain⟨y,_,ys,hys,e⟩:=e
  injection e with e;subst e
  simp[iV hys]
theorem nJ {α β:Type} {f:α->Option β}:∀{l:List α} {r:List β},dM f l=some r->∀(i:Nat) (x:α),l[i]? = some x->∃y,r[i]? = some y/\f x=some y
 |[],r,e,i,x,hx=>by simp at hx
 |z::xs,r,e,i,x,hx=>by
  simp only[dM,aA]at e
  obtain⟨y,hy,ys,hys,e⟩:=e
  injection e with e;subst e
  cases i with
  |zero=>simp at hx;subst hx;exact⟨y,by simp,hy⟩
  |succ i=>simpa using nJ hys i x (by simpa using hx)
def Kx.frz (K:Kx) (h:aN):Kx:=⟨K.φ,fun t B=>K.st t B\/own K h B⟩
theorem rR {K K':Kx} {H H':gC} {h h':aN} {f:IV->Option IV} (hf:∀v v' x,f v=some v'->bS K H h v x->bS K' H' h' v' x):∀{cs cs':List IV} {vs:List Value},dM f cs=some cs'->dE K H h cs vs->dE K' H' h' cs' vs
 |[],cs',vs,e,r=>by simp only[dM,aD]at e;subst e;rw[r.nil_inv];exact .nil
 |c::cs,cs',vs,e,r=>by
  simp only[dM,aA]at e
  obtain⟨y,hy,ys,hys,e⟩:=e
  injection e with e;subst e
  obtain⟨v,rr,rfl,h1,h2⟩:=r.cons_inv
  exact .cons (hf _ _ _ hy h1) (rR hf hys h2)
theorem In {K:Kx} {H:gC} {h:aN} (iv:qN K h H):∀(d:Nat) (v v':IV) (x:Value),fz h d v=some v'->bS K H h v x->bS (K.frz h) H [] v' x:=by
 have hno:∀(v:IV) (x:Value),v.own=false->bS K H h v x->bS (K.frz h) H [] v x:=fun v x ho r=>(r.of_own ho).weak (fun t B hs=>⟨Or.inl hs,rfl⟩) []
 intro d
 induction d with
 |zero=>
  intro v v' x e r
  simp only[fz]at e
  split at e
  ·cases e
  ·rename_i ho
   injection e with e;subst e
   exact hno v x (by simpa using ho) r
 |succ d ih=>
  intro v v' x e r
  simp only[fz]at e
  split at e
  ·cases v<;>simp only[aA]at e<;>try (cases e;done)
   case ptr b tot i off _=>
    obtain⟨k,hk,ee,hee,e',he',e⟩:=e
    injection e with e;subst e
    cases r with
    |ptr _ _ _ _ a hb hl=>
     obtain⟨hi,l,h1,rfl⟩:=hl k hk
     obtain⟨g1,g2⟩:=fJ.1 hk
     obtain⟨hsz,l',g3,_,CS,el,fr,g4,g5,g6,g7,g8,g9⟩:=iv.blk b k g1
     rw[h1]at g3;injection g3 with g3;subst g3
     have hlen:=iV he'
     have hget:∀j,∃v,∀(hj:j<e'.length),CS[l.s+i*k.sz+j]? = some v/\bS (K.frz h) H [] (e'[j]) v:=fun j=>by
      by_cases hj:j<e'.length
      ·obtain⟨v,h2,h3⟩:=g9 i j ee _ hee (aG (by omega))
       obtain⟨y,h4,h5⟩:=nJ he' j _ (aG (by omega))
       rw[aG hj]at h4;injection h4 with h4
       refine⟨v,fun _=>⟨h2,?_⟩⟩
       rw[h4];exact ih _ _ _ h5 h3
      ·exact⟨undef,fun h=>absurd h hj⟩
     obtain⟨cs,hcs⟩:=Classical.axiomOfChoice hget
     refine .rptr false e' off l.B (l.s+i*k.sz) cs (.inr ⟨b,k,l,g1,h1,rfl⟩) (fun c hc=>?_) (fun j hj=>by rw[tF g4];exact(hcs j hj).1) fun j hj=>(hcs j hj).2
     obtain⟨j,hj,rfl⟩:=dQ.1 hc
     obtain⟨y,h4,h5⟩:=nJ he' j _ (aG (by omega))
     rw[aG hj]at h4;injection h4 with h4
     rw[h4,Io h5]
     exact(g7 ee (aL hee)).2 _ (bH _)
   case sl b tot off len cap _=>
    obtain⟨k,hk,e⟩:=e
    split at e
    ·rename_i hle
     simp only[aA]at e
     obtain⟨es',hes',e⟩:=e
     injection e with e;subst e
     cases r with
     |sl _ _ _ _ _ a cap' hb hlen hl=>
      obtain⟨q1,q2,q3,q4,l,q5,q6,q7⟩:=hl k hk
      obtain⟨g1,g2⟩:=fJ.1 hk
      obtain⟨hsz,l',g3,_,CS,el,fr,g4,g5,g6,g7,g8,g9⟩:=iv.blk b k g1
      rw[q5]at g3;injection g3 with g3;subst g3
      have hl1:es'.length=len:=by rw[iV hes'];simp;omega
      have hel:∀(i:Nat) (e':List IV),es'[i]? = some e'->∃e,k.es[off+i]? = some e/\dM (fz h d) e=some e'/\i<len:=fun i e' he'=>by
       have hi:=(aJ.1 he').1
       obtain⟨e,he⟩:∃e,((k.es.drop off).take len)[i]? = some e:=⟨_,aG (by rw[<-iV hes'];exact hi)⟩
       obtain⟨y,h1,h2⟩:=nJ hes' i e he
       rw[he']at h1;injection h1 with h1;subst h1
       exact⟨e,(jD he).2,h2,by omega⟩
      have hget:∀i j,∃v,∀(hi:i<es'.length) (hj:j<(es'[i]).length),wU H a.block (a.off+i*k.sz+j)=some v/\bS (K.frz h) H [] (es'[i][j]) v:=fun i j=>by
       by_cases hi:i<es'.length
       ·by_cases hj:j<(es'[i]).length
        ·obtain⟨e,h1,h2,h3⟩:=hel i _ (aG hi)
         have hlj:=iV h2
         obtain⟨v,h4,h5⟩:=g9 (off+i) j e _ h1 (aG (by omega))
         obtain⟨y,h6,h7⟩:=nJ h2 j _ (aG (by omega))
         rw[aG hj]at h6;injection h6 with h6
         refine⟨v,fun _ _=>⟨?_,by rw[h6];exact ih _ _ _ h7 h5⟩⟩
         rcases q6 with q6|q6
         ·omega
         ·subst q6
          simp only
          rw[tF g4,<-h4]
          congr 1
          rw[cJ];omega
        ·exact⟨undef,fun _ h=>absurd h hj⟩
       ·exact⟨undef,fun h=>absurd h hi⟩
      obtain⟨cs,hcs⟩:=Classical.axiomOfChoice (fun i=>Classical.axiomOfChoice (hget i))
      rw[<-hl1]
      refine .ro false es' a cap' k.sz cs (by omega) (fun e' he'=>?_) (fun e' he' c hc=>?_) (fun hne=>?_) (fun i j hi hj=>(hcs i j hi hj).1) fun i j hi hj=>(hcs i j hi hj).2
      ·obtain⟨i,hi,rfl⟩:=dQ.1 he'
       obtain⟨e,h1,h2,_⟩:=hel i _ (aG hi)
       rw[iV h2]
       exact(g7 e (aL h1)).1
      ·obtain⟨i,hi,rfl⟩:=dQ.1 he'
       obtain⟨e,h1,h2,_⟩:=hel i _ (aG hi)
       obtain⟨j,hj,rfl⟩:=dQ.1 hc
       have hlj:=iV h2
       obtain⟨y,h6,h7⟩:=nJ h2 j _ (aG (by omega))
       rw[aG hj]at h6;injection h6 with h6
       rw[h6,Io h7]
       exact(g7 e (aL h1)).2 _ (bH _)
      ·have:0<es'.length:=fN.2 hne
       rcases q6 with q6|q6
       ·omega
       ·subst q6
        exact⟨.inr ⟨b,k,l,g1,q5,rfl⟩,rfl⟩
    ·cases e
   case agg cs _=>
    obtain⟨cs',hcs',e⟩:=e
    injection e with e;subst e
    obtain⟨h1,vs,rfl,h2⟩:=bS.agg_iff.1 r
    refine bS.agg_iff.2 ⟨fun c hc=>?_,vs,rfl,rR ih hcs' h2⟩
    obtain⟨j,hj,rfl⟩:=dQ.1 hc
    have hlj:=iV hcs'
    obtain⟨y,h6,h7⟩:=nJ hcs' j _ (aG (by omega))
    rw[aG hj]at h6;injection h6 with h6
    rw[h6,Io h7]
    exact h1 _ (bH _)
   case tup cs _=>
    obtain⟨cs',hcs',e⟩:=e
    injection e with e;subst e
    obtain⟨vs,rfl,h2⟩:=bS.tup_iff.1 r
    exact bS.tup_iff.2 ⟨vs,rfl,rR ih hcs' h2⟩
   case iface t v _=>
    obtain⟨y,hy,e⟩:=e
    injection e with e;subst e
    cases r with
    |iface _ _ xx hv=>exact .iface t y xx (ih _ _ _ hy hv)
   case fn f a b _=>
    obtain⟨a',ha',b',hb',e⟩:=e
    injection e with e;subst e
    obtain⟨va,vb,rfl,h1,h2⟩:=bS.fn_iff.1 r
    exact bS.fn_iff.2 ⟨va,vb,rfl,rR ih ha' h1,rR ih hb' h2⟩
  ·rename_i ho
   injection e with e;subst e
   exact hno v x (by simpa using ho) r
theorem yT (v:IV):v.lend.one=v.one:=by cases v<;>rfl
theorem Pq {K K':Kx} {H:gC} (hst:∀t B,K.st t B->K'.st true B) {v:IV} {x:Value} (r:bS K H [] v x):bS K' H [] v.lend x:=by
 generalize hh:([]:aN)=h0 at r
 induction r with
 |bool b=>exact .bool b
 |int k n=>exact .int k n
 |str b=>exact .str b
 |nilp=>exact .nilp
 |ptr b tot i off a hb hl=>subst hh;exact absurd hb.1 (by simp)
 |rptr bor e off B o cs hst' hone hcs hv ih=>
  simp only[IV.lend,IV.lendL_eq]
  refine .rptr true _ off B o cs (hst _ _ hst') (fun c hc=>?_) (fun j hj=>hcs j (by simpa using hj)) fun j hj=>?_
  ·obtain⟨c',hc',rfl⟩:=bI.1 hc
   rw[yT];exact hone _ hc'
  ·simpa using ih j (by simpa using hj) rfl
 |nils=>exact .nils
 |sl b tot off len cap a cap' hb hlen hl=>subst hh;exact absurd hb.1 (by simp)
 |ro bor es a cap sz cs hc hsz hone hst' hcs hv ih=>
  simp only[IV.lend,IV.lendLL_eq]
  have:=bS.ro (K:=K') (H:=H) (h:=([]:aN)) true (es.map (·.map IV.lend)) a cap sz cs (by simpa using hc) (fun e he=>by
   obtain⟨e',he',rfl⟩:=bI.1 he
   simpa using hsz e' he') (fun e he c hcc=>by
   obtain⟨e',he',rfl⟩:=bI.1 he
   obtain⟨c',hc',rfl⟩:=bI.1 hcc
   rw[yT];exact hone e' he' c' hc') (fun hne=>⟨hst _ _ (hst' (by rintro rfl;simp at hne)).1,(hst' (by rintro rfl;simp at hne)).2⟩)
   (fun i j hi hj=>hcs i j (by simpa using hi) (by simpa using hj)) (fun i j hi hj=>by simpa using ih i j (by simpa using hi) (by simpa using hj) rfl)
  rw[An]at this
  subst hh;exact this
 |lit es a sz cs hsz hone hst' hcs hv ho ih=>
  subst hh
  have:=(bS.lit es a sz cs hsz hone hst' hcs hv ho).nil_own
  cases this
 |esl a=>exact .esl a
 |agg cs vs hn hone hv ih=>
  simp only[IV.lend,IV.lendL_eq]
  exact .agg _ vs (by simpa using hn) (fun c hc=>by
   obtain⟨c',hc',rfl⟩:=bI.1 hc
   rw[yT];exact hone _ hc') fun i h1 h2=>by simpa using ih i (by simpa using h1) h2 hh
 |tup cs vs hn hv ih=>
  simp only[IV.lend,IV.lendL_eq]
  exact .tup _ vs (by simpa using hn) fun i h1 h2=>by simpa using ih i (by simpa using h1) h2 hh
 |iface t v x hv ih=>exact .iface t _ x (ih hh)
 |nili=>exact .nili
 |fn f a b a' b' ha hb hva hvb iha ihb=>
  simp only[IV.lend,IV.lendL_eq]
  exact .fn f _ _ a' b' (by simpa using ha) (by simpa using hb) (fun i h1 h2=>by simpa using iha i (by simpa using h1) h2 hh) fun i h1 h2=>by simpa using ihb i (by simpa using h1) h2 hh
 |nilf=>exact .nilf
theorem Hq {K:Kx} {H:gC} {v:IV} {x:Value} (r:bS K H [] v x) (hl:v.lent=false):bS ⟨K.φ,fun _ B=>K.st false B⟩ H [] v x:=by
 generalize hh:([]:aN)=h0 at r
 induction r with
 |bool b=>exact .bool b
 |int k n=>exact .int k n
 |str b=>exact .str b
 |nilp=>exact .nilp
 |ptr b tot i off a hb=>subst hh;exact absurd hb.1 (by simp)
 |rptr bor e off B o cs hst' hone hcs hv ih=>
  simp only[IV.lent,IV.lentL_eq,iB,cC]at hl
  obtain⟨rfl,hl⟩:=hl
  exact .rptr false e off B o cs hst' hone hcs fun j hj=>ih j hj (by simpa using hl _ (bH hj)) rfl
 |nils=>exact .nils
 |sl b tot off len cap a cap' hb=>subst hh;exact absurd hb.1 (by simp)
 |ro bor es a cap sz cs hc hsz hone hst' hcs hv ih=>
  simp only[IV.lent,IV.lentLL_eq,iB,cC]at hl
  obtain⟨rfl,hl⟩:=hl
  refine .ro false es a cap sz cs hc hsz hone hst' hcs fun i j hi hj=>ih i j hi hj ?_ rfl
  have:=hl _ (bH hi)
  simp only[dT,cC]at this
  simpa using this _ (bH hj)
 |lit es a sz cs hsz hone hst' hcs hv ho ih=>
  subst hh
  have:=(bS.lit es a sz cs hsz hone hst' hcs hv ho).nil_own
  cases this
 |esl a=>exact .esl a
 |agg cs vs hn hone hv ih=>
  simp only[IV.lent,IV.lentL_eq,cC]at hl
  exact .agg cs vs hn hone fun i h1 h2=>ih i h1 h2 (by simpa using hl _ (bH h1)) hh
 |tup cs vs hn hv ih=>
  simp only[IV.lent,IV.lentL_eq,cC]at hl
  exact .tup cs vs hn fun i h1 h2=>ih i h1 h2 (by simpa using hl _ (bH h1)) hh
 |iface t v x hv ih=>exact .iface t v x (ih (by simpa [IV.lent]using hl) hh)
 |nili=>exact .nili
 |fn f a b a' b' ha hb hva hvb iha ihb=>
  simp only[IV.lent,IV.lentL_eq,iB,cC]at hl
  exact .fn f a b a' b' ha hb (fun i h1 h2=>iha i h1 h2 (by simpa using hl.1 _ (bH h1)) hh) fun i h1 h2=>ihb i h1 h2 (by simpa using hl.2 _ (bH h1)) hh
 |nilf=>exact .nilf
end Go.Ideal
namespace Go.Ideal
def Yx (P : Program) (f : Nat) : Prop := ∃ fn, P.funcs[f]? = some fn /\ (fn.name == "runtime.NumGoroutine") = false /\ fn.body.isNone = false
def qH (P:Program) (call:Nat->List IV->aN->Option (IV×aN)):Prop:=
 ∀f args h r,call f args h=some r->Yx P f/\∀(K:Kx) (w:World) (args':Array Value),qN K h w.heap->dE K w.heap h args args'.toList->
  Calls P f args' w fun e w'=>∃v K1,e = .returned v/\((w'.os,w'.tape),w'.output)=((w.os,w.tape),w.output)/\oF K h w.heap (own K h) K1 r.2 w'.heap (own K1 r.2)/\qN K1 r.2 w'.heap/\bS K1 w'.heap r.2 r.1 v
theorem pS {K:Kx} {B:Nat}:¬own K [] B:=by rintro⟨b,k,l,e,_⟩;simp at e
theorem Dq {K:Kx} {H:gC} (hs:∀B,K.st false B->K.st true B) (hl:∀B,K.st true B->B<H.size):qN K [] H:=
 ⟨fun b k e=>by simp at e,fun b b' k k' l l' e=>by simp at e,hs,hl⟩
theorem Mm {P:Program} {call:Nat->List IV->aN->Option (IV×aN)} {opn:Nat->Bool} (hc:qH P call) {f:Nat} {args:List IV} {h:aN} {r:IV×aN} (e:iX call opn f args h=some r):
 Yx P f/\∀(K:Kx) (w:World) (σ:Fr) (a args':Array Value),dK K h w.heap σ a->dE K w.heap h args args'.toList->
  Calls P f args' w fun e w'=>∃v K1,e = .returned v/\((w'.os,w'.tape),w'.output)=((w.os,w.tape),w.output)/\Step K h w.heap σ a K1 r.2 w'.heap σ/\bS K1 w'.heap r.2 r.1 v:=by
 unfold iX at e
 split at e
 ·
  obtain⟨hf,hh⟩:=hc f args h r e
  refine⟨hf,fun K w σ a args' g hl=>(hh K w args' g.inv hl).mono ?_⟩
  rintro e w' ⟨v,K1,rfl,hio,E,I,V⟩
  refine⟨v,K1,rfl,hio,⟨⟨E.len,E.gen,E.st,E.st',E.size,fun B hB hm=>E.fr B hB fun ho=>hm (.inl ho),fun B hB hm=>hm.imp (E.mn B hB) id,E.nst⟩,I,?_⟩,V⟩
  have hE:oF K h w.heap (fZ K h σ a) K1 r.2 w'.heap (fZ K1 r.2 σ a):=⟨E.len,E.gen,E.st,E.st',E.size,fun B hB hm=>E.fr B hB fun ho=>hm (.inl ho),fun B hB hm=>hm.imp (E.mn B hB) id,E.nst⟩
  refine⟨fun t v ht hgo=>?_,fun t cs ht=>?_,g.fr.lptr,g.fr.sep⟩
  ·obtain⟨x,h1,h2⟩:=g.fr.val t v ht hgo
   exact⟨x,h1,h2.ext hE⟩
  ·obtain⟨B,ob,h1,h2,h4,h5,h6⟩:=g.fr.box t cs ht
   have hB:=fI h2
   exact⟨B,ob,h1,(E.fr B hB h6).trans h2,h4.ext hE,fun hs=>h5 (E.st' _ _ hs hB),fun ho=>h6 (E.mn B hB ho)⟩
 ·split at e
  ·
   rename_i hown
   simp only[aA,Jk]at e
   obtain⟨args2,⟨l,hl1,hl2⟩,r0,hr0,v0,hv0,e⟩:=e
   injection hl2 with hl2;subst hl2
   split at e
   ·cases e
   ·rename_i hlent
    injection e with e;subst e
    obtain⟨hf,hh⟩:=hc f _ [] r0 hr0
    refine⟨hf,fun K w σ a args' g hl=>?_⟩
    have hst2:∀t B,(K.frz h).st t B->B<w.heap.size:=fun t B hs=>by
     rcases hs with hs|hs
     ·cases t
      ·exact g.inv.lt B (g.inv.sub B hs)
      ·exact g.inv.lt B hs
     ·exact(g.inv.own_lt hs).1
    have hargs:dE ⟨fun _=>none,fun t B=>if t then B<w.heap.size else K.st false B⟩ w.heap [] (l.map IV.lend) args'.toList:=by
     have h1:=rR (In g.inv depth) hl1 hl
     refine⟨by rw[An];exact h1.1,fun i h2 h3=>?_⟩
     have:=h1.2 i (by simpa using h2) h3
     simpa using Pq (K':=⟨fun _=>none,fun t B=>if t then B<w.heap.size else K.st false B⟩) (fun t B hs=>by simpa using hst2 t B hs) this
    refine(hh ⟨fun _=>none,fun t B=>if t then B<w.heap.size else K.st false B⟩ w args' (Dq (fun B hs=>by simp at hs |-;exact g.inv.lt B (g.inv.sub B hs)) (fun B hs=>by simpa using hs)) hargs).mono ?_
    rintro e w' ⟨v,K3,rfl,hio,E,I,V⟩
    have V2:=Hq (In I depth _ _ _ hv0 V) (by simpa using hlent)
    have hsame:∀B,B<w.heap.size->w'.heap[B]? = w.heap[B]?:=fun B hB=>E.fr B hB pS
    have hnew:∀B,(K3.frz r0.2).st false B->B<w.heap.size->K.st false B:=fun B hs hB=>by
     rcases hs with hs|hs
     ·simpa using E.st' false B hs hB
     ·exact absurd (E.mn B hB hs) pS
    have hstlt:∀t B,K.st t B->B<w.heap.size:=fun t B hs=>hst2 t B (.inl hs)
    let K1:Kx:=⟨K.φ,fun t B=>K.st t B\/(K3.frz r0.2).st false B⟩
    have hst':∀t B,K1.st t B->B<w.heap.size->K.st t B:=fun t B hs hB=>by
     rcases hs with hs|hs
     ·exact hs
     ·have:=hnew B hs hB
      cases t
      ·exact this
      ·exact g.inv.sub B this
    have hE:oF K h w.heap (fZ K h σ a) K1 h w'.heap (fZ K1 h σ a):=
     ⟨aK _,fun b k' _ e=>⟨k',e,aK _,fun _=>⟨rfl,rfl⟩⟩,fun t B hs=>⟨.inl hs,hsame B (hstlt t B hs)⟩,hst',E.size,fun B hB _=>hsame B hB,fun B _ hm=>hm,fun t B hs=>by
       rcases hs with hs|hs|ho
       ·exact .inl hs
       ·rcases E.nst false B hs with hk|hk
        ·have hk':K.st false B:=by simpa using hk
         cases t
         ·exact .inl hk'
         ·exact .inl (g.inv.sub B hk')
        ·exact .inr hk
       ·rcases iQ B w.heap.size with hB|hB
        ·exact absurd (E.mn B hB ho) pS
        ·exact .inr ⟨hB,I.own_cells ho⟩⟩
    refine⟨v,K1,rfl,hio,⟨hE,uH g hE rfl (fun B hm=>hsame B (mU g.inv g.fr hm).1) hst' (fun B hs=>hs.imp (g.inv.sub B) id) fun B hs=>?_⟩,bS.weak (K':=K1) (fun t B hs=>⟨Or.inr hs,rfl⟩) V2 h⟩
    rcases hs with hs|hs|hs
    ·exact bM (hstlt _ B hs) E.size
    ·exact I.lt B (I.sub B hs)
    ·exact(I.own_lt hs).1
  ·
   rename_i hown
   simp only[aA]at e
   obtain⟨r0,hr0,v0,hv0,e⟩:=e
   injection e with e;subst e
   obtain⟨hf,hh⟩:=hc f _ [] r0 hr0
   refine⟨hf,fun K w σ a args' g hl=>?_⟩
   have hargs:dE ⟨fun _=>none,K.st⟩ w.heap [] args args'.toList:=⟨hl.1,fun i h1 h2=>by
    refine bS.weak (K:=K) (K':=⟨fun _=>none,K.st⟩) (fun t B hs=>⟨hs,rfl⟩) ((hl.2 i h1 h2).of_own ?_) []
    have:=hown
    simp only[dT,cC]at this
    simpa using this _ (bH h1)⟩
   refine(hh ⟨fun _=>none,K.st⟩ w args' (Dq g.inv.sub g.inv.lt) hargs).mono ?_
   rintro e w' ⟨v,K3,rfl,hio,E,I,V⟩
   have V2:=In I depth _ _ _ hv0 V
   have hsame:∀B,B<w.heap.size->w'.heap[B]? = w.heap[B]?:=fun B hB=>E.fr B hB pS
   have hstlt:∀t B,K.st t B->B<w.heap.size:=fun t B hs=>by
    cases t
    ·exact g.inv.lt B (g.inv.sub B hs)
    ·exact g.inv.lt B hs
   let K1:Kx:=⟨K.φ,(K3.frz r0.2).st⟩
   have hst':∀t B,K1.st t B->B<w.heap.size->K.st t B:=fun t B hs hB=>by
    rcases hs with hs|hs
    ·exact E.st' t B hs hB
    ·exact absurd (E.mn B hB hs) pS
   have hE:oF K h w.heap (fZ K h σ a) K1 h w'.heap (fZ K1 h σ a):=
    ⟨aK _,fun b k' _ e=>⟨k',e,aK _,fun _=>⟨rfl,rfl⟩⟩,fun t B hs=>⟨.inl (E.st t B hs).1,hsame B (hstlt t B hs)⟩,hst',E.size,fun B hB _=>hsame B hB,fun B _ hm=>hm,fun t B hs=>by
      rcases hs with hs|ho
      ·exact E.nst t B hs
      ·rcases iQ B w.heap.size with hB|hB
       ·exact absurd (E.mn B hB ho) pS
       ·exact .inr ⟨hB,I.own_cells ho⟩⟩
   refine⟨v,K1,rfl,hio,⟨hE,uH g hE rfl (fun B hm=>hsame B (mU g.inv g.fr hm).1) hst' (fun B hs=>?_) fun B hs=>?_⟩,bS.weak (K:=K3.frz r0.2) (K':=K1) (fun t B hs=>⟨hs,rfl⟩) V2 h⟩
   ·exact hs.imp (I.sub B) id
   ·rcases hs with hs|hs
    ·exact I.lt B hs
    ·exact(I.own_lt hs).1
inductive Hj (ops:Array Oper):Option (Nat×Bool)->Option (Nat×Bool)->Prop
 |none:Hj ops none none
 |some {j:Nat} {want:Bool} {t:Nat} (h:(ops[j]?).bind (·.dst)=some t) (ht:t<lK):Hj ops (some (j,want)) (some (t,want))
structure vG (P:Program) (ops:Array Oper) (ntm:Nat) (o:Oper) (it:cH):Prop where
 link:fP P o.op o.type it.op
 dst:it.dst=o.dst
 lt:∀t,o.dst=some t->t<ntm
 gd:Hj ops o.guard it.g
section
variable {L:Nat->Prop} {ρ:Option Nat} {n:Nat}
variable {P:Program} {ops:Array Oper} {ntm:Nat} {o:Oper} {it:cH} {call:Nat->List IV->aN->Option (IV×aN)} {opn:Nat->Bool} {K:Kx} {h:aN} {w:World} {σ:Fr} {a:Act} {s1:St} {Q:Exit->Act->World->Prop} {next:Act->World->Prop}
theorem Hp (r:Ae K w.heap h σ a.tmps) (gd:Hj ops o.guard it.g) {b:Bool} (e:wanted σ it.g=some b):Region.wanted o (yielded ops a.tmps)=b:=by
 generalize hg:o.guard=g1 at gd
 generalize hg2:it.g=g2 at gd e
 cases gd with
 |none=>
  simp only[wanted,aD]at e;subst e
  simp[Region.wanted,hg]
 |some hj hgo=>
  rename_i j want t
  simp only[wanted]at e
  simp only[Region.wanted,hg,yielded,hj,aB]
  split at e
  ·rename_i bb hb
   injection e with e;subst e
   obtain⟨x,h1,h2⟩:=r.val t _ hb hgo
   rw[h1,h2.bool_inv]
   cases bb<;>cases want<;>rfl
  ·rename_i hb
   injection e with e;subst e
   obtain⟨x,h1,h2⟩:=r.val t _ hb hgo
   obtain⟨vs,rfl,_⟩:=bS.tup_iff.1 h2
   rw[h1]
   cases want<;>rfl
  ·cases e
abbrev qO (ρ:Option Nat):Fence:={ Fence.wide with round:=ρ }
theorem Kp {ρ:Option Nat} {n:Nat} {P:Program} {f:Nat} {args:Array Value} {w:World} {R:Ending->World->Prop} (h:Calls P f args w R):CallsIn (qO ρ) n P f args w R:=(callsIn_wide (n:=n)).2 h
theorem yR {ρ:Option Nat} {o:Oper} {it:gQ} {ty:TypeId} (l:fP P o.op ty it) (hb:it≠.bad) (e:Operand->Value):Oper.semAt ρ e o=execOp e o:=by
 cases ρ with
 |none=>rfl
 |some r=>
  refine Oper.semAt_some r e o fun c hc=>?_
  rw[hc]at l
  cases l
  exact hb rfl
theorem nH {s0 s1:St} {K1:Kx} {H1:gC} {sv:SV} {x:Value} (hn:a.tmps.size=ntm) (hlt:∀t,o.dst=some t->t<ntm) (S:Step K h w.heap σ a.tmps K1 s0.2 H1 s0.1) (sb:Uv K1 H1 s0.2 s0.1 a.tmps w.heap.size sv x) (hL:∀t,o.dst=some t->¬L t)
 (e:gL s0 o.dst sv=some s1):jC L K h w.heap σ a.tmps K1 s1.2 H1 s1.1 (a.put o.dst x).tmps/\(a.put o.dst x).defers=a.defers:=by
 cases hd:o.dst with
 |none=>
  rw[hd]at e
  simp only[gL,aD]at e;subst e
  exact⟨S.to2,rfl⟩
 |some t=>
  rw[hd]at e
  simp only[gL]at e
  split at e
  ·rename_i hl
   injection e with e;subst e
   exact⟨yG S sb hl (by rw[hn];exact hlt t hd) (hL t hd),rfl⟩
  ·cases e
theorem Ii {a a1:Act} {w w1:World} (hd:a1.defers=a.defers) (hio:((w1.os,w1.tape),w1.output)=((w.os,w.tape),w.output)):(a1.defers,(w1.os,w1.tape),w1.output)=(a.defers,(w.os,w.tape),w.output):=by
 injection hio with h1 h2;rw[hd,h1,h2]
theorem vK {K:Kx} {H:gC} {h:aN}:bS K H h (.tup []) undef:=.tup [] #[] rfl fun i h=>absurd h (by simp)
theorem pP {f:Nat} {args:Array Value} (hf:Yx P f):(callFunc f args).run P w = .ok (.enter f args) w:=by
 obtain⟨fn,h1,h2,h3⟩:=hf
 have h2' : ¬ (fn.name = "runtime.NumGoroutine") := by simpa using h2
 simp only[callFunc,aO,run_program,aH,h1]
 rw[if_neg (by simpa using h2'),if_neg (by simp[h3])]
 rfl
theorem Vh (hc:qH P call) (il:vG P ops ntm o it) (g:dK K h w.heap σ a.tmps) (hn:a.tmps.size=ntm) (ev:fL call opn it (σ,h)=some s1)
 (hL:∀t,it.dst=some t->¬L t) (hnext:∀K1 a1 w1,jC L K h w.heap σ a.tmps K1 s1.2 w1.heap s1.1 a1.tmps->(a1.defers,(w1.os,w1.tape),w1.output)=(a.defers,(w.os,w.tape),w.output)->next a1 w1):
 if Region.wanted o (yielded ops a.tmps) then o.wpIn (qO ρ) n P a w next Q else (∀f,o.about P w a.eval=some f->(qO ρ).fn f)/\next (a.put o.dst undef) w:=by
 simp only[fL,aA]at ev
 obtain⟨b,hb,ev⟩:=ev
 rw[Hp g.fr il.gd hb]
 cases b with
 |false=>
  simp only[aR,if_false]at ev |-
  rw[il.dst]at ev
  obtain⟨S,hd⟩:=nH (L:=L) (s0:=(σ,h)) hn il.lt (.refl g) (vO (sv:=.val (.tup [])) vK) (fun t ht=>hL t (il.dst.trans ht)) ev
  exact⟨fun _ _=>trivial,hnext K _ w S (Ii hd rfl)⟩
 |true=>
  simp only[if_true,aA]at ev |-
  obtain⟨r,hr,ev⟩:=ev
  rw[il.dst]at ev hr
  by_cases hcall:it.op.isCall=false
  ·obtain⟨x,w1,K1,hrun,hio,S,sb⟩:=Vx g il.link hcall hr
   obtain⟨S2,hd⟩:=nH (L:=L) hn il.lt S sb (fun t ht=>hL t (il.dst.trans ht)) ev
   have:=hnext K1 _ w1 S2 (Ii hd hio)
   refine⟨fun _ _=>trivial,?_⟩
   rw[yR il.link (fun hb=>by rw[hb]at hr;simp[aT]at hr)]
   rcases hrun with hrun|⟨rfl,hrun⟩
   ·rw[hrun];exact this
   ·rw[hrun];exact this
  ·
   have main:∀{opn':Nat->Bool} (f:Nat) (l:List IV) (args':Array Value) (q:IV×aN),iX call opn' f l h=some q->dE K w.heap h l args'.toList->(execOp a.eval o).run P w=(callFunc f args').run P w->r=(.val q.1,(σ,q.2))->o.wpIn (qO ρ) n P a w next Q:=by
    intro opn' f l args' q hq hl hrun hreq
    subst hreq
    obtain⟨hf,hh⟩:=Mm hc hq
    refine⟨fun _ _=>trivial,?_⟩
    rw[yR il.link (fun hb=>by rw[hb]at hr;simp[aT]at hr),hrun,pP hf,Oper.uponIn_enter]
    refine⟨(fun h=>by cases h),Kp ((hh K w σ a.tmps args' g hl).mono ?_)⟩
    rintro e w' ⟨v,K1,rfl,hio,S,V⟩
    obtain⟨S2,hd⟩:=nH (L:=L) (s0:=(σ,q.2)) hn il.lt S (vO (sv:=.val q.1) V) (fun t ht=>hL t (il.dst.trans ht)) ev
    exact hnext K1 _ w' S2 (Ii hd hio)
   have hlink:=il.link
   generalize hop:o.op=op at hlink
   generalize hio:it.op=io at hlink hcall hr
   cases hlink<;>try (exact absurd rfl hcall)
   case call c f args hcc haa=>
    simp only[aT,aA]at hr
    obtain⟨l,hl,q,hq,hr⟩:=hr
    injection hr with hr
    refine main f l (c.args.map a.eval) q hq (by simpa using rK g.fr haa hl) ?_ hr.symm
    simp only[execOp,hop,resolve,hcc,Deferred.ofValue,Act.eval,aO,aU,aH,Go.invoke]
    congr 1
    simp
   case callc c f args hcc haa=>
    simp only[aT,aA]at hr
    obtain⟨l,hl,q,hq,hr⟩:=hr
    injection hr with hr
    refine main f l (c.args.map a.eval) q hq (by simpa using rK g.fr haa hl) ?_ hr.symm
    simp only[execOp,hop,resolve,hcc,Deferred.ofValue,Act.eval,aO,aU,aH,Go.invoke]
    congr 1
    simp
   case callv c f sf args hcc hfx haa=>
    simp only[aT,aA]at hr
    obtain⟨vf,hvf,l,hl,hr⟩:=hr
    split at hr
    ·rename_i ff fa fb
     simp only[aA]at hr
     obtain⟨q,hq,hr⟩:=hr
     injection hr with hr
     obtain⟨a',b',e1,e2,e3⟩:=bS.fn_iff.1 (cD hfx g.fr hvf)
     refine main ff (fa++l++fb) (a'.toArray++c.args.map a.eval++b'.toArray) q hq ?_ ?_ hr.symm
     ·simpa using (e2.append (rK g.fr haa hl)).append e3
     ·simp only[execOp,hop,resolve,hcc,e1,Deferred.ofValue,aO,aU,aH,Go.invoke]
    ·cases hr
   case callm c m rx sx args tab hcc hfx haa ht=>
    simp only[aT,aA]at hr
    obtain⟨vx,hvx,l,hl,hr⟩:=hr
    split at hr
    ·rename_i t v
     simp only[aA]at hr
     obtain⟨⟨f,sel⟩,htab,v',hv',q,hq,hr⟩:=hr
     injection hr with hr
     obtain⟨y,hy,hv⟩:=bS.iface_iff.1 (cD hfx g.fr hvx)
     obtain⟨y',hm,hy'⟩:=run_method (P:=P) (w:=w) (ht _ (lookup_mem htab)) hv hv' (P.types.size+Made.depth-1)
     refine main f (v'::l) (#[y']++c.args.map a.eval) q hq ?_ ?_ hr.symm
     ·simpa using dE.cons hy' (rK g.fr haa hl)
     ·have hd:P.types.size+Made.depth-1+1=P.types.size+Made.depth:=by have:0<Made.depth:=by decide
                                                                      omega
      rw[hd]at hm
      have a0:(#[Value.iface t y]++Array.map a.eval c.args)[0]? = some (.iface t y):=by rw[jA (by simp)];rfl
      have a1:(#[Value.iface t y]++Array.map a.eval c.args).extract 1 (#[Value.iface t y]++Array.map a.eval c.args).size=Array.map a.eval c.args:=by simp
      have a2:program.run P w = .ok P w:=by simp
      simp only[execOp,hop,resolve,hcc,aO,aU,aH,Go.invoke]
      rw[hy]
      simp only[a0,a1,callMethod,aO,a2,aH,hm]
    ·cases hr
theorem Qa (hc:qH P call) {its:List cH}:∀(i:Nat) {K:Kx} {h:aN} {w:World} {σ:Fr} {a:Act},(∀(j:Nat) (it:cH),its[j]? = some it->∃o,ops[i+j]? = some o/\vG P ops ntm o it)->dK K h w.heap σ a.tmps->a.tmps.size=ntm->
 (∀t it,L t->it∈its->it.dst≠some t)->dL call opn its (σ,h)=some s1->(∀K1 a1 w1,jC L K h w.heap σ a.tmps K1 s1.2 w1.heap s1.1 a1.tmps->(a1.defers,(w1.os,w1.tape),w1.output)=(a.defers,(w.os,w.tape),w.output)->Q .normal a1 w1)->wpOpsIn (qO ρ) n P ops Q (List.range' i its.length) a w:=by
 induction its with
 |nil=>
  intro i K h w σ a hl g hn hL ev hq
  simp only[dL,aD]at ev;subst ev
  exact hq K a w (.refl g) rfl
 |cons it its ih=>
  intro i K h w σ a hl g hn hL ev hq
  simp only[dL,aA]at ev
  obtain⟨s0,hs0,ev⟩:=ev
  obtain⟨o,ho,il⟩:=hl 0 it rfl
  rw[eE,List.range'_succ]
  simp only[wpOpsIn]
  rw[iR]at ho
  rw[ho]
  refine Vh (L:=L) hc il g hn hs0 (fun t ht hl=>hL t it hl (cE ..) ht) fun K1 a1 w1 S hd=>?_
  refine ih (i+1) (fun j it' hj=>?_) S.2.1 (by rw[S.2.2.1];exact hn) (fun t it' hl hm=>hL t it' hl (bT _ hm)) ev fun K2 a2 w2 S2 hd2=>hq K2 a2 w2 (S.trans S2) (hd2.trans hd)
  obtain⟨o',ho',il'⟩:=hl (j+1) it' (by simpa using hj)
  exact⟨o',by rw[show i+1+j=i+(j+1) by omega];exact ho',il'⟩
end
end Go.Ideal
namespace Go.Ideal
def Ar:Ex->Exit
 |.normal=>.normal
 |.exit i=>.exit i
 |.ret=>.ret
def dJ.dsts:dJ->List Nat
 |.reg its _=>its.filterMap (·.dst)
 |.drw q0 bs _=>(q0++bs.flatMap fun b=>b.w::b.qs).filterMap (·.dst)
 |.seq a b=>a.dsts++b.dsts
 |.cond _ a b=>a.dsts++b.dsts
 |.block _ a=>a.dsts
 |.loop a=>a.dsts
 |_=>[]
def Rw (P:Program) (opn:Nat->Bool) (ops:Array Oper) (ntm:Nat) (q0:List cH) (bs:List DB):Prop:=
 ∀(call:Nat->List IV->aN->Option (IV×aN)),qH P call->∀(L:Nat->Prop) (ρ:Option Nat) (dn:Nat) (K:Kx) (h:aN) (w:World) (σ:Fr) (a:Act) (s1:St) (Q:Exit->Act->World->Prop) (id:Nat),(∀t it,L t->it∈(q0++bs.flatMap fun b=>b.w::b.qs)->it.dst≠some t)->
  dK K h w.heap σ a.tmps->a.tmps.size=ntm->zI call opn q0 bs (σ,h)=some s1->
  (∀K1 a1 w1,jC L K h w.heap σ a.tmps K1 s1.2 w1.heap s1.1 a1.tmps->(a1.defers,(w1.os,w1.tape),w1.output)=(a.defers,(w.os,w.tape),w.output)->Q .normal a1 w1)->(Code.region id ops true).wpIn (qO ρ) dn P Q a w
inductive iT (P:Program) (opn:Nat->Bool) (ntm:Nat):Code->dJ->Prop
 |skip:iT P opn ntm .skip .skip
 |reg {id ops its live} (hl:its.length=ops.size) (h:∀(j:Nat) (it:cH),its[j]? = some it->∃o,ops[j]? = some o/\vG P ops ntm o it):iT P opn ntm (.region id ops false) (.reg its live)
 |drw {id ops q0 bs live} (h:Rw P opn ops ntm q0 bs):iT P opn ntm (.region id ops true) (.drw q0 bs live)
 |seq {a b a' b'} (ha:iT P opn ntm a a') (hb:iT P opn ntm b b'):iT P opn ntm (.seq a b) (.seq a' b')
 |cond {c c' a b a' b'} (hc:bG c c') (ha:iT P opn ntm a a') (hb:iT P opn ntm b b'):iT P opn ntm (.cond c a b) (.cond c' a' b')
 |block {id a a'} (ha:iT P opn ntm a a'):iT P opn ntm (.block id a) (.block id a')
 |loop {a a'} (ha:iT P opn ntm a a'):iT P opn ntm (.loop a) (.loop a')
 |exit {id}:iT P opn ntm (.exit id) (.exit id)
 |ret:iT P opn ntm .ret .ret
 |bad {c}:iT P opn ntm c .bad
 |post {c c' live} (h:iT P opn ntm c c'):iT P opn ntm c (.seq c' (.reg [] live))
 |pre {c c' live} (h:iT P opn ntm c c'):iT P opn ntm c (.seq (.reg [] live) c')
section
variable {P:Program} {ntm:Nat} {call:Nat->List IV->aN->Option (IV×aN)} {opn:Nat->Bool}
theorem Qy (hc:qH P call) {n:Nat} {code:Code} {sc:dJ} (cl:iT P opn ntm code sc):∀{L:Nat->Prop} {ρ:Option Nat} {dn:Nat} {K:Kx} {h:aN} {w:World} {σ:Fr} {a:Act} {ex:Ex} {s1:St} {Q:Exit->Act->World->Prop},(∀t,L t->t∉sc.dsts)->
 fB call opn (fun g s=>dO g n s) sc (σ,h)=some (ex,s1)->dK K h w.heap σ a.tmps->a.tmps.size=ntm->
 (∀K1 a1 w1,jC L K h w.heap σ a.tmps K1 s1.2 w1.heap s1.1 a1.tmps->(a1.defers,(w1.os,w1.tape),w1.output)=(a.defers,(w.os,w.tape),w.output)->Q (Ar ex) a1 w1)->code.wpIn (qO ρ) dn P Q a w:=by
 induction cl with
 |skip=>
  intro L ρ dn K h w σ a ex s1 Q hL ev g hn hq
  simp only[fB,aD,aM]at ev
  obtain⟨rfl,rfl⟩:=ev
  exact wpIn_skip (hq K a w (.refl g) rfl)
 |post _ ih=>
  intro L ρ dn K h w σ a ex s1 Q hL ev g hn hq
  simp only[fB,aA]at ev
  obtain⟨⟨ex0,s0⟩,h0,ev⟩:=ev
  refine ih (fun t ht hm=>hL t ht (by simp[dJ.dsts,hm])) h0 g hn fun K1 a1 w1 S hd=>?_
  cases ex0 with
  |normal=>
   simp only[dL,aB,aD,aM]at ev
   obtain⟨⟨_,rfl⟩,rfl,rfl⟩:=ev
   exact hq K1 a1 w1 (S.trans (iC S.2.1 _)) hd
  |exit i=>simp only[aD,aM]at ev;obtain⟨rfl,rfl⟩:=ev;exact hq K1 a1 w1 S hd
  |ret=>simp only[aD,aM]at ev;obtain⟨rfl,rfl⟩:=ev;exact hq K1 a1 w1 S hd
 |@pre _ _ live _ ih=>
  intro L ρ dn K h w σ a ex s1 Q hL ev g hn hq
  simp only[fB,dL,aB]at ev
  have S0:=iC (L:=L) g live
  exact ih (fun t ht hm=>hL t ht (by simp[dJ.dsts,hm])) ev S0.2.1 hn fun K1 a1 w1 S hd=>hq K1 a1 w1 (S0.trans S) hd
 |reg hl hh=>
  intro L ρ dn K h w σ a ex s1 Q hL ev g hn hq
  simp only[fB,aA]at ev
  obtain⟨s0,hs0,ev⟩:=ev
  simp only[aD,aM]at ev
  obtain⟨rfl,rfl⟩:=ev
  refine wpIn_region ?_
  rw[Ep,<-hl]
  exact Qa (L:=L) hc 0 (fun j it hj=>by rw[bV];exact hh j it hj) g hn (fun t it ht hm hd=>hL t ht (iZ.2 ⟨it,hm,hd⟩)) hs0 fun K1 a1 w1 S hd=>hq K1 a1 w1 (S.trans (iC S.2.1 _)) hd
 |drw hh=>
  intro L ρ dn K h w σ a ex s1 Q hL ev g hn hq
  simp only[fB,aA]at ev
  obtain⟨s0,hs0,ev⟩:=ev
  simp only[aD,aM]at ev
  obtain⟨rfl,rfl⟩:=ev
  exact hh call hc L ρ dn K h w σ a s0 Q _ (fun t it ht hm hd=>hL t ht (iZ.2 ⟨it,hm,hd⟩)) g hn hs0 fun K1 a1 w1 S hd=>hq K1 a1 w1 (S.trans (iC S.2.1 _)) hd
 |seq ha hb iha ihb=>
  intro L ρ dn K h w σ a ex s1 Q hL ev g hn hq
  simp only[fB,aA]at ev
  obtain⟨⟨e0,s0⟩,hs0,ev⟩:=ev
  refine wpIn_seq (iha (fun t ht hm=>hL t ht (aE.2 (.inl hm))) hs0 g hn fun K1 a1 w1 S hd=>?_)
  cases e0 with
  |normal=>
   simp only[Ar,Exit.then]
   exact ihb (fun t ht hm=>hL t ht (aE.2 (.inr hm))) ev S.2.1 (by rw[S.2.2.1];exact hn) fun K2 a2 w2 S2 hd2=>hq K2 a2 w2 (S.trans S2) (hd2.trans hd)
  |exit i=>
   simp only[aD,aM]at ev
   obtain⟨rfl,rfl⟩:=ev
   exact hq K1 a1 w1 S hd
  |ret=>
   simp only[aD,aM]at ev
   obtain⟨rfl,rfl⟩:=ev
   exact hq K1 a1 w1 S hd
 |cond hx ha hb iha ihb=>
  intro L ρ dn K h w σ a ex s1 Q hL ev g hn hq
  simp only[fB,aA]at ev
  obtain⟨v,hv,ev⟩:=ev
  have rv:=cD (ac:=a) hx g.fr hv
  split at ev
  ·exact wpIn_cond_true rv.bool_inv (iha (fun t ht hm=>hL t ht (aE.2 (.inl hm))) ev g hn hq)
  ·exact wpIn_cond_false rv.bool_inv (ihb (fun t ht hm=>hL t ht (aE.2 (.inr hm))) ev g hn hq)
  ·cases ev
 |block ha iha=>
  intro L ρ dn K h w σ a ex s1 Q hL ev g hn hq
  simp only[fB,aA]at ev
  obtain⟨⟨e0,s0⟩,hs0,ev⟩:=ev
  refine wpIn_block (iha hL hs0 g hn fun K1 a1 w1 S hd=>?_)
  split at ev
  ·rename_i he
   simp only at he;subst he
   simp only[aD,aM]at ev
   obtain⟨rfl,rfl⟩:=ev
   simp only[Ar,Exit.inBlock,if_true]
   exact hq K1 a1 w1 S hd
  ·rename_i he
   simp only[aD,aM]at ev
   obtain⟨rfl,rfl⟩:=ev
   have:=hq K1 a1 w1 S hd
   cases e0 with
   |normal=>exact this
   |ret=>exact this
   |exit i=>
    simp only[Ar,Exit.inBlock]
    rw[if_neg (by intro e;subst e;exact he rfl)]
    exact this
 |loop ha iha=>
  rename_i c0 c0'
  intro L ρ dn K h w σ a ex s1 Q hL ev g hn hq
  simp only[fB]at ev
  refine wpIn_loop_rounds n ?_
  have key:∀(m:Nat) {K:Kx} {h:aN} {w:World} {σ:Fr} {a:Act},dO (fB call opn (fun g s=>dO g n s) c0') m (σ,h)=some (ex,s1)->dK K h w.heap σ a.tmps->a.tmps.size=ntm->
   (∀K1 a1 w1,jC L K h w.heap σ a.tmps K1 s1.2 w1.heap s1.1 a1.tmps->(a1.defers,(w1.os,w1.tape),w1.output)=(a.defers,(w.os,w.tape),w.output)->Q (Ar ex) a1 w1)->Code.roundsIn (qO ρ) dn P c0 Q m a w:=by
   intro m
   induction m with
   |zero=>intro K h w σ a ev;simp[dO]at ev
   |succ m ihm=>
    intro K h w σ a ev g hn hq
    simp only[dO,aA]at ev
    obtain⟨⟨e0,s0⟩,hs0,ev⟩:=ev
    rw[roundsIn_succ]
    refine iha hL hs0 g hn fun K1 a1 w1 S hd=>?_
    cases e0 with
    |normal=>
     simp only[Ar,Exit.then]
     exact ihm ev S.2.1 (by rw[S.2.2.1];exact hn) fun K2 a2 w2 S2 hd2=>hq K2 a2 w2 (S.trans S2) (hd2.trans hd)
    |exit i=>
     simp only[aD,aM]at ev
     obtain⟨rfl,rfl⟩:=ev
     exact hq K1 a1 w1 S hd
    |ret=>
     simp only[aD,aM]at ev
     obtain⟨rfl,rfl⟩:=ev
     exact hq K1 a1 w1 S hd
  exact key n ev g hn hq
 |exit=>
  intro L ρ dn K h w σ a ex s1 Q hL ev g hn hq
  simp only[fB,aD,aM]at ev
  obtain⟨rfl,rfl⟩:=ev
  exact wpIn_exit (hq K a w (.refl g) rfl)
 |ret=>
  intro L ρ dn K h w σ a ex s1 Q hL ev g hn hq
  simp only[fB,aD,aM]at ev
  obtain⟨rfl,rfl⟩:=ev
  exact wpIn_ret (hq K a w (.refl g) rfl)
 |bad=>
  intro L ρ dn K h w σ a ex s1 Q hL ev g hn hq
  simp[fB]at ev
end
inductive vA (P:Program):List ResultVar->List RV->Prop
 |nil:vA P [] []
 |tmp {t r r'} (ht:t<lK) (h:vA P r r'):vA P (.tmp t::r) (.tmp t::r')
 |cell {t ty n r r'} (ht:t<lK) (hk:Au P ty n) (h:vA P r r'):vA P (.cell t ty::r) (.cell t n::r')
def Yg (P:Program) (f:Nat) (p:Rm):Prop:=Yx P f/\∀(args:List IV) (h:aN) (r:IV×aN),Oz p args h=some r->∀(K:Kx) (w:World) (args':Array Value),qN K h w.heap->dE K w.heap h args args'.toList->
    Calls P f args' w fun e w'=>∃v K1,e = .returned v/\((w'.os,w'.tape),w'.output)=((w.os,w.tape),w.output)/\oF K h w.heap (own K h) K1 r.2 w'.heap (own K1 r.2)/\qN K1 r.2 w'.heap/\bS K1 w'.heap r.2 r.1 v
def Hy (p:Rm):mO:=⟨3,[.tmp qU],.prim p⟩
def Ri (P:Program) (opn:Nat->Bool) (f:Nat) (sf:mO):Prop:=Yx P f/\∀(call:Nat->List IV->aN->Option (IV×aN)),qH P call->∀(n:Nat) (args:List IV) (h:aN) (r:IV×aN),
    ((start sf args).bind fun σ=>(fB call opn (fun g s=>dO g n s) sf.body (σ,h)).bind fun r=>jU sf r)=some r->∀(K:Kx) (w:World) (args':Array Value),qN K h w.heap->dE K w.heap h args args'.toList->
    Calls P f args' w fun e w'=>∃v K1,e = .returned v/\((w'.os,w'.tape),w'.output)=((w.os,w.tape),w.output)/\oF K h w.heap (own K h) K1 r.2 w'.heap (own K1 r.2)/\qN K1 r.2 w'.heap/\bS K1 w'.heap r.2 r.1 v
structure cO (P:Program) (opn:Nat->Bool) (f:Nat) (sf:mO):Prop where
 out : (∃ fn c, P.funcs[f]? = some fn /\ (fn.name == "runtime.NumGoroutine") = false /\ fn.body = some c /\ iT P opn fn.ntmps c sf.body /\ vA P fn.results.toList sf.res /\ sf.np ≤ fn.ntmps) \/
  (∃p,sf=Hy p/\Yg P f p)\/Ri P opn f sf
def yD (a:Array Value):ResultVar->Sem Value
 |.tmp t=>pure (a.getD t undef)
 |.cell c t=>do loadVar t (<-asAddr (a.getD c undef))
theorem yC (fn:Func) (a:Array Value):results fn a=(do
 let vs<-fn.results.mapM (yD a)
 pure (if h:vs.size=1 then vs[0] else .tuple vs)):=rfl
theorem Jv {P:Program} {K:Kx} {h:aN} {w:World} {σ:Fr} {a:Array Value} (g:dK K h w.heap σ a) {rs:List ResultVar} {rs':List RV} (l:vA P rs rs'):∀{vs:List IV},dM (iM (σ,h)) rs'=some vs->
 ∃xs:List Value,(rs.mapM (yD a)).run P w = .ok xs w/\dE K w.heap h vs xs:=by
 induction l with
 |nil=>intro vs e;simp only[dM,aD]at e;subst e;exact⟨[],by simp,.nil⟩
 |tmp ht hr ih=>
  rename_i t r r'
  intro vs e
  simp only[dM,aA]at e
  obtain⟨v,hv,ys,hys,e⟩:=e
  injection e with e;subst e
  obtain⟨xs,h1,h2⟩:=ih hys
  have r1:=cD (ac:=⟨a,[]⟩) (.tmp t ht) g.fr hv
  refine⟨a.getD t undef::xs,?_,.cons r1 h2⟩
  simp only[tL,yD,aO,aU,aH,h1]
 |cell ht hk hr ih=>
  rename_i t ty n r r'
  intro vs e
  simp only[dM,aA]at e
  obtain⟨v,hv,ys,hys,e⟩:=e
  injection e with e;subst e
  obtain⟨xs,h1,h2⟩:=ih hys
  simp only[iM,aA]at hv
  obtain⟨sa,hsa,hv⟩:=hv
  have r1:=kQ (ac:=⟨a,[]⟩) (.tmp t ht) g.fr hsa
  have main:∀(m:Nat) (cs:List IV),eS (σ,h) sa m=some cs->m=n.getD 1->∃us:List Value,dE K w.heap h cs us/\(∀c∈cs,c.one=true)/\
   (yD a (.cell t ty)).run P w = .ok (Ym n us) w:=by
   intro m cs hcs hm
   obtain⟨h1,h2,ad,us,h3,h4,h5,h6⟩:=wT g.inv g.fr r1 hcs
   refine⟨us,h5,h2,?_⟩
   have:=wM (P:=P) hk h6 h4 (by rw[h5.1,h1,hm])
   have h3':a.getD t undef = .pointer (some ad):=h3
   simp[yD,h3',asAddr,this]
  cases n with
  |none=>
   simp only[aA]at hv
   obtain⟨cs,hcs,hv⟩:=hv
   obtain⟨us,q1,q2,q3⟩:=main 1 cs hcs rfl
   split at hv
   ·rename_i c
    injection hv with hv;subst hv
    obtain⟨x,rr,rfl,hx,hrr⟩:=q1.cons_inv
    rw[hrr.nil_inv]at q3
    refine⟨x::xs,?_,.cons hx h2⟩
    simp only[tL,aO,q3,aU,aH,h1,Ym,List.headD]
   ·cases hv
  |some n=>
   simp only[aA]at hv
   obtain⟨cs,hcs,hv⟩:=hv
   obtain⟨us,q1,q2,q3⟩:=main n cs hcs rfl
   injection hv with hv;subst hv
   refine⟨.agg us.toArray::xs,?_,.cons (bS.agg_iff.2 ⟨q2,us,rfl,q1⟩) h2⟩
   simp only[tL,aO,q3,aU,aH,h1,Ym]
theorem sY (args:List IV):∀(i t:Nat),(fA i args).get t=if i≤t then (args[t-i]?).map SV.val else none:=by
 induction args with
 |nil=>intro i t;simp[fA,Fr.get]
 |cons v args ih=>
  intro i t
  simp only[fA,Fr.get]
  by_cases h:i=t
  ·subst h;simp
  ·rw[if_neg h,ih]
   by_cases h2:i+1≤t
   ·rw[if_pos h2,if_pos (by omega),show t-i=(t-(i+1))+1 by omega];simp
   ·rw[if_neg h2,if_neg (by omega)]
theorem Ui {P:Program} {prog:Nat->Option mO} {opn:Nat->Bool} (hp:∀f sf,prog f=some sf->cO P opn f sf):∀n,qH P (fK prog opn n):=by
 intro n
 induction n with
 |zero=>intro f args h r e;simp[fK]at e
 |succ n ih=>
  intro f args h r e
  simp only[fK]at e
  obtain⟨sf,hsf,e⟩:=aA.1 e
  by_cases hsem:Ri P opn f sf
  ·exact⟨hsem.1,hsem.2 _ ih n args h r e⟩
  simp only[aA]at e
  obtain⟨σ0,hσ0,⟨ex,s1⟩,hs1,e⟩:=e
  simp only[start]at hσ0
  split at hσ0
  case isFalse=>cases hσ0
  rename_i hnp
  injection hσ0 with hσ0;subst hσ0
  rcases (hp f sf hsf).out with ⟨fn,c,hf,hname,hb,hl,hres,hsz⟩|⟨p,rfl,hp1,hp2⟩|hs3
  case inr.inr=>exact absurd hs3 hsem
  case inr.inl=>
   refine⟨hp1,hp2 args h r ?_⟩
   simp only[Hy,fB,aA,aD,aM]at hs1
   obtain⟨as,ha,⟨v,h1⟩,hr,rfl,rfl⟩:=hs1
   simp only[jU,Hy,dM,iM,SX.val,SX.ev,Fr.put,Fr.get,if_true,aB,aD,gK]at e
   subst e
   simp only[jK,dM,aA,aD]at ha
   obtain⟨a0,h0,as1,⟨a1,h1',as2,⟨a2,h2',as3,rfl,rfl⟩,rfl⟩,rfl⟩:=ha
   have hv:∀{t:Nat} {u:IV},SX.val (fA 0 args) (.t t)=some u->args[t]? = some u:=fun {t u} hh=>by
    simp only[SX.val,SX.ev]at hh
    rw[sY,if_pos (fO _),hJ]at hh
    cases hx:args[t]? with
    |none=>simp[hx]at hh
    |some x=>simp[hx]at hh;rw[hh]
   have g0:=hv h0;have g1:=hv h1';have g2:=hv h2'
   have hl:args.length≤3:=hnp
   match args,hl,g0,g1,g2 with
   |[x,y,z],_,g0,g1,g2=>simp at g0 g1 g2;subst g0;subst g1;subst g2;exact hr
  refine⟨⟨fn,hf,hname,by simp[hb]⟩,fun K w args' iv hargs=>?_⟩
  have hlen:args'.size=args.length:=by simpa using hargs.1
  have hfit:args'.size≤fn.ntmps:=by omega
  ·refine calls_of_wp hf hb ?_
   have hno:∀(t:Nat) (v:SV),(fA 0 args).get t=some v->∃x,args[t]? = some x/\v = .val x:=fun t v e=>by
    rw[sY,if_pos (fO _),hJ]at e
    cases hx:args[t]? with
    |none=>simp[hx]at e
    |some x=>simp[hx]at e;exact⟨x,rfl,e.symm⟩
   have hnb:∀B,¬oN (fA 0 args) (args'++Array.replicate (fn.ntmps-args'.size) undef) B:=by
    rintro B ⟨t,cs,e1,_⟩
    obtain⟨x,_,e2⟩:=hno t _ e1
    cases e2
   have g:dK K h w.heap (fA 0 args) (args'++Array.replicate (fn.ntmps-args'.size) undef):=by
    refine⟨iv,⟨fun t v e _=>?_,fun t cs e=>?_,fun t s o e=>?_,fun s t cs cs' B e=>?_⟩⟩
    ·obtain⟨x,e1,e2⟩:=hno t _ e
     injection e2 with e2;subst e2
     obtain⟨y,h1,h2⟩:=hargs.get e1
     refine⟨y,?_,h2⟩
     have hlt:=(aJ.1 e1).1
     rw[jA (by omega)]
     simpa using h1
    ·obtain⟨x,_,e2⟩:=hno t _ e;cases e2
    ·obtain⟨x,_,e2⟩:=hno t _ e;cases e2
    ·obtain⟨x,_,e2⟩:=hno s _ e;cases e2
   refine wpIn_wide.1 (Qy (L:=fun _=>False) (ρ:=none) (dn:=0) ih hl (fun _ h=>h.elim) hs1 g (by simp;omega) fun K1 a1 w1 S hd=>?_)
   simp only[jU]at e
   have fin:∀vs:List IV,dM (iM s1) sf.res=some vs->r=(gK vs,s1.2)->a1.defers=[]/\∃v,(results fn a1.tmps).run P w1 = .ok v w1/\∃v' K1,Ending.returned v = .returned v'/\((w1.os,w1.tape),w1.output)=((w.os,w.tape),w.output)/\oF K h w.heap (own K h) K1 r.2 w1.heap (own K1 r.2)/\qN K1 r.2 w1.heap/\bS K1 w1.heap r.2 r.1 v':=by
    rintro vs hvs rfl
    have hd1:a1.defers=[]:=by injection hd
    have hio:((w1.os,w1.tape),w1.output)=((w.os,w.tape),w.output):=by injection hd
    refine⟨hd1,?_⟩
    obtain⟨xs,h1,h2⟩:=Jv S.2.1 hres hvs
    have hrun:(results fn a1.tmps).run P w1 = .ok (if h:xs.toArray.size=1 then xs.toArray[0] else .tuple xs.toArray) w1:=by
     rw[yC,Array.mapM_eq_mapM_toList]
     simp only[aO,Sem.run_map,h1,aH,aU]
    refine⟨_,hrun,_,K1,rfl,hio,⟨S.1.len,S.1.gen,S.1.st,S.1.st',S.1.size,fun B hB ho=>S.1.fr B hB fun hm=>hm.elim ho (hnb B),fun B hB ho=>(S.1.mn B hB (.inl ho)).elim id fun hb=>absurd hb (hnb B),S.1.nst⟩,S.2.1.inv,?_⟩
    match vs,xs,h2 with
    |[],[],h2=>exact vK
    |[v],[x],h2=>exact h2.2 0 (by simp) (by simp)
    |v::v'::vs,x::x'::xs,h2=>exact bS.tup_iff.2 ⟨_,rfl,h2⟩
    |[],_::_,h2=>simp[dE]at h2
    |_::_,[],h2=>simp[dE]at h2
    |[v],x::x'::xs,h2=>simp[dE]at h2
    |v::v'::vs,[x],h2=>simp[dE]at h2
   cases ex with
   |exit i=>cases e
   |normal=>
    simp only[aA]at e
    obtain⟨vs,hvs,e⟩:=e
    injection e with e
    exact fin vs hvs e.symm
   |ret=>
    simp only[aA]at e
    obtain⟨vs,hvs,e⟩:=e
    injection e with e
    exact fin vs hvs e.symm
end Go.Ideal
namespace Go.Ideal
def SX.slots:SX->List Nat
 |.t n=>[n]
 |_=>[]
def qV:Option SX->List Nat
 |some x=>x.slots
 |none=>[]
def gQ.slots:gQ->List Nat
 |.mov x=>x.slots
 |.pick c a b=>c.slots++a.slots++b.slots
 |.alloc _ _ _=>[]
 |.box _ x=>x.slots
 |.boxA x=>x.slots
 |.build _ ps=>ps.flatMap fun p=>p.2.2.slots
 |.bsl _ _ _ _ ps=>ps.flatMap fun p=>p.2.slots
 |.load _ x=>x.slots
 |.store _ a x=>a.slots++x.slots
 |.nilc x=>x.slots
 |.bin _ x y=>x.slots++y.slots
 |.eq _ _ x y=>x.slots++y.slots
 |.un _ x=>x.slots
 |.cvI _ x=>x.slots
 |.cvSB _ x=>x.slots
 |.cvBS x=>x.slots
 |.cvLL x=>x.slots
 |.cvIS x=>x.slots
 |.cvSS x=>x.slots
 |.mkI _ x=>x.slots
 |.mkF _ a b=>a.flatMap SX.slots++b.flatMap SX.slots
 |.mks _ _ _ l c=>l.slots++c.slots
 |.slS x lo hi=>x.slots++qV lo++qV hi
 |.slL _ x lo hi m=>x.slots++qV lo++qV hi++qV m
 |.slA _ _ x lo hi=>x.slots++qV lo++qV hi
 |.fadr _ x=>x.slots
 |.fld _ _ x=>x.slots
 |.iadr _ x i=>x.slots++i.slots
 |.iadrA _ _ x i=>x.slots++i.slots
 |.idxS x i=>x.slots++i.slots
 |.idxA _ _ _ x i=>x.slots++i.slots
 |.ext x _=>x.slots
 |.call _ args=>args.flatMap SX.slots
 |.callc _ args=>args.flatMap SX.slots
 |.callv f args=>f.slots++args.flatMap SX.slots
 |.callm _ x args=>x.slots++args.flatMap SX.slots
 |.asrt _ _ _ _ x=>x.slots
 |.app _ _ x y=>x.slots++y.slots
 |.cpy _ x y=>x.slots++y.slots
 |.clr _ _ x=>x.slots
 |.appz _ _ _ x n=>x.slots++n.slots
 |.len _ x=>x.slots
 |.lenA _=>[]
 |.cap x=>x.slots
 |.mn x y=>x.slots++y.slots
 |.mx x y=>x.slots++y.slots
 |.range x=>x.slots
 |.next x=>x.slots
 |.bad=>[]
def cH.slots (it:cH):List Nat:=it.op.slots++(match it.g with|some (t,_)=>[t]|none=>[])
def lN (σ F:Fr) (t:Nat):Prop:=F.get t = σ.get t\/(∃c c',σ.get t=some (.box c)/\F.get t=some (.box c'))
theorem iO {σ F:Fr} {x:SX} (h:∀t∈x.slots,lN σ F t):x.ev F=x.ev σ:=by
 cases x with
 |t n=>
  rcases h n (by simp[SX.slots])with h|⟨c,c',h1,h2⟩
  ·simp only[SX.ev,h]
  ·simp only[SX.ev,h1,h2]
 |c v=>rfl
 |f i=>rfl
theorem bJ {σ F:Fr} {x:SX} (h:∀t∈x.slots,lN σ F t):x.val F=x.val σ:=by simp only[SX.val,iO h]
theorem nV {σ F:Fr} {xs:List SX} (h:∀t∈xs.flatMap SX.slots,lN σ F t):jK F xs=jK σ xs:=by
 induction xs with
 |nil=>rfl
 |cons x xs ih=>
  have h1:=bJ (σ:=σ) (F:=F) (x:=x) fun t ht=>h t (by simp[ht])
  have h2:=ih fun t ht=>h t (by simp only[eG,aE];exact .inr ht)
  simp only[jK,dM]at h2 |-
  rw[h1,h2]
theorem Gm {σ F:Fr} {ps:List (Nat×Nat×SX)}:∀{cs:List IV},(∀t∈ps.flatMap (fun p=>p.2.2.slots),lN σ F t)->qJ F cs ps=qJ σ cs ps:=by
 induction ps with
 |nil=>intro cs _;rfl
 |cons p ps ih=>
  intro cs h
  obtain⟨off,n,x⟩:=p
  have h1:=bJ (σ:=σ) (F:=F) (x:=x) fun t ht=>h t (by simp[ht])
  simp only[qJ,h1]
  congr 1;funext v;congr 1;funext vs
  split
  ·exact ih fun t ht=>h t (by simp only[eG,aE];exact .inr ht)
  ·rfl
theorem Gl {σ F:Fr} {sz:Nat} {ps:List (Nat×SX)}:∀{es:List (List IV)},(∀t∈ps.flatMap (fun p=>p.2.slots),lN σ F t)->lD F sz es ps=lD σ sz es ps:=by
 induction ps with
 |nil=>intro cs _;rfl
 |cons p ps ih=>
  intro cs h
  obtain⟨i,x⟩:=p
  have h1:=bJ (σ:=σ) (F:=F) (x:=x) fun t ht=>h t (by simp[ht])
  simp only[lD,h1]
  congr 1;funext v;congr 1;funext vs
  split
  ·exact ih fun t ht=>h t (by simp only[eG,aE];exact .inr ht)
  ·rfl
theorem jZ {σ F:Fr} {x:Option SX} {d:Nat} (h:∀t∈qV x,lN σ F t):fQ F x d=fQ σ x d:=by
 cases x with
 |none=>rfl
 |some x=>simp only[fQ,bJ h]
def gQ.quiet (opn:Nat->Bool):gQ->Bool
 |.alloc loc _ _=>loc
 |.box loc _=>loc
 |.boxA _=>false
 |.bsl own _ _ _ _=>!own
 |.store ..=>false
 |.cvSB own _=>!own
 |.cvLL _=>false
 |.mks ..=>false
 |.call f _=>!opn f
 |.callv ..=>false
 |.callm ..=>false
 |.app ..=>false
 |.cpy ..=>false
 |.clr ..=>false
 |.appz ..=>false
 |.next _=>false
 |_=>true
def gQ.deaf:gQ->Bool
 |.mov _=>true
 |.pick ..=>true
 |.alloc loc _ _=>loc
 |.box loc _=>loc
 |.build ..=>true
 |.bsl own _ _ _ _=>!own
 |.nilc _=>true
 |.bin ..=>true
 |.eq ..=>true
 |.un ..=>true
 |.cvI ..=>true
 |.cvSB own _=>!own
 |.cvIS _=>true
 |.cvSS _=>true
 |.mkI ..=>true
 |.asrt ..=>true
 |.mkF ..=>true
 |.slS ..=>true
 |.fadr ..=>true
 |.fld ..=>true
 |.idxS ..=>true
 |.idxA ..=>true
 |.ext ..=>true
 |.len ..=>true
 |.lenA _=>true
 |.cap _=>true
 |.mn ..=>true
 |.mx ..=>true
 |.range _=>true
 |_=>false
section
variable {call:Nat->List IV->aN->Option (IV×aN)} {opn:Nat->Bool}
theorem uP {f:Nat} {l:List IV} {h:aN} {r:IV×aN} (ho:opn f=false) (e:iX call opn f l h=some r):r.2=h:=by
 simp only[iX,ho,aR,if_false]at e
 split at e
 ·simp only[aA]at e
  obtain⟨_,_,_,_,_,_,e⟩:=e
  split at e
  ·cases e
  ·injection e with e;subst e;rfl
 ·simp only[aA]at e
  obtain⟨_,_,_,_,e⟩:=e
  injection e with e;subst e;rfl
theorem kW {d:Option Nat} {o:gQ} (hq:o.quiet opn=true) {s:St} {sv:SV} {s1:St} (e:aT call opn d o s=some (sv,s1)):s1=s:=by
 cases o<;>simp only[gQ.quiet]at hq<;>try (cases hq;done)
 case call f args=>
  simp only[aT,aA]at e
  obtain⟨l,_,r,hr,e⟩:=e
  injection e with e;injection e with _ e
  rw[<-e,uP (by simpa using hq) hr]
 case callc f args=>
  simp only[aT,aA]at e
  obtain⟨l,_,r,hr,e⟩:=e
  injection e with e;injection e with _ e
  rw[<-e,uP rfl hr]
 all_goals
  simp only[aT]at e
  (repeat' first
    |(injection e with e;injection e with _ e;exact e.symm)
    |(cases e;done)
    |(obtain⟨_,_,e⟩:=e)
    |(simp only[aA]at e)
    |split at e
    |(simp_all;done))
theorem kR {d:Option Nat} {o:gQ} {σ F:Fr} {h:aN} {sv:SV} {s1:St} (hs:∀t∈o.slots,lN σ F t)
 (hb:o.deaf=false->∀t∈o.slots,∀s off c,(SX.t t).ev F=some (.lptr s off)->σ.get s=some (.box c)->F.get s=some (.box c)) (hd:∀t,d=some t->bF F t=true)
 (e:aT call opn d o (σ,h)=some (sv,s1)):∃F1,aT call opn d o (F,h)=some (sv,(F1,s1.2))/\((s1.1 = σ/\F1=F)\/∃s c c0,σ.get s=some (.box c0)/\F.get s=some (.box c0)/\s1.1 = σ.put s (.box c)/\F1=F.put s (.box c)):=by
 have hcell:o.deaf=false->∀(x:SX) (sa:SV) (n:Nat) (cs:List IV),(∀t∈x.slots,t∈o.slots)->x.ev σ = some sa->eS (σ,h) sa n=some cs->eS (F,h) sa n=some cs:=by
  intro hdf x sa n cs hx hsa hcs
  cases sa with
  |val v=>cases v<;>exact hcs
  |box c=>exact hcs
  |lptr s off=>
   cases x with
   |t t=>
    have hev:(SX.t t).ev F=some (.lptr s off):=by rw[iO (σ:=σ) fun u hu=>hs u (hx u hu)];exact hsa
    simp only[eS]at hcs |-
    split at hcs
    ·rename_i c hc
     rw[hb hdf t (hx t (by simp[SX.slots])) s off c hev hc]
     exact hcs
    ·cases hcs
   |c v=>simp[SX.ev]at hsa
   |f i=>simp[SX.ev]at hsa
 cases o
 case store n a x=>
  simp only[aT,aA]at e |-
  obtain⟨va,hva,v,hv,vs,hvs,e⟩:=e
  split at e
  ·rename_i hn
   simp only[aA]at e
   obtain⟨s0,hs0,e⟩:=e
   injection e with e;injection e with e1 e2;subst e1;subst e2
   have hva':a.ev F=some va:=by rw[iO (σ:=σ) fun t ht=>hs t (by simp[gQ.slots,ht])];exact hva
   have hv':x.val F=some v:=by rw[bJ (σ:=σ) fun t ht=>hs t (by simp[gQ.slots,ht])];exact hv
   have main:∃F1,storeAt (F,h) va vs=some (F1,s0.2)/\((s0.1 = σ/\F1=F)\/∃s c c0,σ.get s=some (.box c0)/\F.get s=some (.box c0)/\s0.1 = σ.put s (.box c)/\F1=F.put s (.box c)):=by
    cases va with
    |box c=>simp[storeAt]at hs0
    |val v=>
     cases v<;>simp only[storeAt]at hs0 |-<;>try (cases hs0;done)
     simp only[aA]at hs0 |-
     obtain⟨k,hk,ee,hee,e⟩:=hs0
     split at e
     ·rename_i hc
      injection e with e;subst e
      exact⟨F,⟨k,hk,ee,hee,by rw[if_pos hc]⟩,.inl ⟨rfl,rfl⟩⟩
     ·rename_i hc
      split at e
      ·rename_i hc2
       injection e with e;subst e
       exact⟨F,⟨k,hk,ee,hee,by rw[if_neg hc,if_pos hc2]⟩,.inl ⟨rfl,rfl⟩⟩
      ·cases e
    |lptr s off=>
     cases a with
     |t t=>
      simp only[storeAt]at hs0 |-
      split at hs0
      ·rename_i cs hcs
       have:=hb rfl t (by simp[gQ.slots,SX.slots]) s off cs hva' hcs
       rw[this]
       simp only
       split at hs0
       ·rename_i hc
        injection hs0 with hs0;subst hs0
        rw[if_pos hc]
        exact⟨_,rfl,.inr ⟨s,_,cs,hcs,this,rfl,rfl⟩⟩
       ·cases hs0
      ·cases hs0
     |c v=>simp[SX.ev]at hva
     |f i=>simp[SX.ev]at hva
   obtain⟨F1,h1,h2⟩:=main
   exact⟨F1,⟨va,hva',v,hv',vs,hvs,by rw[if_pos hn];simp only[aA];exact⟨_,h1,rfl⟩⟩,h2⟩
  ·cases e
 case alloc loc sz z=>
  cases loc with
  |true=>
   simp only[aT,if_true]at e |-
   split at e
   ·rename_i t ee
    split at e
    ·injection e with e;injection e with e1 e2;subst e1;subst e2
     exact⟨F,by rw[if_pos (hd t rfl)],.inl ⟨rfl,rfl⟩⟩
    ·cases e
   ·cases e
  |false=>
   simp only[aT,aR,if_false]at e |-
   split at e
   ·rename_i hc
    injection e with e;injection e with e1 e2;subst e1;subst e2
    exact⟨F,by rw[if_pos hc],.inl ⟨rfl,rfl⟩⟩
   ·cases e
 case box loc x=>
  have hx:=bJ (σ:=σ) (F:=F) (x:=x) hs
  cases loc with
  |true=>
   simp only[aT,if_true,aA,hx]at e |-
   obtain⟨v,hv,vs,hvs,e⟩:=e
   split at e
   ·rename_i t
    split at e
    ·injection e with e;injection e with e1 e2;subst e1;subst e2
     exact⟨F,⟨v,hv,vs,hvs,by rw[if_pos (hd t rfl)]⟩,.inl ⟨rfl,rfl⟩⟩
    ·cases e
   ·cases e
  |false=>
   simp only[aT,aR,if_false,aA,hx]at e |-
   obtain⟨v,hv,vs,hvs,e⟩:=e
   split at e
   ·rename_i hc
    injection e with e;injection e with e1 e2;subst e1;subst e2
    exact⟨F,⟨v,hv,vs,hvs,by rw[if_pos hc]⟩,.inl ⟨rfl,rfl⟩⟩
   ·cases e
 case range x=>
  have hx:=bJ (σ:=σ) (F:=F) (x:=x) hs
  simp only[aT,aA,hx]at e |-
  obtain⟨v,hv,e⟩:=e
  split at e
  ·rename_i b t
   split at e
   ·injection e with e;injection e with e1 e2;subst e1;subst e2
    refine⟨F,⟨_,hv,?_⟩,.inl ⟨rfl,rfl⟩⟩
    simp only
    rw[if_pos (hd _ rfl)]
   ·cases e
  ·cases e
 case next x=>
  simp only[aT]at e |-
  split at e
  ·rename_i t
   simp only[aA]at e
   obtain⟨r,hr,e⟩:=e
   have hg:=Bw hr
   have hev:(SX.t t).ev F=some (.lptr t 0):=by
    rw[iO (σ:=σ) (x:=.t t) fun u hu=>hs u hu]
    simp only[SX.ev,hg]
   have hF:=hb rfl t (by simp[gQ.slots,SX.slots]) t 0 _ hev hg
   have hr':Ig (F.get t)=some r:=by rw[hF,<-hg];exact hr
   simp only[hr',aB]
   split at e
   ·rename_i hc
    injection e with e;injection e with e1 e2;subst e1;subst e2
    exact⟨_,by rw[if_pos hc],.inr ⟨t,_,_,hg,hF,rfl,rfl⟩⟩
   ·rename_i hc
    injection e with e;injection e with e1 e2;subst e1;subst e2
    exact⟨F,by rw[if_neg hc],.inl ⟨rfl,rfl⟩⟩
  ·cases e
 case load n x=>
  have hx:=iO (σ:=σ) (F:=F) (x:=x) hs
  cases n with
  |none=>
   simp only[aT,aA,hx]at e |-
   obtain⟨va,hva,cs,hcs,e⟩:=e
   split at e
   ·injection e with e;injection e with e1 e2;subst e1;subst e2
    exact⟨F,⟨va,hva,_,hcell rfl x va 1 _ (fun t ht=>ht) hva hcs,rfl⟩,.inl ⟨rfl,rfl⟩⟩
   ·cases e
  |some n=>
   simp only[aT,aA,hx]at e |-
   obtain⟨va,hva,cs,hcs,e⟩:=e
   injection e with e;injection e with e1 e2;subst e1;subst e2
   exact⟨F,⟨va,hva,_,hcell rfl x va n _ (fun t ht=>ht) hva hcs,rfl⟩,.inl ⟨rfl,rfl⟩⟩
 case boxA x=>
  simp only[gQ.slots,aE]at hs
  simp only[aT]at e |-
  rw[bJ (σ:=σ) (F:=F) (x:=x) hs]
  (repeat' first
    |(cases e;done)
    |(injection e with e;injection e with e1 e2;subst e1;subst e2;exact⟨F,by simp_all,.inl ⟨rfl,rfl⟩⟩)
    |(simp only[aA]at e)
    |(obtain⟨_,_,e⟩:=e)
    |split at e)
 case un op x=>
  simp only[gQ.slots,aE]at hs
  simp only[aT]at e |-
  rw[bJ (σ:=σ) (F:=F) (x:=x) hs]
  (repeat' first
    |(cases e;done)
    |(injection e with e;injection e with e1 e2;subst e1;subst e2;exact⟨F,by simp_all,.inl ⟨rfl,rfl⟩⟩)
    |(simp only[aA]at e)
    |(obtain⟨_,_,e⟩:=e)
    |split at e)
 case cvI k x=>
  simp only[gQ.slots,aE]at hs
  simp only[aT]at e |-
  rw[bJ (σ:=σ) (F:=F) (x:=x) hs]
  (repeat' first
    |(cases e;done)
    |(injection e with e;injection e with e1 e2;subst e1;subst e2;exact⟨F,by simp_all,.inl ⟨rfl,rfl⟩⟩)
    |(simp only[aA]at e)
    |(obtain⟨_,_,e⟩:=e)
    |split at e)
 case cvSB own x=>
  simp only[gQ.slots,aE]at hs
  simp only[aT]at e |-
  rw[bJ (σ:=σ) (F:=F) (x:=x) hs]
  (repeat' first
    |(cases e;done)
    |(injection e with e;injection e with e1 e2;subst e1;subst e2;exact⟨F,by simp_all,.inl ⟨rfl,rfl⟩⟩)
    |(simp only[aA]at e)
    |(obtain⟨_,_,e⟩:=e)
    |split at e)
 case cvLL x=>
  simp only[gQ.slots,aE]at hs
  simp only[aT]at e |-
  rw[bJ (σ:=σ) (F:=F) (x:=x) hs]
  (repeat' first
    |(cases e;done)
    |(injection e with e;injection e with e1 e2;subst e1;subst e2;exact⟨F,by simp_all,.inl ⟨rfl,rfl⟩⟩)
    |(simp only[aA]at e)
    |(obtain⟨_,_,e⟩:=e)
    |split at e)
 case cvBS x=>
  simp only[gQ.slots,aE]at hs
  simp only[aT]at e |-
  rw[bJ (σ:=σ) (F:=F) (x:=x) hs]
  (repeat' first
    |(cases e;done)
    |(injection e with e;injection e with e1 e2;subst e1;subst e2;exact⟨F,by simp_all,.inl ⟨rfl,rfl⟩⟩)
    |(simp only[aA]at e)
    |(obtain⟨_,_,e⟩:=e)
    |split at e)
 case cvIS x=>
  simp only[gQ.slots,aE]at hs
  simp only[aT]at e |-
  rw[bJ (σ:=σ) (F:=F) (x:=x) hs]
  (repeat' first
    |(cases e;done)
    |(injection e with e;injection e with e1 e2;subst e1;subst e2;exact⟨F,by simp_all,.inl ⟨rfl,rfl⟩⟩)
    |(simp only[aA]at e)
    |(obtain⟨_,_,e⟩:=e)
    |split at e)
 case cvSS x=>
  simp only[gQ.slots,aE]at hs
  simp only[aT]at e |-
  rw[bJ (σ:=σ) (F:=F) (x:=x) hs]
  (repeat' first
    |(cases e;done)
    |(injection e with e;injection e with e1 e2;subst e1;subst e2;exact⟨F,by simp_all,.inl ⟨rfl,rfl⟩⟩)
    |(simp only[aA]at e)
    |(obtain⟨_,_,e⟩:=e)
    |split at e)
 case mkI t x=>
  simp only[gQ.slots,aE]at hs
  simp only[aT]at e |-
  rw[bJ (σ:=σ) (F:=F) (x:=x) hs]
  (repeat' first
    |(cases e;done)
    |(injection e with e;injection e with e1 e2;subst e1;subst e2;exact⟨F,by simp_all,.inl ⟨rfl,rfl⟩⟩)
    |(simp only[aA]at e)
    |(obtain⟨_,_,e⟩:=e)
    |split at e)
 case fld off n x=>
  simp only[gQ.slots,aE]at hs
  simp only[aT]at e |-
  rw[bJ (σ:=σ) (F:=F) (x:=x) hs]
  (repeat' first
    |(cases e;done)
    |(injection e with e;injection e with e1 e2;subst e1;subst e2;exact⟨F,by simp_all,.inl ⟨rfl,rfl⟩⟩)
    |(simp only[aA]at e)
    |(obtain⟨_,_,e⟩:=e)
    |split at e)
 case ext x i=>
  simp only[gQ.slots,aE]at hs
  simp only[aT]at e |-
  rw[bJ (σ:=σ) (F:=F) (x:=x) hs]
  (repeat' first
    |(cases e;done)
    |(injection e with e;injection e with e1 e2;subst e1;subst e2;exact⟨F,by simp_all,.inl ⟨rfl,rfl⟩⟩)
    |(simp only[aA]at e)
    |(obtain⟨_,_,e⟩:=e)
    |split at e)
 case len b x=>
  simp only[gQ.slots,aE]at hs
  simp only[aT]at e |-
  rw[bJ (σ:=σ) (F:=F) (x:=x) hs]
  (repeat' first
    |(cases e;done)
    |(injection e with e;injection e with e1 e2;subst e1;subst e2;exact⟨F,by simp_all,.inl ⟨rfl,rfl⟩⟩)
    |(simp only[aA]at e)
    |(obtain⟨_,_,e⟩:=e)
    |split at e)
 case cap x=>
  simp only[gQ.slots,aE]at hs
  simp only[aT]at e |-
  rw[bJ (σ:=σ) (F:=F) (x:=x) hs]
  (repeat' first
    |(cases e;done)
    |(injection e with e;injection e with e1 e2;subst e1;subst e2;exact⟨F,by simp_all,.inl ⟨rfl,rfl⟩⟩)
    |(simp only[aA]at e)
    |(obtain⟨_,_,e⟩:=e)
    |split at e)
 case bad=>simp[aT]at e
 case mov x=>
  simp only[gQ.slots,aE]at hs
  simp only[aT]at e |-
  rw[iO (σ:=σ) (F:=F) (x:=x) hs]
  (repeat' first
    |(cases e;done)
    |(injection e with e;injection e with e1 e2;subst e1;subst e2;exact⟨F,by simp_all,.inl ⟨rfl,rfl⟩⟩)
    |(simp only[aA]at e)
    |(obtain⟨_,_,e⟩:=e)
    |split at e)
 case nilc x=>
  simp only[gQ.slots,aE]at hs
  simp only[aT]at e |-
  rw[iO (σ:=σ) (F:=F) (x:=x) hs]
  (repeat' first
    |(cases e;done)
    |(injection e with e;injection e with e1 e2;subst e1;subst e2;exact⟨F,by simp_all,.inl ⟨rfl,rfl⟩⟩)
    |(simp only[aA]at e)
    |(obtain⟨_,_,e⟩:=e)
    |split at e)
 case fadr off x=>
  simp only[gQ.slots,aE]at hs
  simp only[aT]at e |-
  rw[iO (σ:=σ) (F:=F) (x:=x) hs]
  (repeat' first
    |(cases e;done)
    |(injection e with e;injection e with e1 e2;subst e1;subst e2;exact⟨F,by simp_all,.inl ⟨rfl,rfl⟩⟩)
    |(simp only[aA]at e)
    |(obtain⟨_,_,e⟩:=e)
    |split at e)
 case bin op x y=>
  simp only[gQ.slots,aE]at hs
  simp only[aT]at e |-
  rw[bJ (σ:=σ) (F:=F) (x:=x) (fun t ht=>hs t (.inl ht)),bJ (σ:=σ) (F:=F) (x:=y) (fun t ht=>hs t (.inr ht))]
  (repeat' first
    |(cases e;done)
    |(injection e with e;injection e with e1 e2;subst e1;subst e2;exact⟨F,by simp_all,.inl ⟨rfl,rfl⟩⟩)
    |(simp only[aA]at e)
    |(obtain⟨_,_,e⟩:=e)
    |split at e)
 case mks sz z bytes x y=>
  simp only[gQ.slots,aE]at hs
  simp only[aT]at e |-
  rw[bJ (σ:=σ) (F:=F) (x:=x) (fun t ht=>hs t (.inl ht)),bJ (σ:=σ) (F:=F) (x:=y) (fun t ht=>hs t (.inr ht))]
  (repeat' first
    |(cases e;done)
    |(injection e with e;injection e with e1 e2;subst e1;subst e2;exact⟨F,by simp_all,.inl ⟨rfl,rfl⟩⟩)
    |(simp only[aA]at e)
    |(obtain⟨_,_,e⟩:=e)
    |split at e)
 case iadr sz x y=>
  simp only[gQ.slots,aE]at hs
  simp only[aT]at e |-
  rw[bJ (σ:=σ) (F:=F) (x:=x) (fun t ht=>hs t (.inl ht)),bJ (σ:=σ) (F:=F) (x:=y) (fun t ht=>hs t (.inr ht))]
  (repeat' first
    |(cases e;done)
    |(injection e with e;injection e with e1 e2;subst e1;subst e2;exact⟨F,by simp_all,.inl ⟨rfl,rfl⟩⟩)
    |(simp only[aA]at e)
    |(obtain⟨_,_,e⟩:=e)
    |split at e)
 case idxS x y=>
  simp only[gQ.slots,aE]at hs
  simp only[aT]at e |-
  rw[bJ (σ:=σ) (F:=F) (x:=x) (fun t ht=>hs t (.inl ht)),bJ (σ:=σ) (F:=F) (x:=y) (fun t ht=>hs t (.inr ht))]
  (repeat' first
    |(cases e;done)
    |(injection e with e;injection e with e1 e2;subst e1;subst e2;exact⟨F,by simp_all,.inl ⟨rfl,rfl⟩⟩)
    |(simp only[aA]at e)
    |(obtain⟨_,_,e⟩:=e)
    |split at e)
 case idxA n sz ag x y=>
  simp only[gQ.slots,aE]at hs
  simp only[aT]at e |-
  rw[bJ (σ:=σ) (F:=F) (x:=x) (fun t ht=>hs t (.inl ht)),bJ (σ:=σ) (F:=F) (x:=y) (fun t ht=>hs t (.inr ht))]
  (repeat' first
    |(cases e;done)
    |(injection e with e;injection e with e1 e2;subst e1;subst e2;exact⟨F,by simp_all,.inl ⟨rfl,rfl⟩⟩)
    |(simp only[aA]at e)
    |(obtain⟨_,_,e⟩:=e)
    |split at e)
 case app sz bytes x y=>
  simp only[gQ.slots,aE]at hs
  simp only[aT]at e |-
  rw[bJ (σ:=σ) (F:=F) (x:=x) (fun t ht=>hs t (.inl ht)),bJ (σ:=σ) (F:=F) (x:=y) (fun t ht=>hs t (.inr ht))]
  (repeat' first
    |(cases e;done)
    |(injection e with e;injection e with e1 e2;subst e1;subst e2;exact⟨F,by simp_all,.inl ⟨rfl,rfl⟩⟩)
    |(simp only[aA]at e)
    |(obtain⟨_,_,e⟩:=e)
    |split at e)
 case cpy sz x y=>
  simp only[gQ.slots,aE]at hs
  simp only[aT]at e |-
  rw[bJ (σ:=σ) (F:=F) (x:=x) (fun t ht=>hs t (.inl ht)),bJ (σ:=σ) (F:=F) (x:=y) (fun t ht=>hs t (.inr ht))]
  (repeat' first
    |(cases e;done)
    |(injection e with e;injection e with e1 e2;subst e1;subst e2;exact⟨F,by simp_all,.inl ⟨rfl,rfl⟩⟩)
    |(simp only[aA]at e)
    |(obtain⟨_,_,e⟩:=e)
    |split at e)
 case appz sz bytes z x n=>
  simp only[gQ.slots,aE]at hs
  simp only[aT]at e |-
  rw[bJ (σ:=σ) (F:=F) (x:=x) (fun t ht=>hs t (.inl ht)),bJ (σ:=σ) (F:=F) (x:=n) (fun t ht=>hs t (.inr ht))]
  (repeat' first
    |(cases e;done)
    |(injection e with e;injection e with e1 e2;subst e1;subst e2;exact⟨F,by simp_all,.inl ⟨rfl,rfl⟩⟩)
    |(simp only[aA]at e)
    |(obtain⟨_,_,e⟩:=e)
    |split at e)
 case clr sz z x=>
  simp only[gQ.slots]at hs
  simp only[aT]at e |-
  rw[bJ (σ:=σ) (F:=F) (x:=x) (fun t ht=>hs t ht)]
  (repeat' first
    |(cases e;done)
    |(injection e with e;injection e with e1 e2;subst e1;subst e2;exact⟨F,by simp_all,.inl ⟨rfl,rfl⟩⟩)
    |(simp only[aA]at e)
    |(obtain⟨_,_,e⟩:=e)
    |split at e)
 case mn x y=>
  simp only[gQ.slots,aE]at hs
  simp only[aT]at e |-
  rw[bJ (σ:=σ) (F:=F) (x:=x) (fun t ht=>hs t (.inl ht)),bJ (σ:=σ) (F:=F) (x:=y) (fun t ht=>hs t (.inr ht))]
  (repeat' first
    |(cases e;done)
    |(injection e with e;injection e with e1 e2;subst e1;subst e2;exact⟨F,by simp_all,.inl ⟨rfl,rfl⟩⟩)
    |(simp only[aA]at e)
    |(obtain⟨_,_,e⟩:=e)
    |split at e)
 case mx x y=>
  simp only[gQ.slots,aE]at hs
  simp only[aT]at e |-
  rw[bJ (σ:=σ) (F:=F) (x:=x) (fun t ht=>hs t (.inl ht)),bJ (σ:=σ) (F:=F) (x:=y) (fun t ht=>hs t (.inr ht))]
  (repeat' first
    |(cases e;done)
    |(injection e with e;injection e with e1 e2;subst e1;subst e2;exact⟨F,by simp_all,.inl ⟨rfl,rfl⟩⟩)
    |(simp only[aA]at e)
    |(obtain⟨_,_,e⟩:=e)
    |split at e)
 case eq neg t x y=>
  simp only[gQ.slots,aE]at hs
  simp only[aT]at e |-
  rw[iO (σ:=σ) (F:=F) (x:=x) (fun t ht=>hs t (.inl ht)),iO (σ:=σ) (F:=F) (x:=y) (fun t ht=>hs t (.inr ht))]
  (repeat' first
    |(cases e;done)
    |(injection e with e;injection e with e1 e2;subst e1;subst e2;exact⟨F,by simp_all,.inl ⟨rfl,rfl⟩⟩)
    |(simp only[aA]at e)
    |(obtain⟨_,_,e⟩:=e)
    |split at e)
 case iadrA n sz x y=>
  simp only[gQ.slots,aE]at hs
  simp only[aT]at e |-
  rw[iO (σ:=σ) (F:=F) (x:=x) (fun t ht=>hs t (.inl ht)),bJ (σ:=σ) (F:=F) (x:=y) (fun t ht=>hs t (.inr ht))]
  (repeat' first
    |(cases e;done)
    |(injection e with e;injection e with e1 e2;subst e1;subst e2;exact⟨F,by first|(simp_all;done)|(simp_all;intros;simp_all;omega),.inl ⟨rfl,rfl⟩⟩)
    |(simp only[aA]at e)
    |(obtain⟨_,_,e⟩:=e)
    |split at e)
 case pick c a b=>
  simp only[gQ.slots,aE]at hs
  simp only[aT]at e |-
  rw[bJ (σ:=σ) (F:=F) (x:=c) (fun t ht=>hs t (.inl (.inl ht))),bJ (σ:=σ) (F:=F) (x:=a) (fun t ht=>hs t (.inl (.inr ht))),bJ (σ:=σ) (F:=F) (x:=b) (fun t ht=>hs t (.inr ht))]
  (repeat' first
    |(cases e;done)
    |(injection e with e;injection e with e1 e2;subst e1;subst e2;exact⟨F,by simp_all,.inl ⟨rfl,rfl⟩⟩)
    |(simp only[aA]at e)
    |(obtain⟨_,_,e⟩:=e)
    |split at e)
 case slS x lo hi=>
  simp only[gQ.slots,aE]at hs
  simp only[aT]at e |-
  rw[bJ (σ:=σ) (F:=F) (x:=x) (fun t ht=>hs t (.inl (.inl ht)))]
  simp only[show ∀d,fQ F lo d=fQ σ lo d from fun d=>jZ (fun t ht=>hs t (.inl (.inr ht))),show ∀d,fQ F hi d=fQ σ hi d from fun d=>jZ (fun t ht=>hs t (.inr ht))]
  (repeat' first
    |(cases e;done)
    |(injection e with e;injection e with e1 e2;subst e1;subst e2;exact⟨F,by simp_all,.inl ⟨rfl,rfl⟩⟩)
    |(simp only[aA]at e)
    |(obtain⟨_,_,e⟩:=e)
    |split at e)
 case slA n sz x lo hi=>
  simp only[gQ.slots,aE]at hs
  simp only[aT]at e |-
  rw[iO (σ:=σ) (F:=F) (x:=x) (fun t ht=>hs t (.inl (.inl ht)))]
  simp only[show ∀d,fQ F lo d=fQ σ lo d from fun d=>jZ (fun t ht=>hs t (.inl (.inr ht))),show ∀d,fQ F hi d=fQ σ hi d from fun d=>jZ (fun t ht=>hs t (.inr ht))]
  (repeat' first
    |(cases e;done)
    |(injection e with e;injection e with e1 e2;subst e1;subst e2;exact⟨F,by simp_all,.inl ⟨rfl,rfl⟩⟩)
    |(simp only[aA]at e)
    |(obtain⟨_,_,e⟩:=e)
    |split at e)
 case slL sz x lo hi m=>
  simp only[gQ.slots,aE]at hs
  simp only[aT]at e |-
  rw[bJ (σ:=σ) (F:=F) (x:=x) (fun t ht=>hs t (.inl (.inl (.inl ht))))]
  simp only[show ∀d,fQ F lo d=fQ σ lo d from fun d=>jZ (fun t ht=>hs t (.inl (.inl (.inr ht)))),show ∀d,fQ F hi d=fQ σ hi d from fun d=>jZ (fun t ht=>hs t (.inl (.inr ht)))]
  have hm:∀sm,m=some sm->sm.val F=sm.val σ:=fun sm e=>by subst e;exact bJ (fun t ht=>hs t (.inr ht))
  cases m with
  |none=>
   (repeat' first
     |(cases e;done)
     |(injection e with e;injection e with e1 e2;subst e1;subst e2;exact⟨F,by simp_all,.inl ⟨rfl,rfl⟩⟩)
     |(simp only[aA]at e)
     |(obtain⟨_,_,e⟩:=e)
     |split at e)
  |some m=>
  have hmm:=hm m rfl
  clear hm
  obtain⟨a,a1,e⟩:=aA.1 e
  obtain⟨l,a2,e⟩:=aA.1 e
  obtain⟨n,a3,e⟩:=aA.1 e
  obtain⟨rr,a4,e⟩:=aA.1 e
  simp only[a1,a2,a3,a4,aB,hmm]
  have fin:∀{P:Prop} [Decidable P] {v:IV},(if P then some (SV.val v,((σ,h):St)) else none)=some (sv,s1)->(if P then some (SV.val v,((F,h):St)) else none)=some (sv,(F,h))/\s1=(σ,h):=by
   intro P _ v e
   split at e
   ·rename_i hp
    injection e with e;injection e with e1 e2
    exact⟨by rw[if_pos hp,e1],e2.symm⟩
   ·cases e
  cases a with
  |nils=>
   skip
   obtain⟨m',b1,e⟩:=aA.1 e
   replace b1:m.val F=some m':=hmm.trans b1
   obtain⟨m'',b2,e⟩:=aA.1 e
   simp only[b1,b2,aB]
   obtain⟨q1,q2⟩:=fin e
   subst q2
   exact⟨F,q1,.inl ⟨rfl,rfl⟩⟩
  |esl=>
   skip
   obtain⟨m',b1,e⟩:=aA.1 e
   replace b1:m.val F=some m':=hmm.trans b1
   obtain⟨m'',b2,e⟩:=aA.1 e
   simp only[b1,b2,aB]
   obtain⟨q1,q2⟩:=fin e
   subst q2
   exact⟨F,q1,.inl ⟨rfl,rfl⟩⟩
  |ro b es=>
   skip
   obtain⟨m',b1,e⟩:=aA.1 e
   replace b1:m.val F=some m':=hmm.trans b1
   obtain⟨m'',b2,e⟩:=aA.1 e
   simp only[b1,b2,aB]
   split at e
   ·rename_i hc
    injection e with e;injection e with e1 e2;subst e1;subst e2
    exact⟨F,by rw[if_pos hc],.inl ⟨rfl,rfl⟩⟩
   ·rename_i hc
    obtain⟨q1,q2⟩:=fin e
    subst q2
    exact⟨F,by rw[if_neg hc];exact q1,.inl ⟨rfl,rfl⟩⟩
  |sl b tot off len cap=>
   skip
   obtain⟨m',b1,e⟩:=aA.1 e
   replace b1:m.val F=some m':=hmm.trans b1
   obtain⟨m'',b2,e⟩:=aA.1 e
   simp only[b1,b2,aB]
   split at e
   ·rename_i hc
    injection e with e;injection e with e1 e2;subst e1;subst e2
    exact⟨F,by rw[if_pos hc],.inl ⟨rfl,rfl⟩⟩
   ·rename_i hc
    obtain⟨k,b3,e⟩:=aA.1 e
    obtain⟨q1,q2⟩:=fin e
    subst q2
    exact⟨F,by rw[if_neg hc,b3];exact q1,.inl ⟨rfl,rfl⟩⟩
  |_=>cases e
 case build z ps=>
  simp only[gQ.slots,aE]at hs
  simp only[aT]at e |-
  rw[Gm (σ:=σ) (F:=F) hs]
  (repeat' first
    |(cases e;done)
    |(injection e with e;injection e with e1 e2;subst e1;subst e2;exact⟨F,by simp_all,.inl ⟨rfl,rfl⟩⟩)
    |(simp only[aA]at e)
    |(obtain⟨_,_,e⟩:=e)
    |split at e)
 case bsl own sz z len ps=>
  simp only[gQ.slots,aE]at hs
  simp only[aT]at e |-
  rw[Gl (σ:=σ) (F:=F) hs]
  (repeat' first
    |(cases e;done)
    |(injection e with e;injection e with e1 e2;subst e1;subst e2;exact⟨F,by simp_all,.inl ⟨rfl,rfl⟩⟩)
    |(simp only[aA]at e)
    |(obtain⟨_,_,e⟩:=e)
    |split at e)
 case mkF f a b=>
  simp only[gQ.slots,aE]at hs
  simp only[aT]at e |-
  rw[nV (σ:=σ) (F:=F) (xs:=a) (fun t ht=>hs t (.inl ht)),nV (σ:=σ) (F:=F) (xs:=b) (fun t ht=>hs t (.inr ht))]
  (repeat' first
    |(cases e;done)
    |(injection e with e;injection e with e1 e2;subst e1;subst e2;exact⟨F,by simp_all,.inl ⟨rfl,rfl⟩⟩)
    |(simp only[aA]at e)
    |(obtain⟨_,_,e⟩:=e)
    |split at e)
 case call f args=>
  simp only[gQ.slots,aE]at hs
  simp only[aT]at e |-
  rw[nV (σ:=σ) (F:=F) (xs:=args) hs]
  (repeat' first
    |(cases e;done)
    |(injection e with e;injection e with e1 e2;subst e1;subst e2;exact⟨F,by simp_all,.inl ⟨rfl,rfl⟩⟩)
    |(simp only[aA]at e)
    |(obtain⟨_,_,e⟩:=e)
    |split at e)
 case callc f args=>
  simp only[gQ.slots,aE]at hs
  simp only[aT]at e |-
  rw[nV (σ:=σ) (F:=F) (xs:=args) hs]
  (repeat' first
    |(cases e;done)
    |(injection e with e;injection e with e1 e2;subst e1;subst e2;exact⟨F,by simp_all,.inl ⟨rfl,rfl⟩⟩)
    |(simp only[aA]at e)
    |(obtain⟨_,_,e⟩:=e)
    |split at e)
 case callv f args=>
  simp only[gQ.slots,aE]at hs
  simp only[aT]at e |-
  rw[bJ (σ:=σ) (F:=F) (x:=f) (fun t ht=>hs t (.inl ht)),nV (σ:=σ) (F:=F) (xs:=args) (fun t ht=>hs t (.inr ht))]
  (repeat' first
    |(cases e;done)
    |(injection e with e;injection e with e1 e2;subst e1;subst e2;exact⟨F,by simp_all,.inl ⟨rfl,rfl⟩⟩)
    |(simp only[aA]at e)
    |(obtain⟨_,_,e⟩:=e)
    |split at e)
 case callm tab x args=>
  simp only[gQ.slots,aE]at hs
  simp only[aT]at e |-
  rw[bJ (σ:=σ) (F:=F) (x:=x) (fun t ht=>hs t (.inl ht)),nV (σ:=σ) (F:=F) (xs:=args) (fun t ht=>hs t (.inr ht))]
  (repeat' first
    |(cases e;done)
    |(injection e with e;injection e with e1 e2;subst e1;subst e2;exact⟨F,by simp_all,.inl ⟨rfl,rfl⟩⟩)
    |(simp only[aA]at e)
    |(obtain⟨_,_,e⟩:=e)
    |split at e)
 case asrt ok t ag z x=>
  simp only[gQ.slots,aE]at hs
  simp only[aT]at e |-
  rw[bJ (σ:=σ) (F:=F) (x:=x) hs]
  (repeat' first
    |(cases e;done)
    |(injection e with e;injection e with e1 e2;subst e1;subst e2;exact⟨F,by simp_all,.inl ⟨rfl,rfl⟩⟩)
    |(simp only[aA]at e)
    |(obtain⟨_,_,e⟩:=e)
    |split at e)
 case lenA n=>
  simp only[gQ.slots,aE]at hs
  simp only[aT]at e |-
  (repeat' first
    |(cases e;done)
    |(injection e with e;injection e with e1 e2;subst e1;subst e2;exact⟨F,by simp_all,.inl ⟨rfl,rfl⟩⟩)
    |(simp only[aA]at e)
    |(obtain⟨_,_,e⟩:=e)
    |split at e)
theorem zH {d:Option Nat} {o:gQ} {σ:Fr} {h:aN} {sv:SV} {s1:St} (hd:∀t,d=some t->bF σ t=true) (e:aT call opn d o (σ,h)=some (sv,s1)):
 s1.1 = σ\/∃s c c0,σ.get s=some (.box c0)/\s1.1 = σ.put s (.box c):=by
 obtain⟨F1,_,h1|⟨s,c,c0,h1,_,h2,_⟩⟩:=kR (F:=σ) (fun t _=>.inl rfl) (fun _ _ _ _ _ _ _ h=>h) hd e
 ·exact .inl h1.1
 ·exact .inr ⟨s,c,c0,h1,h2⟩
theorem Gr {d:Option Nat} {o:gQ} (hq:o.deaf=true) {σ:Fr} {h h':aN} {sv:SV} {s1:St} (e:aT call opn d o (σ,h)=some (sv,s1)):aT call opn d o (σ,h')=some (sv,(σ,h')):=by
 cases o<;>simp only[gQ.deaf]at hq<;>try (cases hq;done)
 all_goals
  simp only[aT]at e |-
  (repeat' first
    |(cases e;done)
    |(injection e with e;injection e with e1 e2;subst e1;simp_all;done)
    |(simp only[aA]at e)
    |(obtain⟨_,_,e⟩:=e)
    |split at e
    |(simp_all;done))
end
end Go.Ideal
namespace Go.Ideal
abbrev NI:=Nat×cH
structure IB where
 w:NI
 cs:List NI
 qs:List NI
def IB.db (b:IB):DB:=⟨b.w.2,b.cs.map (·.2),b.qs.map (·.2)⟩
def IB.its (b:IB):List NI:=b.w::b.qs
def dC (bs:List IB):List NI:=bs.flatMap IB.its
def Rl (ops:Array Oper) (Bf:Nat->Nat->Prop) (p q:NI):Prop:=
 p.1≠q.1/\(∀o,ops[p.1]? = some o->∀e∈o.after,Region.binds .any e=true->e.on≠q.1)/\¬Bf q.1 p.1/\(∀t,p.2.dst=some t->q.2.dst≠some t)/\
  (∀t∈p.2.slots,q.2.dst=some t->Bf p.1 q.1)/\(∀t∈q.2.slots,p.2.dst=some t->Bf p.1 q.1)
structure Drw (P:Program) (opn:Nat->Bool) (ops:Array Oper) (ntm:Nat) (q0:List NI) (bs:List IB) (Bf:Nat->Nat->Prop):Prop where
 link:∀p∈q0++dC bs,∃o,ops[p.1]? = some o/\vG P ops ntm o p.2
 all:∀i,i<ops.size->∃p∈q0++dC bs,p.1=i
 cl:∀(S:Nat->Prop),(∀i o,S i->ops[i]? = some o->∀e∈o.after,Region.binds .any e=true->S e.on)->∀i j,S i->Bf j i->S j
 edge:∀i o,ops[i]? = some o->∀e∈o.after,Region.binds .any e=true->e.on<ops.size/\e.on≠i
 len:(q0++dC bs).length≤ops.size
 pw:(q0++dC bs).Pairwise (Rl ops Bf)
 irr:∀i,¬Bf i i
 own:∀p∈q0++dC bs,∀t∈p.2.slots,p.2.dst≠some t
 qui:∀p∈q0,p.2.op.quiet opn=true/\∃t,p.2.dst=some t
 quib:∀b∈bs,∀p∈b.qs,p.2.op.quiet opn=true/\∃t,p.2.dst=some t
 wb:∀(u v:List IB) (b:IB),bs=u++b::v->∀q∈b.qs++dC v,Bf b.w.1 q.1
 chk:∀(u v:List IB) (b:IB),bs=u++b::v->∀p∈q0++dC u,p.2.op.quiet opn=true->p.2.op.deaf=false->Bf p.1 b.w.1\/(p∈b.cs/\∀q∈q0++dC bs,Bf p.1 q.1->∀t∈p.2.slots,q.2.dst≠some t)
section
variable {call:Nat->List IV->aN->Option (IV×aN)} {opn:Nat->Bool}
theorem Ir {it:cH} (hq:it.op.quiet opn=true) {t:Nat} (ht:it.dst=some t) {σ:Fr} {h:aN} {s1:St} (e:fL call opn it (σ,h)=some s1):∃sv,s1=(σ.put t sv,h)/\bF σ t=true:=by
 simp only[fL,aA]at e
 obtain⟨b,hb,e⟩:=e
 cases b with
 |true=>
  simp only[if_true,aA]at e
  obtain⟨r,hr,e⟩:=e
  have:=kW (s1:=r.2) (sv:=r.1) hq hr
  rw[this,ht]at e
  simp only[gL]at e
  split at e
  ·injection e with e;exact⟨r.1,e.symm,by assumption⟩
  ·cases e
 |false=>
  simp only[aR,if_false,ht,gL]at e
  split at e
  ·injection e with e;exact⟨_,e.symm,by assumption⟩
  ·cases e
theorem mR {σ F:Fr} {it:cH} (hs:∀t∈it.slots,lN σ F t):wanted F it.g=wanted σ it.g:=by
 cases hg:it.g with
 |none=>rfl
 |some p=>
  obtain⟨t,w⟩:=p
  rcases hs t (by simp[cH.slots,hg])with h|⟨c,c',h1,h2⟩
  ·simp only[wanted,h]
  ·simp only[wanted,h1,h2]
theorem tO {it:cH} {t:Nat} (h:t∈it.op.slots):t∈it.slots:=by simp[cH.slots,h]
theorem Fl {it:cH} (hq:it.op.quiet opn=true) {t:Nat} (ht:it.dst=some t) {σ F:Fr} {h h':aN} {sv:SV} (e:fL call opn it (σ,h)=some (σ.put t sv,h)) (hs:∀u∈it.slots,lN σ F u) (hd:bF F t=true)
 (hb:it.op.deaf=false->h'=h/\∀u∈it.op.slots,∀s off c,(SX.t u).ev F=some (.lptr s off)->σ.get s=some (.box c)->F.get s=some (.box c)):fL call opn it (F,h')=some (F.put t sv,h'):=by
 have hput:∀{sv':SV} {h1:aN},(σ.put t sv',h1)=(σ.put t sv,h)->sv'=sv:=fun e=>by injection e with e _;injection e with e _;injection e
 simp only[fL,aA]at e |-
 obtain⟨b,hbw,e⟩:=e
 refine⟨b,by rw[mR hs];exact hbw,?_⟩
 cases b with
 |false=>
  simp only[aR,if_false,ht,gL]at e |-
  split at e
  ·injection e with e
   have:=hput e
   subst this
   rw[if_pos hd]
  ·cases e
 |true=>
  simp only[if_true,aA]at e |-
  obtain⟨r,hr,e⟩:=e
  have hst:=kW (s1:=r.2) (sv:=r.1) hq hr
  rw[hst,ht]at e
  simp only[gL]at e
  split at e
  ·rename_i hfree
   injection e with e
   have hsv:=hput e
   have hr':aT call opn (some t) it.op (σ,h)=some (sv,(σ,h)):=by rw[ht]at hr;rw[hr,<-hsv,<-hst]
   have hd':∀u,some t=some u->bF F u=true:=fun u e=>by injection e with e;subst e;exact hd
   have fin:aT call opn (some t) it.op (F,h')=some (sv,(F,h')):=by
    cases hdf:it.op.deaf with
    |true=>
     obtain⟨F1,h1,h2⟩:=kR (d:=some t) (o:=it.op) (σ:=σ) (F:=F) (h:=h) (sv:=sv) (s1:=(σ,h)) (fun u hu=>hs u (tO hu)) (fun hh=>by rw[hdf]at hh;cases hh) hd' hr'
     exact Gr hdf h1
    |false=>
     obtain⟨e1,e2⟩:=hb hdf
     subst e1
     obtain⟨F1,h1,h2⟩:=kR (d:=some t) (o:=it.op) (σ:=σ) (F:=F) (fun u hu=>hs u (tO hu)) (fun _=>e2) hd' hr'
     rcases h2 with ⟨_,rfl⟩|⟨s,c,c0,_,_,h3,_⟩
     ·exact h1
     ·have:=kW hq h1
      injection this with this
      subst this
      exact h1
   refine⟨(sv,(F,h')),by rw[ht];exact fin,?_⟩
   simp only[ht,gL,if_pos hd]
  ·cases e
theorem lN.trans {a b c:Fr} {t:Nat} (h:lN a b t) (h':lN b c t):lN a c t:=by
 rcases h with h|⟨x,y,h1,h2⟩
 ·rcases h' with h'|⟨x',y',h3,h4⟩
  ·exact .inl (h'.trans h)
  ·exact .inr ⟨x',y',h▸h3,h4⟩
 ·rcases h' with h'|⟨x',y',h3,h4⟩
  ·exact .inr ⟨x,y,h1,h'.trans h2⟩
  ·exact .inr ⟨x,y',h1,h4⟩
theorem rA {σ:Fr} {t:Nat} (h:bF σ t=true) (c:List IV):σ.get t≠some (.box c):=fun e=>by simp[bF,e]at h
def Fact (call:Nat->List IV->aN->Option (IV×aN)) (opn:Nat->Bool) (Bf:Nat->Nat->Prop) (all:List NI) (σ0:Fr) (p:NI) (σ:Fr) (h:aN):Prop:=
 ∃σi hi t sv,p.2.dst=some t/\fL call opn p.2 (σi,hi)=some (σi.put t sv,hi)/\σ.get t=some sv/\
  (∀u∈p.2.slots,(∃q∈all,Bf p.1 q.1/\q.2.dst=some u)->σi.get u = σ0.get u)/\
  (∀u∈p.2.slots,(¬∃q∈all,Bf p.1 q.1/\q.2.dst=some u)->lN σi σ u)/\
  (p.2.op.deaf=false->hi=h/\∀s c,σi.get s=some (.box c)->σ.get s=some (.box c))
structure Yw (call:Nat->List IV->aN->Option (IV×aN)) (opn:Nat->Bool) (ops:Array Oper) (Bf:Nat->Nat->Prop) (all:List NI) (σ0:Fr) (done rest Pd:List NI) (σ:Fr) (h:aN):Prop where
 split:all=done++rest
 sub:∀p∈Pd,p∈done/\p.2.op.quiet opn=true
 unput:∀q∈rest,∀u,q.2.dst=some u->σ.get u = σ0.get u
 fact:∀p∈Pd,Fact call opn Bf all σ0 p σ h
section Ei
variable {ops:Array Oper} {Bf:Nat->Nat->Prop} {all:List NI} {σ0:Fr}
theorem Ow {l1 l2:List NI} {q:NI} (hp:(l1++q::l2).Pairwise (Rl ops Bf)):(∀p∈l1,Rl ops Bf p q)/\∀p∈l2,Rl ops Bf q p:=by
 rw[Eq]at hp
 exact⟨fun p h=>hp.2.2 p h q (cE ..),fun p h=>(List.pairwise_cons.1 hp.2.1).1 p h⟩
theorem Ei (hpw:all.Pairwise (Rl ops Bf)) (hown:∀p∈all,∀t∈p.2.slots,p.2.dst≠some t) {qs:List NI}:∀{done rest Pd:List NI} {σ:Fr} {h:aN} {s1:St},Yw call opn ops Bf all σ0 done (qs++rest) Pd σ h->
 (∀p∈qs,p.2.op.quiet opn=true/\∃t,p.2.dst=some t)->dL call opn (qs.map (·.2)) (σ,h)=some s1->
 s1.2=h/\Yw call opn ops Bf all σ0 (done++qs) rest (Pd++qs) s1.1 h/\∀u,(∀q∈qs,q.2.dst≠some u)->s1.1.get u = σ.get u:=by
 induction qs with
 |nil=>
  intro done rest Pd σ h s1 I hq e
  simp only[Nl,dL,aD]at e;subst e
  exact⟨rfl,by simpa using I,fun u _=>rfl⟩
 |cons q qs ih=>
  intro done rest Pd σ h s1 I hq e
  simp only[eZ,dL,aA]at e
  obtain⟨s0,hs0,e⟩:=e
  obtain⟨hqq,t,ht⟩:=hq q (cE ..)
  obtain⟨sv,rfl,hfree⟩:=Ir hqq ht hs0
  have hsp:=I.split
  rw[hsp]at hpw
  obtain⟨hb,ha⟩:=Ow (q:=q) (l2:=qs++rest) (by simpa using hpw)
  have hqa:q∈all:=by rw[hsp];simp
  have hσ:∀u,t≠u->(σ.put t sv).get u = σ.get u:=fun u hu=>by rw[bL,if_neg hu]
  have I':Yw call opn ops Bf all σ0 (done++[q]) (qs++rest) (Pd++[q]) (σ.put t sv) h:=by
   refine⟨by rw[hsp];simp,fun p hp=>?_,fun q' hq' u hu=>?_,fun p hp=>?_⟩
   ·rcases aE.1 hp with hp|hp
    ·exact⟨aE.2 (.inl (I.sub p hp).1),(I.sub p hp).2⟩
    ·simp at hp;subst hp;exact⟨by simp,hqq⟩
   ·have hne:t≠u:=fun e=>by subst e;exact(ha q' hq').2.2.2.1 t ht hu
    rw[hσ u hne]
    exact I.unput q' (by simp only[cG,aQ];exact .inr hq') u hu
   ·rcases aE.1 hp with hp|hp
    ·have hR:=hb p (I.sub p hp).1
     obtain⟨σi,hi,tp,svp,f1,f2,f3,f4,f5,f6⟩:=I.fact p hp
     refine⟨σi,hi,tp,svp,f1,f2,?_,f4,fun u hu hn=>?_,fun hdf=>⟨(f6 hdf).1,fun s c hs=>?_⟩⟩
     ·rw[hσ tp (fun e=>by subst e;exact hR.2.2.2.1 _ f1 ht)];exact f3
     ·have hne:t≠u:=fun e=>by
       subst e
       exact hn ⟨q,hqa,hR.2.2.2.2.1 t hu ht,ht⟩
      rcases f5 u hu hn with h1|⟨c,c',h1,h2⟩
      ·exact .inl ((hσ u hne).trans h1)
      ·exact .inr ⟨c,c',h1,(hσ u hne).trans h2⟩
     ·have h1:=(f6 hdf).2 s c hs
      have hne:t≠s:=fun e=>by subst e;exact rA hfree c h1
      rw[hσ s hne];exact h1
    ·have hpq:p=q:=by simpa using hp
     rw[hpq]
     refine⟨σ,h,t,sv,ht,hs0,by rw[bL,if_pos rfl],fun u hu hex=>?_,fun u hu _=>?_,fun _=>⟨rfl,fun s c hs=>?_⟩⟩
     ·obtain⟨q',hq',hbf,hdu⟩:=hex
      rw[hsp]at hq'
      have:q'∈q::(qs++rest):=by
       rcases aE.1 hq' with h1|h1
       ·exact absurd hbf (hb q' h1).2.2.1
       ·simpa using h1
      exact I.unput q' (by simpa using this) u hdu
     ·have hne:t≠u:=fun e=>by subst e;exact hown _ hqa t hu ht
      exact .inl (hσ u hne)
     ·have hne:t≠s:=fun e=>by subst e;exact rA hfree c hs
      rw[hσ s hne];exact hs
  rw[<-hsp]at hpw
  obtain⟨g1,g2,g3⟩:=ih I' (fun p hp=>hq p (bT _ hp)) e
  refine⟨g1,by simpa using g2,fun u hu=>?_⟩
  rw[g3 u fun q' hq'=>hu q' (bT _ hq'),hσ u fun e=>by subst e;exact hu q (cE ..) ht]
end Ei
theorem yF {ops:Array Oper} {Bf:Nat->Nat->Prop} {l:List NI} (hp:l.Pairwise (Rl ops Bf)) {p q:NI} (h1:p∈l) (h2:q∈l):p=q\/Rl ops Bf p q\/Rl ops Bf q p:=by
 induction l with
 |nil=>simp at h1
 |cons x l ih=>
  rw[List.pairwise_cons]at hp
  rcases aQ.1 h1 with e1|e1
  ·rcases aQ.1 h2 with e2|e2
   ·exact .inl (e1.trans e2.symm)
   ·exact .inr (.inl (by rw[e1];exact hp.1 q e2))
  ·rcases aQ.1 h2 with e2|e2
   ·exact .inr (.inr (by rw[e2];exact hp.1 p e1))
   ·exact ih hp.2 e1 e2
theorem Qk {l:List NI} {S:NI->Prop} (h:∃p∈l,¬S p):∃l1 p l2,l=l1++p::l2/\¬S p/\∀q∈l1,S q:=by
 induction l with
 |nil=>obtain⟨p,h,_⟩:=h;simp at h
 |cons x l ih=>
  by_cases hx:S x
  ·obtain⟨p,hp,hs⟩:=h
   rcases aQ.1 hp with rfl|hp
   ·exact absurd hx hs
   ·obtain⟨l1,q,l2,e,h1,h2⟩:=ih ⟨p,hp,hs⟩
    refine⟨x::l1,q,l2,by rw[e];rfl,h1,fun y hy=>?_⟩
    rcases aQ.1 hy with rfl|hy
    ·exact hx
    ·exact h2 y hy
  ·exact⟨[],x,l,rfl,hx,by simp⟩
theorem Im {K:Kx} {h:aN} {H:gC} {σ σ':Fr} {a:Array Value} (e:∀u,σ'.get u = σ.get u) (g:dK K h H σ a):dK K h H σ' a:=
 ⟨g.inv,⟨fun t v hh hgo=>g.fr.val t v (by rw[<-e];exact hh) hgo,fun t c hh=>g.fr.box t c (by rw[<-e];exact hh),fun t s o hh=>by
   obtain⟨B,c,h1,h2,h3⟩:=g.fr.lptr t s o (by rw[<-e];exact hh)
   exact⟨B,c,by rw[e];exact h1,h2,h3⟩,fun s t c c' B h1 h2 h3 h4=>g.fr.sep s t c c' B (by rw[<-e];exact h1) (by rw[<-e];exact h2) h3 h4⟩⟩
theorem wL {L:Nat->Prop} {K K1:Kx} {h h1:aN} {H H1:gC} {σ σ1 σ2:Fr} {a a1:Array Value} (e:∀u,σ2.get u = σ1.get u) (s:jC L K h H σ a K1 h1 H1 σ1 a1):jC L K h H σ a K1 h1 H1 σ2 a1:=by
 refine⟨⟨s.1.len,s.1.gen,s.1.st,s.1.st',s.1.size,s.1.fr,fun B hB hm=>s.1.mn B hB (hm.imp id fun⟨t,c,h1,h2⟩=>⟨t,c,by rw[<-e];exact h1,h2⟩),s.1.nst⟩,Im e s.2.1,s.2.2⟩
theorem Xx {P:Program} {opn:Nat->Bool} {ops:Array Oper} {ntm:Nat} {q0:List NI} {bs0:List IB} {Bf:Nat->Nat->Prop} (hm:P.follows .mixedOrders=true) (D:Drw P opn ops ntm q0 bs0 Bf):Rw P opn ops ntm (q0.map (·.2)) (bs0.map IB.db):=by
 intro call hc L ρ dn K0 h0 w0 σ0 a0 s1 Q id hL0 g0 hn0 ev0 hq
 have hLa:∀t p,L t->p∈q0++dC bs0->p.2.dst≠some t:=fun t p ht hp=>hL0 t p.2 ht (by
  rcases aE.1 hp with hp|hp
  ·exact aE.2 (.inl (bI.2 ⟨p,hp,rfl⟩))
  ·obtain⟨b,hb,hp⟩:=dS.1 hp
   refine aE.2 (.inr (dS.2 ⟨b.db,bI.2 ⟨b,hb,rfl⟩,?_⟩))
   simp only[IB.its,aQ]at hp
   simp only[IB.db,aQ,bI]
   rcases hp with rfl|hp
   ·exact .inl rfl
   ·exact .inr ⟨p,hp,rfl⟩)
 simp only[zI]at ev0
 split at ev0
 case isFalse=>cases ev0
 rename_i hfree
 simp only[aA]at ev0
 obtain⟨sA,hsA,ev0⟩:=ev0
 have rB:∀p∈q0++dC bs0,∀t,p.2.dst=some t->bF σ0 t=true:=by
  intro p hp t ht
  simp only[aF,bE,bI,mW,forall_exists_index,and_imp]at hfree
  rcases aE.1 hp with hp|hp
  ·have:=hfree.1 p.2 p hp rfl
   rw[ht]at this;exact this
  ·obtain⟨b,hb,hp⟩:=dS.1 hp
   have:=hfree.2 b.db b hb rfl p.2 (by
    simp only[IB.its,aQ]at hp
    simp only[IB.db,aQ,bI]
    rcases hp with rfl|hp
    ·exact .inl rfl
    ·exact .inr ⟨p,hp,rfl⟩)
   rw[ht]at this;exact this
 let all:=q0++dC bs0
 have hall:all=q0++dC bs0:=rfl
 have key:∀(fuel:Nat) (bs u:List IB) (Pd:List NI) (σ:Fr) (h:aN) (F:Fr) (K:Kx) (w:World) (a:Act) (listed:Array Bool),bs0=u++bs->
  jC L K0 h0 w0.heap σ0 a0.tmps K h w.heap F a.tmps->(a.defers,(w.os,w.tape),w.output)=(a0.defers,(w0.os,w0.tape),w0.output)->
  (∀v,(∃p∈Pd,p.2.dst=some v)->F.get v = σ0.get v)->(∀v,(¬∃p∈Pd,p.2.dst=some v)->F.get v = σ.get v)->
  Yw call opn ops Bf all σ0 (q0++dC u) (dC bs) Pd σ h->pI call opn (bs.map IB.db) (σ,h)=some s1->
  listed.size=ops.size->(∀i,i<ops.size->(listed.getD i false=true↔¬∃p∈Pd++dC bs,p.1=i))->
  (∀i o,listed.getD i false=true->ops[i]? = some o->∀e∈o.after,Region.binds .any e=true->listed.getD e.on false=true)->
  Pd.length+(dC bs).length≤fuel->wpAnyIn (qO ρ) dn P .any ops Q fuel listed a w:=by
  intro fuel
  induction fuel with
  |zero=>
   intro bs u Pd σ h F K w a listed hbs st hdf hF1 hF2 I ev hls hlist hclo hfu
   have hPd:Pd=[]:=dH (by omega)
   have hrs:dC bs=[]:=dH (by omega)
   have hbs':bs=[]:=by
    cases bs with
    |nil=>rfl
    |cons b bs=>simp[dC,IB.its]at hrs
   subst hPd;subst hbs'
   simp only[Nl,pI,aD]at ev;subst ev
   refine⟨?_,hq K a w (wL (fun v=>(hF2 v (by simp)).symm) st) hdf⟩
   rw[Ru]
   intro i hi
   obtain⟨h1,o,h2,_⟩:=mem_ready.1 hi
   have hin:i<ops.size:=(dY.1 h2).1
   have:=(hlist i hin).2 (by simp[dC])
   rw[dA]at h1 this
   rw[mH (by omega)]at h1 this
   simp at h1 this;rw[h1]at this;cases this
  |succ fuel ih=>
   intro bs u Pd σ h F K w a listed hbs st hdf hF1 hF2 I ev hls hlist hclo hfu
   have hgd:∀i,i<ops.size->listed.getD i true=listed.getD i false:=fun i hi=>by
    rw[dA,dA,mH (by omega)];rfl
   have hmem:∀p∈Pd++dC bs,p∈all:=fun p hp=>by
    rw[I.split]
    rcases aE.1 hp with hp|hp
    ·exact aE.2 (.inl (I.sub p hp).1)
    ·exact aE.2 (.inr hp)
   have hidx:∀p∈all,p.1<ops.size:=fun p hp=>by
    obtain⟨o,ho,_⟩:=D.link p hp
    exact(dY.1 ho).1
   constructor
   ·
    intro hr
    have hnone:¬∃p∈all,¬(listed.getD p.1 false=true):=by
     intro hex
     obtain⟨l1,p,l2,e,hp,hl1⟩:=Qk (S:=fun p=>listed.getD p.1 false=true) hex
     have hpa:p∈all:=by rw[e];simp
     have:p.1∈Region.ready .any ops listed:=by
      obtain⟨o,ho,_⟩:=D.link p hpa
      refine mem_ready.2 ⟨by rw[hgd _ (hidx p hpa)];simpa using hp,o,ho,fun ed hed hb=>?_⟩
      obtain⟨hlt,hne⟩:=D.edge p.1 o ho ed hed hb
      obtain⟨q,hqa,hqi⟩:=D.all ed.on hlt
      have hqa':q∈l1++p::l2:=by rw[<-e];exact hqa
      have hpw:=D.pw
      rw[<-hall,e]at hpw
      rcases aE.1 hqa' with h1|h1
      ·rw[<-hqi];exact hl1 q h1
      ·rcases aQ.1 h1 with rfl|h1
       ·exact absurd hqi.symm hne
       ·exact absurd hqi.symm (((Ow hpw).2 q h1).2.1 o ho ed hed hb)
     rw[hr]at this;cases this
    have hemp:∀p,p∉Pd++dC bs:=fun p hp=>by
     have hpa:=hmem p hp
     have h1:=(hlist p.1 (hidx p hpa)).1 (by
      by_cases hh:listed.getD p.1 false=true
      ·exact hh
      ·exact absurd ⟨p,hpa,hh⟩ hnone)
     exact h1 ⟨p,hp,rfl⟩
    have hPd:Pd=[]:=Ru.2 fun p hp=>hemp p (aE.2 (.inl hp))
    have hbs':bs=[]:=by
     cases bs with
     |nil=>rfl
     |cons b bs=>exact absurd (aE.2 (.inr (by simp[dC,IB.its]))) (hemp b.w)
    subst hPd;subst hbs'
    simp only[Nl,pI,aD]at ev;subst ev
    exact hq K a w (wL (fun v=>(hF2 v (by simp)).symm) st) hdf
   ·intro i hi
    obtain⟨hil,o,ho,hedges⟩:=mem_ready.1 hi
    have hin:i<ops.size:=(dY.1 ho).1
    rw[hgd i hin]at hil
    have hex:∃p∈Pd++dC bs,p.1=i:=by
     by_cases hh:∃p∈Pd++dC bs,p.1=i
     ·exact hh
     ·rw[(hlist i hin).2 hh]at hil;cases hil
    have hdone:∀q∈Pd++dC bs,¬Bf q.1 i:=by
     intro q hq' hb
     have:=D.cl (fun j=>listed.getD j false=true\/j=i) (fun j o' hj ho' e he hbd=>by
      rcases hj with hj|rfl
      ·exact .inl (hclo j o' hj ho' e he hbd)
      ·rw[ho]at ho';injection ho' with ho';subst ho'
       exact .inl (hedges e he hbd)) i q.1 (.inr rfl) hb
     have hqa:=hmem q hq'
     rcases this with h1|h1
     ·exact(hlist q.1 (hidx q hqa)).1 h1 ⟨q,hq',rfl⟩
     ·obtain⟨p,hp,hpi⟩:=hex
      rcases yF D.pw (hmem p hp) hqa with rfl|hR|hR
      ·have:=D.own p (hmem p hp)
       have hcl:=D.cl (fun j=>listed.getD j false=true) (fun j o' hj ho' e he hbd=>hclo j o' hj ho' e he hbd)
       rw[h1]at hb
       exact(D.irr i) hb
      ·exact hR.1 (by rw[hpi,h1])
      ·exact hR.1 (by rw[hpi,h1])
    have hdone':∀j o',listed.getD j false=true->ops[j]? = some o'->∀q∈Pd++dC bs,¬Bf q.1 j:=fun j o' hj ho' q hq' hb=>by
     have:=D.cl (fun j=>listed.getD j false=true) (fun j o' hj ho' e he hbd=>hclo j o' hj ho' e he hbd) j q.1 hj hb
     exact(hlist q.1 (hidx q (hmem q hq'))).1 this ⟨q,hq',rfl⟩
    have hnotbox:∀v,(∃p∈Pd,p.2.dst=some v)->∀c,F.get v≠some (.box c):=fun v hv c=>by
     obtain⟨p,hp,hd⟩:=hv
     rw[hF1 v ⟨p,hp,hd⟩]
     exact rA (rB p (hmem p (aE.2 (.inl hp))) v hd) c
    have hwp:∀(it:cH) (sN:St),(∀t,it.dst=some t->¬L t)->fL call opn it (F,h)=some sN->vG P ops ntm o it->
     (∀K1 a1 w1,jC L K h w.heap F a.tmps K1 sN.2 w1.heap sN.1 a1.tmps->(a1.defers,(w1.os,w1.tape),w1.output)=(a.defers,(w.os,w.tape),w.output)->wpAnyIn (qO ρ) dn P .any ops Q fuel (listed.setIfInBounds i true) a1 w1)->wpOpIn (qO ρ) dn P ops Q i (wpAnyIn (qO ρ) dn P .any ops Q fuel (listed.setIfInBounds i true)) a w:=by
     intro it sN hLi he hl hnx
     unfold wpOpIn
     rw[ho]
     exact Vh (L:=L) hc hl st.2.1 (by rw[st.2.2.1];exact hn0) he hLi hnx
    have hset:∀j,(listed.setIfInBounds i true).getD j false=if i=j then true else listed.getD j false:=fun j=>by
     rw[dA,dA,bO]
     by_cases e:i=j
     ·rw[if_pos e,if_pos e,if_pos (by omega)];rfl
     ·rw[if_neg e,if_neg e]
    have hclo':∀j o',(listed.setIfInBounds i true).getD j false=true->ops[j]? = some o'->∀e∈o'.after,Region.binds .any e=true->(listed.setIfInBounds i true).getD e.on false=true:=fun j o' hj ho' e he hbd=>by
     rw[hset]at hj |-
     split
     ·rfl
     ·split at hj
      ·rename_i hij
       subst hij
       rw[ho]at ho';injection ho' with ho';subst ho'
       exact hedges e he hbd
      ·exact hclo j o' hj ho' e he hbd
    obtain⟨p,hp,rfl⟩:=hex
    have hpa:=hmem p hp
    have hlink:vG P ops ntm o p.2:=by
     obtain⟨o',ho',hl⟩:=D.link p hpa
     rw[ho]at ho';injection ho' with ho';subst ho';exact hl
    rcases aE.1 hp with hpP|hpR
    ·
     obtain⟨σi,hi',t,sv,f1,f2,f3,f4,f5,f6⟩:=I.fact p hpP
     have hquiet:=(I.sub p hpP).2
     have hal:∀v∈p.2.slots,lN σi F v:=by
      intro v hv
      by_cases hw:∃q∈all,Bf p.1 q.1/\q.2.dst=some v
      ·have e1:=f4 v hv hw
       obtain⟨q,hqa,hbf,hqd⟩:=hw
       left
       rw[e1]
       by_cases hPd:∃p'∈Pd,p'.2.dst=some v
       ·exact hF1 v hPd
       ·rw[hF2 v hPd]
        have hqn:q∈Pd++dC bs:=by
         by_cases hh:listed.getD q.1 false=true
         ·exact absurd hbf (hdone' q.1 (ops[q.1]'(hidx q hqa)) hh (mH _) p hp)
         ·by_cases hx:∃p'∈Pd++dC bs,p'.1=q.1
          ·obtain⟨p',hp',he'⟩:=hx
           rcases yF D.pw (hmem p' hp') hqa with rfl|hR|hR
           ·exact hp'
           ·exact absurd he' hR.1
           ·exact absurd he'.symm hR.1
          ·exact absurd ((hlist q.1 (hidx q hqa)).2 hx) hh
        rcases aE.1 hqn with h1|h1
        ·exact absurd ⟨q,h1,hqd⟩ hPd
        ·exact I.unput q h1 v hqd
      ·have e1:=f5 v hv hw
       have hnP:¬∃p'∈Pd,p'.2.dst=some v:=by
        rintro⟨p',hp',hd'⟩
        have hpa':=hmem p' (aE.2 (.inl hp'))
        rcases yF D.pw hpa hpa' with rfl|hR|hR
        ·exact D.own _ hpa v hv hd'
        ·exact hw ⟨p',hpa',hR.2.2.2.2.1 v hv hd',hd'⟩
        ·exact hdone p' (aE.2 (.inl hp')) (hR.2.2.2.2.2 v hv hd')
       exact e1.trans (.inl (hF2 v hnP))
     have hFt:F.get t = σ0.get t:=hF1 t ⟨p,hpP,f1⟩
     have hfreeF:bF F t=true:=by
      have:=rB p hpa t f1
      unfold bF at this |-
      rw[hFt];exact this
     have hev:fL call opn p.2 (F,h)=some (F.put t sv,h):=by
      refine Fl hquiet f1 f2 hal hfreeF fun hdf=>⟨(f6 hdf).1.symm,fun v hv s off c he hs=>?_⟩
      have e1:=(f6 hdf).2 s c hs
      have hsF:∃c',F.get s=some (.box c'):=by
       simp only[SX.ev]at he
       split at he
       ·rename_i c' hc'
        injection he with he;injection he with he1 he2
        subst he1
        exact⟨c',hc'⟩
       ·obtain⟨B,c',h1,_⟩:=st.2.1.fr.lptr v s off he
        exact⟨c',h1⟩
      obtain⟨c',hc'⟩:=hsF
      rw[hF2 s fun hh=>hnotbox s hh c' hc']
      exact e1
     refine hwp p.2 (F.put t sv,h) (fun u hu hLu=>hLa u p hLu hpa hu) hev hlink fun K1 a1 w1 S hd=>?_
     have hfil:∀x:NI,x∈Pd.filter (fun x=>x.1≠p.1)↔x∈Pd/\x.1≠p.1:=fun x=>by simp[nE]
     have hsame:∀x∈Pd++dC bs,x.1=p.1->x=p:=fun x hx e=>by
      rcases yF D.pw (hmem x hx) hpa with h1|hR|hR
      ·exact h1
      ·exact absurd e hR.1
      ·exact absurd e.symm hR.1
     refine ih bs u (Pd.filter (fun x=>x.1≠p.1)) σ h (F.put t sv) K1 w1 a1 (listed.setIfInBounds p.1 true) hbs (st.trans S) (hd.trans hdf) (fun v hv=>?_) (fun v hv=>?_) ⟨I.split,fun x hx=>I.sub x ((hfil x).1 hx).1,I.unput,fun x hx=>I.fact x ((hfil x).1 hx).1⟩ ev (by simpa using hls) (fun j hj=>?_) hclo' ?_
     ·obtain⟨x,hx,hdx⟩:=hv
      obtain⟨hx1,hx2⟩:=(hfil x).1 hx
      have hne:t≠v:=fun e=>by
       subst e
       rcases yF D.pw (hmem x (aE.2 (.inl hx1))) hpa with rfl|hR|hR
       ·exact hx2 rfl
       ·exact hR.2.2.2.1 _ hdx f1
       ·exact hR.2.2.2.1 _ f1 hdx
      rw[bL,if_neg hne]
      exact hF1 v ⟨x,hx1,hdx⟩
     ·rw[bL]
      split
      ·rename_i e;subst e;exact f3.symm
      ·rename_i hne
       refine hF2 v fun⟨x,hx,hdx⟩=>?_
       by_cases hxp:x.1=p.1
       ·have:=hsame x (aE.2 (.inl hx)) hxp
        subst this
        rw[f1]at hdx;injection hdx with hdx;exact hne hdx
       ·exact hv ⟨x,(hfil x).2 ⟨hx,hxp⟩,hdx⟩
     ·rw[hset]
      by_cases e:p.1=j
      ·subst e
       simp only[if_true,true_iff]
       rintro⟨x,hx,hxe⟩
       rcases aE.1 hx with hx1|hx1
       ·exact((hfil x).1 hx1).2 hxe
       ·have hxp:=hsame x (aE.2 (.inr hx1)) hxe
        rw[hxp]at hx1
        have hpw:=D.pw
        rw[<-hall,I.split,Eq]at hpw
        exact(hpw.2.2 _ (I.sub _ hpP).1 _ hx1).1 rfl
      ·rw[if_neg e,hlist j hj]
       constructor
       ·rintro hh ⟨x,hx,hxe⟩
        rcases aE.1 hx with hx|hx
        ·exact hh ⟨x,aE.2 (.inl ((hfil x).1 hx).1),hxe⟩
        ·exact hh ⟨x,aE.2 (.inr hx),hxe⟩
       ·rintro hh ⟨x,hx,hxe⟩
        rcases aE.1 hx with hx|hx
        ·exact hh ⟨x,aE.2 (.inl ((hfil x).2 ⟨hx,fun e'=>e (by rw[<-hxe,e'])⟩)),hxe⟩
        ·exact hh ⟨x,aE.2 (.inr hx),hxe⟩
     ·have:(Pd.filter (fun x=>x.1≠p.1)).length<Pd.length:=by
       rw[List.length_filter_lt_length_iff_exists]
       exact⟨p,hpP,by simp⟩
      omega
    ·
     cases bs with
     |nil=>simp[dC]at hpR
     |cons b bs=>
     have hro:dC (b::bs)=b.w::(b.qs++dC bs):=by simp[dC,IB.its]
     have hpb:p=b.w:=by
      rw[hro]at hpR
      rcases aQ.1 hpR with h1|h1
      ·exact h1
      ·exact absurd (D.wb u bs b hbs p h1) (hdone b.w (aE.2 (.inr (by rw[hro];exact cE ..))))
     subst hpb
     simp only[eZ,pI,aA,IB.db]at ev
     obtain⟨s2,hs2,ev⟩:=ev
     split at ev
     case isFalse=>cases ev
     rename_i hsames
     simp only[aA]at ev
     obtain⟨s3,hs3,ev⟩:=ev
     have hpw:=D.pw
     rw[<-hall,I.split,hro]at hpw
     obtain⟨hbef,haft⟩:=Ow hpw
     have hslot:∀v∈b.w.2.slots,F.get v = σ.get v:=fun v hv=>hF2 v fun⟨x,hx,hdx⟩=>
      hdone x (aE.2 (.inl hx)) ((hbef x (I.sub x hx).1).2.2.2.2.2 v hv hdx)
     have hdstP:∀t,b.w.2.dst=some t->¬∃x∈Pd,x.2.dst=some t:=fun t ht ⟨x,hx,hdx⟩=>(hbef x (I.sub x hx).1).2.2.2.1 t hdx ht
     have hdstF:∀t,b.w.2.dst=some t->F.get t = σ.get t:=fun t ht=>hF2 t (hdstP t ht)
     have hstep:∃F2,fL call opn b.w.2 (F,h)=some (F2,s2.2)/\∃S:Nat->Prop,(∀v,S v->(∃c,F.get v=some (.box c))/\(∃c,σ.get v=some (.box c))/\(∃c,s2.1.get v=some (.box c))/\F2.get v=s2.1.get v)/\
      (∀v,¬S v->b.w.2.dst≠some v->F2.get v=F.get v/\s2.1.get v = σ.get v)/\(∀v,b.w.2.dst=some v->F2.get v=s2.1.get v/\bF σ v=true/\¬S v):=by
      simp only[fL,aA]at hs2
      obtain⟨bb,hbb,hs2⟩:=hs2
      have hwant:wanted F b.w.2.g=some bb:=by rw[mR (σ:=σ) fun v hv=>.inl (hslot v hv)];exact hbb
      have fin:∀(r1:St) (sv:SV) (Fx:Fr),gL r1 b.w.2.dst sv=some s2->((r1.1 = σ/\Fx=F)\/∃s c c0,σ.get s=some (.box c0)/\F.get s=some (.box c0)/\r1.1 = σ.put s (.box c)/\Fx=F.put s (.box c))->
       ∃F2,gL (Fx,r1.2) b.w.2.dst sv=some (F2,s2.2)/\∃S:Nat->Prop,(∀v,S v->(∃c,F.get v=some (.box c))/\(∃c,σ.get v=some (.box c))/\(∃c,s2.1.get v=some (.box c))/\F2.get v=s2.1.get v)/\
        (∀v,¬S v->b.w.2.dst≠some v->F2.get v=F.get v/\s2.1.get v = σ.get v)/\(∀v,b.w.2.dst=some v->F2.get v=s2.1.get v/\bF σ v=true/\¬S v):=by
       intro r1 sv Fx hput hfx
       cases hd:b.w.2.dst with
       |none=>
        rw[hd]at hput
        simp only[gL,aD]at hput;subst hput
        refine⟨Fx,by simp[gL],?_⟩
        rcases hfx with ⟨e1,e2⟩|⟨s,c,c0,e1,e2,e3,e4⟩
        ·refine⟨fun _=>False,fun v h=>h.elim,fun v _ _=>?_,fun v h=>by cases h⟩
         rw[e1,e2];exact⟨rfl,rfl⟩
        ·refine⟨fun v=>s=v,fun v hv=>?_,fun v hv _=>?_,fun v h=>by cases h⟩
         ·subst hv
          rw[e3,e4]
          exact⟨⟨c0,e2⟩,⟨c0,e1⟩,⟨c,by rw[bL,if_pos rfl]⟩,by rw[bL,bL,if_pos rfl,if_pos rfl]⟩
         ·rw[e3,e4,bL,bL,if_neg hv,if_neg hv];exact⟨rfl,rfl⟩
       |some t=>
        rw[hd]at hput
        simp only[gL]at hput
        split at hput
        ·rename_i hfr
         injection hput with hput;subst hput
         rcases hfx with ⟨e1,e2⟩|⟨s,c,c0,e1,e2,e3,e4⟩
         ·rw[e1]at hfr
          have hfrF:bF Fx t=true:=by rw[e2];unfold bF at hfr |-;rw[hdstF t hd];exact hfr
          refine⟨Fx.put t sv,by simp only[gL];rw[if_pos hfrF],fun _=>False,fun v h=>h.elim,fun v _ hv=>?_,fun v hv=>?_⟩
          ·have hne:t≠v:=fun e=>hv (by rw[e])
           rw[bL,bL,if_neg hne,if_neg hne,e1,e2];exact⟨rfl,rfl⟩
          ·injection hv with hv;subst hv
           exact⟨by rw[bL,bL,if_pos rfl,if_pos rfl],hfr,fun h=>h⟩
         ·have hst':s≠t:=fun e=>by subst e;rw[e3]at hfr;simp[bF,bL]at hfr
          have hfrσ:bF σ t=true:=by unfold bF at hfr |-;rw[e3,bL,if_neg hst']at hfr;exact hfr
          have hfrF:bF Fx t=true:=by rw[e4];unfold bF at hfrσ |-;rw[bL,if_neg hst',hdstF t hd];exact hfrσ
          refine⟨Fx.put t sv,by simp only[gL];rw[if_pos hfrF],fun v=>s=v,fun v hv=>?_,fun v hv hdv=>?_,fun v hv=>?_⟩
          ·subst hv
           rw[e3,e4]
           refine⟨⟨c0,e2⟩,⟨c0,e1⟩,⟨c,by rw[bL,if_neg (Ne.symm hst'),bL,if_pos rfl]⟩,?_⟩
           rw[bL,if_neg (Ne.symm hst'),bL,if_pos rfl,bL,if_neg (Ne.symm hst'),bL,if_pos rfl]
          ·have hne:t≠v:=fun e=>hdv (by rw[e])
           rw[e3,e4,bL,if_neg hne,bL,if_neg hv,bL,if_neg hne,bL,if_neg hv];exact⟨rfl,rfl⟩
          ·injection hv with hv;subst hv
           exact⟨by rw[bL,bL,if_pos rfl,if_pos rfl],hfrσ,hst'⟩
        ·cases hput
      cases bb with
      |false=>
       simp only[aR,if_false]at hs2
       obtain⟨F2,h1,h2⟩:=fin (σ,h) _ F hs2 (.inl ⟨rfl,rfl⟩)
       exact⟨F2,by simp only[fL,hwant,aB,aR,if_false];exact h1,h2⟩
      |true=>
       simp only[if_true,aA]at hs2
       obtain⟨r,hr,hs2⟩:=hs2
       have hlf:∀t,b.w.2.dst=some t->bF F t=true:=fun t ht=>by
        have hfr:bF r.2.1 t=true:=by
         rw[ht]at hs2
         simp only[gL]at hs2
         split at hs2
         ·assumption
         ·cases hs2
        have hσt:∀c,σ.get t≠some (.box c):=fun c hc=>by
         have hF:=hdstF t ht
         obtain⟨F1,_,h2⟩:=kR (call:=call) (opn:=opn) (d:=none) (o:=.mov (.c .nilp)) (σ:=σ) (F:=σ) (h:=h) (sv:=.val .nilp) (s1:=(σ,h)) (fun v _=>.inl rfl) (fun _ _ _ _ _ _ _ hh=>hh) (fun _ hh=>by cases hh) rfl
         have h0:=I.unput b.w (by rw[hro];exact cE ..) t ht
         rw[h0]at hc
         exact rA (rB b.w hpa t ht) c hc
        unfold bF
        rw[hdstF t ht]
        cases hg:σ.get t with
        |none=>rfl
        |some x=>cases x with
         |box c=>exact absurd hg (hσt c)
         |val v=>rfl
         |lptr s o=>rfl
       obtain⟨Fx,h1,h2⟩:=kR (d:=b.w.2.dst) (o:=b.w.2.op) (σ:=σ) (F:=F) (h:=h) (sv:=r.1) (s1:=r.2) (fun v hv=>.inl (hslot v (tO hv))) (fun _ v hv s off c he hsc=>by
        have hsF:∃c',F.get s=some (.box c'):=by
         simp only[SX.ev]at he
         split at he
         ·rename_i c' hc'
          injection he with he;injection he with he1 he2
          subst he1
          exact⟨c',hc'⟩
         ·obtain⟨B,c',h1,_⟩:=st.2.1.fr.lptr v s off he
          exact⟨c',h1⟩
        obtain⟨c',hc'⟩:=hsF
        rw[hF2 s fun hh=>hnotbox s hh c' hc']
        exact hsc) hlf hr
       obtain⟨F2,h3,h4⟩:=fin r.2 r.1 Fx hs2 h2
       refine⟨F2,?_,h4⟩
       simp only[fL,hwant,aB,if_true,h1]
       exact h3
     obtain⟨F2,hF2e,S,hS1,hS2,hS3⟩:=hstep
     refine hwp b.w.2 (F2,s2.2) (fun u hu hLu=>hLa u b.w hLu hpa hu) hF2e hlink fun K1 a1 w1 SS hd=>?_
     have hdstσ:∀x∈Pd,∀v,x.2.dst=some v->¬S v/\b.w.2.dst≠some v:=fun x hx v hv=>
      ⟨fun hs=>by
        obtain⟨⟨c,hc⟩,_⟩:=hS1 v hs
        exact hnotbox v ⟨x,hx,hv⟩ c hc,fun hd=>(hbef x (I.sub x hx).1).2.2.2.1 v hv hd⟩
     have hI2:Yw call opn ops Bf all σ0 ((q0++dC u)++[b.w]) (b.qs++dC bs) Pd s2.1 s2.2:=by
      refine⟨by rw[I.split,hro];simp,fun x hx=>⟨aE.2 (.inl (I.sub x hx).1),(I.sub x hx).2⟩,fun q hq' v hv=>?_,fun x hx=>?_⟩
      ·have hne:b.w.2.dst≠some v:=fun e=>(haft q hq').2.2.2.1 v e hv
       have h0:=I.unput q (by rw[hro];exact bT _ hq') v hv
       have hqa:q∈all:=by rw[I.split,hro];simp only[aE,aQ];exact .inr (.inr (by simpa using hq'))
       have hnS:¬S v:=fun hs=>by
        obtain⟨_,⟨c,hc⟩,_⟩:=hS1 v hs
        rw[h0]at hc
        exact rA (rB q hqa v hv) c hc
       rw[(hS2 v hnS hne).2];exact h0
      ·obtain⟨σi,hi',t,sv,f1,f2,f3,f4,f5,f6⟩:=I.fact x hx
       obtain⟨hnS,hnd⟩:=hdstσ x hx t f1
       have e3:s2.1.get t=some sv:=by rw[(hS2 t hnS hnd).2];exact f3
       cases hdf:x.2.op.deaf with
       |true=>
        refine⟨σi,hi',t,sv,f1,f2,e3,f4,fun v hv hn=>(f5 v hv hn).trans ?_,fun h=>by rw[hdf]at h;cases h⟩
        by_cases hs:S v
        ·obtain⟨_,⟨c,hc⟩,⟨c',hc'⟩,_⟩:=hS1 v hs
         exact .inr ⟨c,c',hc,hc'⟩
        ·by_cases hdv:b.w.2.dst=some v
         ·exact absurd ⟨b.w,hpa,(hbef x (I.sub x hx).1).2.2.2.2.1 v hv hdv,hdv⟩ hn
         ·exact .inl (hS2 v hs hdv).2
       |false=>
        rcases D.chk u bs b hbs x (I.sub x hx).1 (I.sub x hx).2 hdf with hbf|⟨hcs,hno⟩
        ·exact absurd hbf (hdone x (aE.2 (.inl hx)))
        ·have hsm:same call opn x.2 s2=true:=by
          simp only[pC,bE,bI,forall_exists_index,and_imp]at hsames
          exact hsames x.2 x hcs rfl
         have hev:fL call opn x.2 (s2.1,s2.2)=some (s2.1.put t sv,s2.2):=by
          unfold same at hsm
          have hfr:bF s2.1 t=true:=by
           cases sv with
           |box c=>
            rw[f1]at hsm
            split at hsm
            ·split at hsm
             ·rename_i t' _ hd'
              injection hd' with hd';subst hd'
              rw[rN,e3]at hsm
              obtain⟨q1,q2⟩:=hsm
              injection q1 with q1
              exact absurd q1.symm (q2 c)
             ·cases hsm
            ·simp[e3]at hsm
            ·cases hsm
           |val v=>simp[bF,e3]
           |lptr s o=>simp[bF,e3]
          simp only[fL,aA]
          rw[f1]at hsm |-
          split at hsm
          ·rename_i hw
           refine⟨true,hw,?_⟩
           split at hsm
           ·rename_i v s' t' hev' hd'
            injection hd' with hd';subst hd'
            rw[rN,e3]at hsm
            have hsv:sv=v:=by
             have:=hsm.1
             injection this
            have hst':=kW (I.sub x hx).2 hev'
            simp only[if_true,aA]
            refine⟨_,hev',?_⟩
            simp only[gL,hst',if_pos hfr,hsv]
           ·cases hsm
          ·rename_i hw
           refine⟨false,hw,?_⟩
           simp only[e3]at hsm
           have hsv:sv = .val (.tup []):=by
            cases sv with
            |val v'=>split at hsm
                     ·rename_i h;injection h with h
                     ·cases hsm
            |box c=>cases hsm
            |lptr s o=>cases hsm
           simp only[aR,if_false,gL,if_pos hfr,hsv]
          ·cases hsm
         refine⟨s2.1,s2.2,t,sv,f1,hev,e3,fun v hv hw=>?_,fun v _ _=>.inl rfl,fun _=>⟨rfl,fun _ _ h=>h⟩⟩
         obtain⟨q,hqa,hbf,hqd⟩:=hw
         exact absurd hqd (hno q hqa hbf v hv)
     obtain⟨g1,g2,g3⟩:=Ei D.pw D.own hI2 (D.quib b (by rw[hbs];simp)) hs3
     have hdone2:(q0++dC u)++[b.w]++b.qs=q0++dC (u++[b]):=by simp[dC,IB.its]
     rw[hdone2]at g2
     have hs3e:s3=(s3.1,s2.2):=by rw[<-g1]
     have hbqd:∀q∈b.qs,∀v,q.2.dst=some v->(¬∃x∈Pd,x.2.dst=some v)/\F2.get v = σ0.get v:=fun q hq' v hv=>by
      have hqr:q∈b.qs++dC bs:=aE.2 (.inl hq')
      have hnP:¬∃x∈Pd,x.2.dst=some v:=fun⟨x,hx,hdx⟩=>by
       have hpw2:=D.pw
       rw[<-hall,I.split,Eq]at hpw2
       exact(hpw2.2.2 x (I.sub x hx).1 q (by rw[hro];exact bT _ hqr)).2.2.2.1 v hdx hv
      refine⟨hnP,?_⟩
      have hne:b.w.2.dst≠some v:=fun e=>(haft q hqr).2.2.2.1 v e hv
      have h0:=hI2.unput q hqr v hv
      by_cases hs:S v
      ·rw[(hS1 v hs).2.2.2];exact h0
      ·rw[(hS2 v hs hne).1,hF2 v hnP,<-(hS2 v hs hne).2];exact h0
     refine ih bs (u++[b]) (Pd++b.qs) s3.1 s2.2 F2 K1 w1 a1 (listed.setIfInBounds b.w.1 true) (by rw[hbs];simp) (st.trans SS) (hd.trans hdf) (fun v hv=>?_) (fun v hv=>?_) g2 (by rw[<-hs3e];exact ev) (by simpa using hls) (fun j hj=>?_) hclo' ?_
     ·obtain⟨x,hx,hdx⟩:=hv
      rcases aE.1 hx with hx|hx
      ·obtain⟨hnS,hnd⟩:=hdstσ x hx v hdx
       rw[(hS2 v hnS hnd).1]
       exact hF1 v ⟨x,hx,hdx⟩
      ·exact(hbqd x hx v hdx).2
     ·have hnP:¬∃x∈Pd,x.2.dst=some v:=fun⟨x,hx,hdx⟩=>hv ⟨x,aE.2 (.inl hx),hdx⟩
      rw[g3 v fun q hq' e=>hv ⟨q,aE.2 (.inr hq'),e⟩]
      by_cases hs:S v
      ·exact(hS1 v hs).2.2.2
      ·by_cases hdv:b.w.2.dst=some v
       ·exact(hS3 v hdv).1
       ·rw[(hS2 v hs hdv).1,(hS2 v hs hdv).2];exact hF2 v hnP
     ·rw[hset]
      have hnin:∀x∈(Pd++b.qs)++dC bs,x.1≠b.w.1:=fun x hx e=>by
       rcases aE.1 hx with hx|hx
       ·rcases aE.1 hx with hx|hx
        ·exact(hbef x (I.sub x hx).1).1 e
        ·exact(haft x (aE.2 (.inl hx))).1 e.symm
       ·exact(haft x (aE.2 (.inr hx))).1 e.symm
      by_cases e:b.w.1=j
      ·subst e
       simp only[if_true,true_iff]
       rintro⟨x,hx,hxe⟩
       exact hnin x hx hxe
      ·rw[if_neg e,hlist j hj,hro]
       constructor
       ·rintro hh ⟨x,hx,hxe⟩
        refine hh ⟨x,?_,hxe⟩
        simp only[aE,aQ]at hx |-
        rcases hx with (hx|hx)|hx
        ·exact .inl hx
        ·exact .inr (.inr (.inl hx))
        ·exact .inr (.inr (.inr hx))
       ·rintro hh ⟨x,hx,hxe⟩
        simp only[aE,aQ]at hx
        rcases hx with hx|rfl|hx|hx
        ·exact hh ⟨x,by simp[hx],hxe⟩
        ·exact e hxe
        ·exact hh ⟨x,by simp[hx],hxe⟩
        ·exact hh ⟨x,by simp[hx],hxe⟩
     ·rw[hro]at hfu
      simp only[aV,eE]at hfu |-
      omega
 have I0:Yw call opn ops Bf all σ0 [] (q0++dC bs0) [] σ0 h0:=⟨by simp[hall],by simp,fun q _ v _=>rfl,by simp⟩
 obtain⟨g1,g2,g3⟩:=Ei D.pw D.own I0 D.qui hsA
 refine wpIn_region_any hm ?_
 have hsAe:sA=(sA.1,h0):=by rw[<-g1]
 refine key ops.size bs0 [] q0 sA.1 h0 σ0 K0 { w0 with drawn:=w0.drawn+1 } a0 (Array.replicate ops.size false) rfl (.refl g0) rfl (fun v _=>rfl) (fun v hv=>?_) ?_ (by rw[<-hsAe];exact ev0) (by simp) (fun i hi=>?_) (fun i o hi=>?_) ?_
 ·exact(g3 v fun q hq' e=>hv ⟨q,hq',e⟩).symm
 ·have e1:q0++dC []=[]++q0:=by simp[dC]
  have e2:([]:List NI)++q0=q0:=rfl
  rw[e2]at g2
  rw[e1,e2]
  exact g2
 ·obtain⟨p,hp,hpi⟩:=D.all i hi
  constructor
  ·intro hh
   rw[dA]at hh
   simp[hi]at hh
  ·intro hh
   exact absurd ⟨p,hp,hpi⟩ hh
 ·rw[dA]at hi
  rw[Array.getElem?_replicate]at hi
  split at hi<;>simp at hi
 ·have:=D.len
  rw[aV]at this;exact this
end
end Go.Ideal
namespace Go.Ideal
mutual
def xK:IV->Value->Bool
 |.bool a,.bool b=>a==b
 |.int k a,.int l b=>decide (k=l)&&a==b
 |.str s,.string b=>s==b.data.toList
 |.nilp,.pointer a=>a.isNone
 |.nils,.slice a n m=>a.isNone&&n==0&&m==0
 |.nili,.nilIface=>true
 |.nilf,.nilFunc=>true
 |.agg cs,.agg vs=>mE cs vs.toList&&cs.all IV.one
 |.tup cs,.tuple vs=>mE cs vs.toList
 |_,_=>false
def mE:List IV->List Value->Bool
 |[],[]=>true
 |c::cs,v::vs=>xK c v&&mE cs vs
 |_,_=>false
end
mutual
theorem zM:∀(c:IV) (v:Value),xK c v=true->CR c v:=by
 intro c v e K H h
 cases c<;>cases v<;>simp only[xK]at e<;>try (cases e;done)
 case bool.bool a b=>simp at e;subst e;exact .bool _
 case int.int k a l b=>simp at e;obtain⟨rfl,rfl⟩:=e;exact .int _ _
 case str.string s b=>exact .str' (by simpa using (eq_of_beq e).symm)
 case nilp.pointer a=>cases a with
  |none=>exact .nilp
  |some a=>simp at e
 case nils.slice a n m=>
  cases a with
  |none=>simp at e;obtain⟨rfl,rfl⟩:=e;exact .nils
  |some a=>simp at e
 case nili.nilIface=>exact .nili
 case nilf.nilFunc=>exact .nilf
 case agg.agg cs vs=>
  simp only[aF,bE]at e
  exact bS.agg_iff.2 ⟨e.2,vs.toList,by simp,oL cs vs.toList e.1 K H h⟩
 case tup.tuple cs vs=>exact bS.tup_iff.2 ⟨vs.toList,by simp,oL cs vs.toList e K H h⟩
theorem oL:∀(cs:List IV) (vs:List Value),mE cs vs=true->Lc cs vs:=by
 intro cs vs e K H h
 match cs,vs,e with
 |[],[],_=>exact .nil
 |c::cs,v::vs,e=>
  simp only[mE,aF]at e
  exact .cons (zM c v e.1 K H h) (oL cs vs e.2 K H h)
 |[],_::_,e=>simp[mE]at e
 |_::_,[],e=>simp[mE]at e
end
def kU:Operand->SX->Bool
 |.tmp t,.t s=>t==s&&decide (t<lK)
 |.const v,.c iv=>xK iv v
 |.func f,.f g=>f==g
 |_,_=>false
theorem cI {x:Operand} {sx:SX} (e:kU x sx=true):bG x sx:=by
 cases x<;>cases sx<;>simp only[kU]at e<;>try (cases e;done)
 ·simp only[aF,beq_iff_eq,decide_eq_true_eq]at e;obtain⟨rfl,e⟩:=e;exact .tmp _ e
 ·exact .const _ _ (zM _ _ e)
 ·have:=eq_of_beq e;subst this;exact .func _
def Tm:Option Operand->Option SX->Bool
 |none,none=>true
 |some x,some sx=>kU x sx
 |_,_=>false
theorem sW {x:Option Operand} {sx:Option SX} (e:Tm x sx=true):lM x sx:=by
 cases x<;>cases sx<;>simp only[Tm]at e<;>try (cases e;done)
 ·exact .none
 ·exact .some (cI e)
def At:List Operand->List SX->Bool
 |[],[]=>true
 |x::xs,s::ss=>kU x s&&At xs ss
 |_,_=>false
theorem rW:∀{xs:List Operand} {ss:List SX},At xs ss=true->qK xs ss
 |[],[],_=>.nil
 |x::xs,s::ss,e=>by
  simp only[At,aF]at e
  exact .cons (cI e.1) (rW e.2)
 |[],_::_,e=>by simp[At]at e
 |_::_,[],e=>by simp[At]at e
section
variable (P:Program)
def xW (t:TypeId) (n:Nat):Bool:=(P.info? t).any fun i=>i.size==n
def Ba (t:TypeId) (n:Option Nat):Bool:=
 match P.underlying t with
 |some d=>(match n with
  |some n=>sM d&&xW P t n
  |none=>!sM d)
 |none=>false
def oJ (t:TypeId):Option TypeId:=
 match P.underlying t with
 |some (.slice e)=>some e
 |_=>none
def Kh (t:TypeId):Option (Nat×TypeId):=
 match P.underlying t with
 |some (.array n e)=>some (n,e)
 |_=>none
def lJ (t:TypeId):Bool:=
 match P.underlying t with
 |some .string=>true
 |_=>false
def Bx (t:TypeId):Option IntKind:=
 match P.underlying t with
 |some (.int k)=>some k
 |_=>none
def Qc (t:TypeId):Bool:=Bx P t==some .u8
def Nu (t:TypeId):Option Value:=(P.info? t).bind (·.zero)
def uR (t:TypeId) (n:Nat):Bool:=(P.info? t).any fun i=>i.bytes==n
def Uz (t:TypeId) (zs:List IV):Bool:=
 match Nu P t with
 |some z=>mE zs z.cells.toList&&zs.all IV.one
 |none=>false
variable {P}
theorem qS {t:TypeId} {n:Nat} (e:xW P t n=true):Aw P t n:=by
 unfold xW at e;unfold Aw
 cases h:P.info? t with
 |none=>rw[h]at e;cases e
 |some i=>rw[h]at e;simp at e;simp[e]
theorem tG {t:TypeId} {n:Nat} (e:uR P t n=true):(P.info? t).map (·.bytes)=some n:=by
 unfold uR at e
 cases h:P.info? t with
 |none=>rw[h]at e;cases e
 |some i=>rw[h]at e;simp at e;simp[e]
theorem tN {t:TypeId} {n:Option Nat} (e:Ba P t n=true):Au P t n:=by
 unfold Ba at e
 split at e
 ·rename_i d hd
  refine⟨d,hd,?_⟩
  cases n with
  |none=>simpa using e
  |some n=>
   simp only[aF]at e
   exact⟨e.1,qS e.2⟩
 ·cases e
theorem lR {t e:TypeId} (h:oJ P t=some e):P.underlying t=some (.slice e):=by
 unfold oJ at h
 split at h
 ·rename_i hd;injection h with h;subst h;exact hd
 ·cases h
theorem Fy {t e:TypeId} {n:Nat} (h:Kh P t=some (n,e)):P.underlying t=some (.array n e):=by
 unfold Kh at h
 split at h
 ·rename_i hd;injection h with h;injection h with h1 h2;subst h1;subst h2;exact hd
 ·cases h
theorem mD {t:TypeId} (h:lJ P t=true):P.underlying t=some .string:=by
 unfold lJ at h
 split at h
 ·assumption
 ·cases h
theorem yZ {t:TypeId} {k:IntKind} (h:Bx P t=some k):P.underlying t=some (.int k):=by
 unfold Bx at h
 split at h
 ·rename_i hd;injection h with h;subst h;exact hd
 ·cases h
theorem Dp {t:TypeId} (h:Qc P t=true):P.underlying t=some (.int .u8):=yZ (by
 unfold Qc at h
 cases hh:Bx P t with
 |none=>rw[hh]at h;cases h
 |some k=>rw[hh]at h;cases k<;>first|rfl|cases h)
theorem vI {t:TypeId} {zs:List IV} (e:Uz P t zs=true):∃z:Value,(P.info? t).bind (·.zero)=some z/\Lc zs z.cells.toList/\∀c∈zs,c.one=true:=by
 unfold Uz at e
 split at e
 ·rename_i z hz
  simp only[aF,bE]at e
  exact⟨z,hz,oL _ _ e.1,e.2⟩
 ·cases e
def oU (P:Program) (t:TypeId) (sz:Nat):Option TypeId:=
 match oJ P t with
 |some e=>if xW P e sz then some e else none
 |none=>none
theorem kX {t e:TypeId} {sz:Nat} (h:oU P t sz=some e):qG P t e sz:=by
 unfold oU at h
 split at h
 ·rename_i e' he
  split at h
  ·rename_i hs
   injection h with h;subst h
   exact⟨lR he,qS hs⟩
  ·cases h
 ·cases h
def pQ (place:Nat->Option (Nat×Nat)):List (Nat×Operand)->List (Nat×Nat×SX)->Bool
 |[],[]=>true
 |(i,x)::r,(off,n,sx)::r'=>(place i==some (off,n))&&kU x sx&&pQ place r r'
 |_,_=>false
theorem sV {place:Nat->Option (Nat×Nat)}:∀{r:List (Nat×Operand)} {r':List (Nat×Nat×SX)},pQ place r r'=true->vB place r r'
 |[],[],_=>.nil
 |(i,x)::r,(off,n,sx)::r',e=>by
  simp only[pQ,aF]at e
  exact .cons i off n x sx r r' (eq_of_beq e.1.1) (cI e.1.2) (sV e.2)
 |[],_::_,e=>by simp[pQ]at e
 |_::_,[],e=>by simp[pQ]at e
def Dh (P:Program) (t:TypeId):Option (Nat->Option (Nat×Nat)):=
 match P.info? t,P.underlying t with
 |some it,some (.array _ e)=>
  match it.zero,P.info? e with
  |some _,some ie=>some fun i=>some (i*ie.size,ie.size)
  |_,_=>none
 |some it,some (.struct fields)=>
  match it.zero,fields.toList.mapM (fun f=>(P.info? f.type).map fun i=>(f.offset,i.size)) with
  |some _,some places=>some (places.toArray[·]?)
  |_,_=>none
 |_,_=>none
theorem Hz {t:TypeId} {place:Nat->Option (Nat×Nat)} {z:Value} (h:Dh P t=some place) (hz:(P.info? t).bind (·.zero)=some z):∀l,P.built t l=Instr.fill place z.cells l:=by
 intro l
 unfold Dh at h
 unfold Program.built
 cases hi:P.info? t with
 |none=>simp[hi]at hz
 |some it=>
  rw[hi]at h
  simp only[hi,aB]at hz
  cases hu:P.underlying t with
  |none=>simp[hu]at h
  |some d=>
   rw[hu]at h
   cases d<;>simp only at h |-<;>try (cases h;done)
   ·split at h
    ·rename_i z' ie hz' hie
     rw[hz]at hz';injection hz' with hz';subst hz'
     injection h with h;subst h
     simp only[hz,hie]
    ·cases h
   ·split at h
    ·rename_i z' places hz' hpl
     rw[hz]at hz';injection hz' with hz';subst hz'
     injection h with h;subst h
     simp only[hz,hpl]
    ·cases h
end
end Go.Ideal
namespace Go.Ideal
deriving instance DecidableEq for LK
def vL:LK->Value->Value->Option Bool
 |.i k,.int l a,.int m b=>if k=l/\k=m then some (a==b) else none
 |.b,.bool a,.bool b=>some (a==b)
 |.s,.string a,.string b=>some (a.toList==b.toList)
 |_,_,_=>none
def vC:List LK->List Value->List Value->Option Bool
 |[],[],[]=>some true
 |k::ks,x::xs,y::ys=>(vL k x y).bind fun a=>(vC ks xs ys).bind fun b=>some (a&&b)
 |_,_,_=>none
theorem Xv {K:Kx} {H:gC} {h:aN} {k:LK} {x y:IV} {vx vy:Value} {b:Bool} (h1:bS K H h x vx) (h2:bS K H h y vy) (e:Xw k x y=some b):vL k vx vy=some b:=by
 cases k<;>cases x<;>cases y<;>simp only[Xw]at e<;>try (cases e;done)
 ·cases h1;cases h2;exact e
 ·cases h1;cases h2;exact e
 ·cases h1;cases h2
  simp only[vL]
  rw[ByteArray.toList_eq,ByteArray.toList_eq]
  exact e
theorem Qo:∀{ks:List LK} {cx cy:List IV} {K:Kx} {H:gC} {h:aN} {xs ys:List Value} {b:Bool},dE K H h cx xs->dE K H h cy ys->Ideal.eqC ks cx cy=some b->vC ks xs ys=some b
 |[],[],[],K,H,h,xs,ys,b,h1,h2,e=>by rw[h1.nil_inv,h2.nil_inv];exact e
 |k::ks,x::cx,y::cy,K,H,h,xs,ys,b,h1,h2,e=>by
  obtain⟨vx,rx,rfl,hx,h1⟩:=h1.cons_inv
  obtain⟨vy,ry,rfl,hy,h2⟩:=h2.cons_inv
  simp only[Ideal.eqC,eM]at e
  obtain⟨a,ha,b',hb,e⟩:=e
  simp only[vC,Xv hx hy ha,Qo h1 h2 hb,aB]
  exact e
 |[],_::_,_,K,H,h,xs,ys,b,h1,h2,e=>by simp[Ideal.eqC]at e
 |[],[],_::_,K,H,h,xs,ys,b,h1,h2,e=>by simp[Ideal.eqC]at e
 |_::_,[],_,K,H,h,xs,ys,b,h1,h2,e=>by simp[Ideal.eqC]at e
 |_::_,_::_,[],K,H,h,xs,ys,b,h1,h2,e=>by simp[Ideal.eqC]at e
theorem Bb:∀{ks:List LK} {xs ys:List Value} {b:Bool},vC ks xs ys=some b->xs.length=ks.length/\ys.length=ks.length
 |[],[],[],b,e=>by simp
 |k::ks,x::xs,y::ys,b,e=>by
  simp only[vC,eM]at e
  obtain⟨a,ha,b',hb,e⟩:=e
  have:=Bb hb
  simp[this.1,this.2]
 |[],_::_,_,b,e=>by simp[vC]at e
 |[],[],_::_,b,e=>by simp[vC]at e
 |_::_,[],_,b,e=>by simp[vC]at e
 |_::_,_::_,[],b,e=>by simp[vC]at e
theorem vJ:∀{ks ks':List LK} {xs ys:List Value} {b:Bool},vC (ks++ks') xs ys=some b->
 ∃b1 b2,vC ks (xs.take ks.length) (ys.take ks.length)=some b1/\vC ks' (xs.drop ks.length) (ys.drop ks.length)=some b2/\b=(b1&&b2)
 |[],ks',xs,ys,b,e=>⟨true,b,by simp[vC],by simpa using e,by simp⟩
 |k::ks,ks',x::xs,y::ys,b,e=>by
  simp only[cG,vC,eM]at e
  obtain⟨a,ha,b',hb,e⟩:=e
  injection e with e
  obtain⟨b1,b2,h1,h2,rfl⟩:=vJ hb
  refine⟨a&&b1,b2,?_,by simpa using h2,by rw[<-e,Bool.and_assoc]⟩
  simp[vC,ha,h1]
 |_::_,_,[],_,b,e=>by simp[vC]at e
 |_::_,_,_::_,[],b,e=>by simp[vC]at e
section
variable (P:Program)
def uN (f:TypeId->Option (List LK)):Nat->List Field->Option (List LK)
 |_,[]=>some []
 | o, fd :: r => if fd.name == "_" || fd.offset != o then none else
   match f fd.type with
   |none=>none
   |some ks=>if P.cellsOf fd.type==ks.length then (uN f (o+ks.length) r).map (ks++·) else none
def kP:Nat->TypeId->Option (List LK)
 |0,_=>none
 |m+1,t=>match P.underlying t with
  |some .bool=>some [.b]
  |some (.int k)=>some [.i k]
  |some .string=>some [.s]
  |some (.array n e)=>match kP m e with
   |none=>none
   |some ks=>if P.cellsOf e==ks.length&&(P.info? e).isSome then some (List.replicate n ks).flatten else none
  |some (.struct fs)=>if P.stoodInHeld t then none else uN P (kP m) 0 fs.toList
  |_=>none
end
section
variable {P:Program} (w:World)
def oT:Value->Bool
 |.agg _=>true
 |_=>false
def qC (P:Program) (t:TypeId):Bool:=match P.underlying t with|some d=>sM d|none=>false
def Es (P:Program) (d:Nat) (t:TypeId) (ks:List LK):Prop:=
 ∀(w:World) (x y:Value) (b:Bool),oT x=qC P t->oT y=qC P t->
  vC ks x.cells.toList y.cells.toList=some b->(Op.equalIn d t x y).run P w = .ok b w
theorem Pr {m:Nat} {t:TypeId} {ks:List LK} (h:kP P m t=some ks):∃d,P.underlying t=some d:=by
 cases m with
 |zero=>simp[kP]at h
 |succ m=>
  unfold kP at h
  cases hu:P.underlying t with
  |none=>simp[hu]at h
  |some d=>exact⟨d,rfl⟩
theorem Bo {d:Nat} {e:TypeId} {ks:List LK} (hl:∃m,kP P m e=some ks) (hs:P.cellsOf e=ks.length) {xs ys:Array Value} {off:Nat} {b:Bool} (ih:Es P d e ks)
 (hv:vC ks ((xs.toList.drop off).take ks.length) ((ys.toList.drop off).take ks.length)=some b):
 ∃x y,(Go.part e xs off).run P w = .ok x w/\(Go.part e ys off).run P w = .ok y w/\(Op.equalIn d e x y).run P w = .ok b w:=by
 obtain⟨m,hm⟩:=hl
 obtain⟨dd,hd⟩:=Pr hm
 obtain⟨i,hi⟩:=info_of_underlying hd
 cases ha:sM dd with
 |true=>
  refine⟨.agg (xs.extract off (off+ks.length)),.agg (ys.extract off (off+ks.length)),?_,?_,?_⟩
  ·simp only[Go.part,aO,nA hd,aH,ha,if_true,run_sizeOf w hi,hs,aU]
  ·simp only[Go.part,aO,nA hd,aH,ha,if_true,run_sizeOf w hi,hs,aU]
  ·refine ih w _ _ b (by simp[qC,oT,hd,ha]) (by simp[qC,oT,hd,ha]) ?_
   have:∀zs:Array Value,(zs.extract off (off+ks.length)).toList=(zs.toList.drop off).take ks.length:=fun zs=>by
    rw[Array.toList_extract];simp[List.extract]
   simp only[Value.cells,this]
   exact hv
 |false=>
  have hk:∃k,ks=[k]:=by
   cases m with
   |zero=>simp[kP]at hm
   |succ m=>
    unfold kP at hm
    simp only[hd]at hm
    cases dd<;>simp[sM]at ha hm<;>exact⟨_,hm.symm⟩
  obtain⟨k,rfl⟩:=hk
  have hlen:=Bb hv
  have one:∀zs:Array Value,((zs.toList.drop off).take 1).length=1->∃a,(zs.toList.drop off).take 1=[a]:=fun zs hz=>iS.1 hz
  obtain⟨x,hx⟩:=one xs hlen.1
  obtain⟨y,hy⟩:=one ys hlen.2
  simp only[gS]at hv
  rw[hx,hy]at hv
  have nag:oT x=false/\oT y=false/\x.cells.toList=[x]/\y.cells.toList=[y]:=by
   simp only[vC,eM]at hv
   obtain⟨a,ha,_⟩:=hv
   clear hx hy hlen ih
   cases k<;>cases x<;>simp only[vL]at ha<;>try (cases ha;done)
   all_goals (cases y<;>simp only[vL]at ha<;>try (cases ha;done))
   all_goals exact⟨rfl,rfl,rfl,rfl⟩
  refine⟨x,y,?_,?_,ih w x y b (by simp[qC,hd,ha,nag.1]) (by simp[qC,hd,ha,nag.2.1]) (by rw[nag.2.2.1,nag.2.2.2];exact hv)⟩
  ·simp only[Go.part,aO,nA hd,aH,ha,aR,if_false,getElem?_of_chunk hx,aU]
  ·simp only[Go.part,aO,nA hd,aH,ha,aR,if_false,getElem?_of_chunk hy,aU]
theorem wS {d m:Nat} (ih:∀t ks,kP P m t=some ks->Es P d t ks) (xs ys:Array Value):∀(fs:List Field) (o:Nat) (ks:List LK) (b:Bool),uN P (kP P m) o fs=some ks->vC ks (xs.toList.drop o) (ys.toList.drop o)=some b->
 (Op.eqFields d xs ys fs).run P w = .ok b w
 |[],o,ks,b,h,hv=>by
  simp only[uN,aD]at h;subst h
  have:b=true:=by
   revert hv
   generalize xs.toList.drop o=l1;generalize ys.toList.drop o=l2
   intro hv
   cases l1<;>cases l2<;>simp[vC]at hv
   exact hv
  subst this
  simp[Op.eqFields]
 |f::fs,o,ks,b,h,hv=>by
  simp only[uN]at h
  split at h
  ·cases h
  ·rename_i hn
   simp only[cV,beq_iff_eq,bne_iff_ne,ne_eq,not_or,Decidable.not_not]at hn
   split at h
   ·cases h
   ·rename_i ks1 hk1
    split at h
    ·rename_i hs
     simp only[aZ]at h
     obtain⟨ks2,hk2,rfl⟩:=h
     obtain⟨b1,b2,h1,h2,rfl⟩:=vJ hv
     rw[cM,cM]at h2
     obtain⟨x,y,p1,p2,p3⟩:=Bo w ⟨m,hk1⟩ (by simpa using hs) (ih _ _ hk1) h1
     have h3:=wS ih xs ys fs _ ks2 b2 hk2 h2
     simp only[Op.eqFields,hn.1,ne_eq,not_false_eq_true,if_true,aO,hn.2,p1,p2,p3,aH]
     cases b1
     ·simp
     ·simpa using h3
    ·cases h
theorem yY {d m:Nat} {e:TypeId} {ks:List LK} (hl:kP P m e=some ks) (hs:P.cellsOf e=ks.length) (ih:Es P d e ks) (xs ys:Array Value):∀(n o:Nat) (b:Bool),vC (List.replicate n ks).flatten (xs.toList.drop (o*ks.length)) (ys.toList.drop (o*ks.length))=some b->
 (Op.eqItems d e (P.cellsOf e) xs ys (List.range' o n)).run P w = .ok b w
 |0,o,b,hv=>by
  have:b=true:=by
   revert hv
   generalize xs.toList.drop _=l1;generalize ys.toList.drop _=l2
   intro hv
   cases l1<;>cases l2<;>simp[vC]at hv
   exact hv
  subst this
  simp[Op.eqItems]
 |n+1,o,b,hv=>by
  simp only[sI,cB]at hv
  obtain⟨b1,b2,h1,h2,rfl⟩:=vJ hv
  rw[cM,cM]at h2
  have hh:o*ks.length+ks.length=(o+1)*ks.length:=by rw[cJ,kM]
  rw[hh]at h2
  obtain⟨x,y,p1,p2,p3⟩:=Bo w ⟨m,hl⟩ hs ih h1
  have h3:=yY hl hs ih xs ys n _ b2 h2
  rw[List.range'_succ]
  rw[hs]at h3 |-
  simp only[Op.eqItems,aO,p1,p2,p3,aH]
  cases b1
  ·simp
  ·simpa using h3
theorem vS (d:Nat):∀(m:Nat) (t:TypeId) (ks:List LK),kP P m t=some ks->Es P (d+m) t ks
 |0,_,_,h=>by simp[kP]at h
 |m+1,t,ks,h=>by
  intro w x y b hx hy hv
  unfold kP at h
  cases hu:P.underlying t with
  |none=>simp[hu]at h
  |some dd=>
   simp only[hu]at h
   simp only[qC,hu]at hx hy
   cases dd<;>simp only at h<;>try (cases h;done)
   case bool=>
    injection h with h;subst h
    cases x<;>cases y<;>simp_all [oT,sM,vC,vL,Value.cells]
    rw[<-hv]
    exact run_equalIn_bool' w (d+m) t _ _ hu
   case int k=>
    injection h with h;subst h
    cases x<;>cases y<;>simp_all [oT,sM,vC,vL,Value.cells]
    rename_i k1 a k2 c
    obtain⟨⟨h1,h2⟩,h3⟩:=hv
    subst h1;subst h2;subst h3
    exact run_equalIn_int w (d+m) t _ _ _ _ hu
   case string=>
    injection h with h;subst h
    cases x<;>cases y<;>simp_all [oT,sM,vC,vL,Value.cells]
    rw[<-hv]
    exact run_equalIn_string w (d+m) t _ _ hu
   case array n e=>
    split at h
    ·cases h
    ·rename_i ks' hk
     split at h
     ·rename_i hs
      injection h with h;subst h
      simp only[aF,beq_iff_eq]at hs
      obtain⟨i,hi⟩:=dD.1 hs.2
      cases x<;>simp[oT,sM]at hx
      cases y<;>simp[oT,sM]at hy
      rw[show d+(m+1)=(d+m)+1 from rfl,run_equalIn_array w (d+m) _ _ hu hi,Ep]
      exact yY w hk hs.1 (vS d m e ks' hk) _ _ n 0 b (by simpa [Value.cells]using hv)
     ·cases h
   case struct fs=>
    split at h
    ·cases h
    ·rename_i hst
     cases x<;>simp[oT,sM]at hx
     cases y<;>simp[oT,sM]at hy
     have hfs:P.fieldsOf t=fs:=by simp[Program.fieldsOf,hu]
     rw[show d+(m+1)=(d+m)+1 from rfl,run_equalIn_struct w (d+m) t _ _ (by rw[hfs];exact hu) (by simpa using hst),hfs]
     exact wS w (fun t ks hk=>vS d m t ks hk) _ _ fs.toList 0 ks b h (by simpa [Value.cells]using hv)
end
def Do (P:Program) (t:TypeId) (ks:List LK):Bool:=
 qC P t&&match kP P 20 t,ks with
 |some ks',ks=>decide (ks'=ks)
 |none,_=>false
theorem Ie {P:Program} {t:TypeId} {ks:List LK} (e:Do P t ks=true):∀(w:World) (xs ys:List Value) (cx cy:List IV) (b:Bool) (K:Kx) (H:gC) (h:aN),dE K H h cx xs->dE K H h cy ys->Ideal.eqC ks cx cy=some b->(Op.equalIn Op.maxDepth t (.agg xs.toArray) (.agg ys.toArray)).run P w = .ok b w:=by
 intro w xs ys cx cy b K H h h1 h2 he
 simp only[Do,aF]at e
 obtain⟨ea,e⟩:=e
 split at e
 ·rename_i ks' ks0 hk
  have hk':=of_decide_eq_true e
  subst hk'
  have:=vS (P:=P) (10000-20) 20 t _ hk w (.agg xs.toArray) (.agg ys.toArray) b (by simp[oT,ea]) (by simp[oT,ea]) (by simpa [Value.cells]using Qo h1 h2 he)
  exact this
 ·cases e
end Go.Ideal
namespace Go.Ideal
section
variable (P:Program)
def Fu (t:TypeId):Option (Array Field):=
 match P.underlying t with
 |some (.struct fs)=>some fs
 |_=>none
def Uc (t:TypeId):ET->Bool
 |.leaf .b=>match P.underlying t with|some .bool=>true|_=>false
 |.leaf _=>false
 |.ptr=>match P.underlying t with|some (.pointer _)=>true|_=>false
 |.sl=>match P.underlying t with|some (.slice _)=>true|_=>false
 |.fnc=>match P.underlying t with|some (.func _ _ _)=>true|_=>false
 |.cells ks=>!(P.eqGuardType P.depth t)&&Do P t ks
def xJ (t:TypeId) (i off:Nat) (f:TypeId->Bool):Bool:=
 match Fu P t with
 |some fs=>match fs[i]? with
  |some fd=>fd.offset==off&&f fd.type
  |none=>false
 |none=>false
def Gw (t:TypeId) (n sz:Nat) (f:TypeId->Bool):Bool:=
 match Kh P t with
 |some (n',e)=>n'==n&&xW P e sz&&f e
 |none=>false
def Vw (e:TypeId) (sz:Nat):Bool:=
 match Nu P e with
 |some z=>z.cells.size==sz&&z.cells.toList.all Value.oneCell'
 |none=>false
def Ia (t:TypeId):Bool:=
 match P.underlying t with
 |some (.int _)=>false
 |some _=>true
 |none=>false
def Qe (P:Program) (t:TypeId):Bool:=match P.underlying t with
 |some (.int .i64)=>true
 |_=>false
def ptrOk (pr:Bool) (t:TypeId):Bool:=match P.underlying t with
 |some (.pointer _)=>pr
 |some _=>!pr
 |none=>false
def mlkOk (m:String) (t f:Nat) (sel:Option (Nat×Nat)):Bool:=match P.info? t with
 |some i=>match i.methods.find? (·.name==m) with
  |some me=>match me.func with
   |some (f',pr)=>f'==f&&(match sel,me.path.toList with
    |none,[]=>ptrOk P pr t
    |some (off,n),[s]=>!s.deref&&(match P.underlying s.struct with
     |some (.struct fs)=>(match fs[s.index]? with
      |some fd=>fd.offset==off&&Ba P fd.type (some n)&&ptrOk P pr fd.type
      |none=>false)
     |_=>false)
    |_,_=>false)
   |none=>false
  |none=>false
 |none=>false
def Ja (c:Call):gQ->Bool
 |.bad=>true
 |.call f args=>(match c.callee with | .value (.func g)=>f==g|_=>false)&&At c.args.toList args
 |.callc f args=>(match c.callee with | .value (.func g)=>f==g|_=>false)&&At c.args.toList args
 |.callv f args=>(match c.callee with | .value g=>kU g f|_=>false)&&At c.args.toList args
 |.callm tab x args=>(match c.callee with | .invoke g m=>kU g x&&tab.all (fun r=>mlkOk P m r.1 r.2.1 r.2.2)|_=>false)&&At c.args.toList args
 |.app sz bytes x y=>(match c.callee with | .builtin .append=>true|_=>false)&&match c.args.toList,c.argTypes.toList with
  |[x',y'],[t,t2]=>kU x' x&&kU y' y&&Ia P t2&&match oU P t sz with
   |some e=>uR P e bytes&&Vw P e sz
   |none=>false
  |_,_=>false
 |.appz sz bytes zs x n=>(match c.callee with | .builtin .append=>true|_=>false)&&match c.args.toList,c.argTypes.toList with
  |[x',n'],[t,t2]=>kU x' x&&kU n' n&&Qe P t2&&(match oU P t sz with|some e=>Uz P e zs&&uR P e bytes|none=>false)
  |_,_=>false
 |.clr sz zs x=>(match c.callee with | .builtin .clear=>true|_=>false)&&match c.args.toList,c.argTypes.toList with
  |[x'],[t]=>kU x' x&&(match oU P t sz with|some e=>Uz P e zs|none=>false)
  |_,_=>false
 |.cpy sz x y=>(match c.callee with | .builtin .copy=>true|_=>false)&&match c.args.toList,c.argTypes.toList with
  |[x',y'],[t,t2]=>kU x' x&&kU y' y&&(oU P t sz).isSome
  |_,_=>false
 |.len b x=>(match c.callee with | .builtin .len=>true|_=>false)&&match c.args.toList,c.argTypes.toList with
  |[x'],[t]=>kU x' x&&if b then lJ P t else (oJ P t).isSome
  |_,_=>false
 |.lenA n=>(match c.callee with | .builtin .len=>true|_=>false)&&match c.args.toList,c.argTypes.toList with
  |[x'],[t]=>match Kh P t with
   |some (n',_)=>n'==n
   |none=>false
  |_,_=>false
 |.cap x=>(match c.callee with | .builtin .cap=>true|_=>false)&&match c.args.toList,c.argTypes.toList with
  |[x'],[t]=>kU x' x&&(oJ P t).isSome
  |_,_=>false
 |.mn x y=>(match c.callee with | .builtin .min=>true|_=>false)&&match c.args.toList with
  |[x',y']=>kU x' x&&kU y' y
  |_=>false
 |.mx x y=>(match c.callee with | .builtin .max=>true|_=>false)&&match c.args.toList with
  |[x',y']=>kU x' x&&kU y' y
  |_=>false
 |_=>false
def Km:Op->gQ->Bool
 |.move x,.mov sx=>kU x sx
 |.assign x,.mov sx=>kU x sx
 |.pick c a b,.pick sc sa sb=>kU c sc&&kU a sa&&kU b sb
 |.alloc e,.alloc loc sz es=>Uz P e es.flatten
 |.box e x,.box loc sx=>kU x sx
 |.box e x,.boxA sx=>kU x sx
 |.build t ps,.build zs ps'=>match Dh P t with
  |some place=>pQ place ps.toList ps'&&Uz P t zs
  |none=>false
 |.buildSlice t len ps,.bsl own sz zs len' ps'=>len==len'&&match oU P t sz with
  |some e=>Uz P e zs&&pQ (fun i=>some (i*sz,sz)) ps.toList (ps'.map fun p=>(p.1*sz,sz,p.2))
  |none=>false
 |.load t a,.load n sa=>kU a sa&&Ba P t n
 |.store t a x,.store n sa sx=>kU a sa&&kU x sx&&xW P t n
 |.nilCheck x,.nilc sx=>kU x sx
 |.binOp op t x y yt,.bin op' sx sy=>decide (op=op')&&kU x sx&&kU y sy
 |.binOp op t x y yt,.eq neg et sx sy=>decide (op=if neg then .neq else .eql)&&kU x sx&&kU y sy&&Uc P t et
 |.unOp op t x,.un op' sx=>decide (op=op')&&kU x sx
 |.convert src dst x,.cvI k sx=>kU x sx&&(P.underlying src).isSome&&Bx P dst==some k
 |.convert src dst x,.cvSB own sx=>kU x sx&&(P.underlying src).isSome&&(match oJ P dst with|some e=>Qc P e|none=>false)
 |.convert src dst x,.cvLL sx=>src==dst&&kU x sx&&(match oJ P src with|some e=>Qc P e|none=>false)
 |.convert src dst x,.cvBS sx=>kU x sx&&lJ P dst&&(match oJ P src with|some e=>Qc P e&&xW P e 1|none=>false)
 |.convert src dst x,.cvIS sx=>kU x sx&&lJ P dst&&(Bx P src).isSome
 |.convert src dst x,.cvSS sx=>kU x sx&&lJ P dst&&lJ P src
 |.typeAssert x xt t ok,.asrt ok' t' ag zs sx=>ok==ok'&&t==t'&&kU x sx&&(match P.underlying t with|some (.interface _)=>false|some _=>true|none=>false)&&Uz P t zs&&
   (match Nu P t with|some (.agg _)=>ag|some (.tuple _)=>false|some _=>!ag|none=>false)
 |.makeInterface t x,.mkI t' sx=>t==t'&&kU x sx&&P.concrete t
 |.makeFunc f a b,.mkF f' a' b'=>decide (f=f')&&At a.toList a'&&At b.toList b'
 |.makeSlice t l c,.mks sz zs bytes sl sc=>kU l sl&&kU c sc&&match oU P t sz with
  |some e=>Uz P e zs&&uR P e bytes
  |none=>false
 |.slice t x lo hi mx,.slS sx slo shi=>mx.isNone&&kU x sx&&Tm lo slo&&Tm hi shi&&lJ P t
 |.slice t x lo hi mx,.slL sz sx slo shi smx=>kU x sx&&Tm lo slo&&Tm hi shi&&Tm mx smx&&(oU P t sz).isSome&&(mx.isNone||hi.isSome)
 |.slice t x lo hi mx,.slA n sz sx slo shi=>mx.isNone&&kU x sx&&Tm lo slo&&Tm hi shi&&Gw P t n sz fun _=>true
 |.fieldAddr t x i,.fadr off sx=>kU x sx&&xJ P t i off fun t=>match P.info? t with|some j=>j.size != 0|none=>false
 |.field t x i,.fld off n sx=>kU x sx&&xJ P t i off fun t=>Ba P t n
 |.indexAddr t x i,.iadr sz sx si=>kU x sx&&kU i si&&(oU P t sz).isSome
 |.indexAddr t x i,.iadrA n sz sx si=>kU x sx&&kU i si&&Gw P t n sz fun _=>true
 |.index t x i,.idxS sx si=>kU x sx&&kU i si&&lJ P t
 |.range t x,.range sx=>kU x sx&&lJ P t
 |.next x b,.next sx=>b&&kU x sx
 |.index t x i,.idxA n sz g sx si=>kU x sx&&kU i si&&Gw P t n sz fun e=>Ba P e (if g then some sz else none)
 |.extract x i,.ext sx i'=>kU x sx&&i==i'
 |.call c,s=>Ja P c s
 |_,.bad=>true
 |_,_=>false
end
section
variable {P:Program}
theorem zG {t:TypeId} {i off:Nat} {f:TypeId->Bool} (e:xJ P t i off f=true):∃fs fd,P.underlying t=some (.struct fs)/\fs[i]? = some fd/\fd.offset=off/\f fd.type=true:=by
 unfold xJ at e
 split at e
 ·rename_i fs hfs
  split at e
  ·rename_i fd hfd
   simp only[aF,beq_iff_eq]at e
   refine⟨fs,fd,?_,hfd,e.1,e.2⟩
   unfold Fu at hfs
   split at hfs
   ·rename_i hu;injection hfs with hfs;subst hfs;exact hu
   ·cases hfs
  ·cases e
 ·cases e
theorem zS {t:TypeId} {n sz:Nat} {f:TypeId->Bool} (e:Gw P t n sz f=true):∃el,P.underlying t=some (.array n el)/\Aw P el sz/\f el=true:=by
 unfold Gw at e
 split at e
 ·rename_i n' el h
  simp only[aF,beq_iff_eq]at e
  obtain⟨⟨rfl,h2⟩,h3⟩:=e
  exact⟨el,Fy h,qS h2,h3⟩
 ·cases e
theorem Sa {e:TypeId} {sz:Nat} (h:Vw P e sz=true):∃z:Value,(P.info? e).bind (·.zero)=some z/\z.cells.size=sz/\∀c∈z.cells.toList,c.oneCell'=true:=by
 unfold Vw at h
 split at h
 ·rename_i z hz
  simp only[aF,beq_iff_eq,bE]at h
  exact⟨z,hz,h.1,h.2⟩
 ·cases h
theorem Lx {t:TypeId} (h:Ia P t=true):∃d,P.underlying t=some d/\∀k,d≠.int k:=by
 unfold Ia at h
 split at h
 ·cases h
 ·rename_i d hn hd
  exact⟨d,hd,fun k hk=>hn k hk⟩
 ·cases h
theorem Qd {t:TypeId} (h:Qe P t=true):P.underlying t=some (.int .i64):=by
 unfold Qe at h
 split at h
 ·assumption
 ·cases h
theorem ptrOk_ok {pr:Bool} {t:TypeId} (e:ptrOk P pr t=true):∃d,P.underlying t=some d/\(if pr then ∃e,d = .pointer e else ∀e,d≠.pointer e):=by
 unfold ptrOk at e
 split at e
 ·rename_i x hx
  subst e
  exact⟨_,hx,by simp⟩
 ·rename_i d hd hn
  have:pr=false:=by simpa using e
  subst this
  refine⟨_,hn,?_⟩
  simp only[aR,if_false]
  intro x hx;exact hd x hx
 ·cases e
theorem mlkOk_ok {m:String} {t f:Nat} {sel:Option (Nat×Nat)} (e:mlkOk P m t f sel=true):MLk P m t f sel:=by
 unfold mlkOk at e
 split at e<;>try (cases e;done)
 rename_i i hi
 split at e<;>try (cases e;done)
 rename_i me hme
 split at e<;>try (cases e;done)
 rename_i f' pr hf
 simp only[aF,beq_iff_eq]at e
 obtain⟨rfl,e⟩:=e
 split at e
 ·rename_i hp
  obtain⟨d,h1,h2⟩:=ptrOk_ok e
  exact⟨i,me,pr,t,d,hi,hme,hf,h1,h2,by simpa using hp,rfl⟩
 ·rename_i off n s hp
  simp only[aF,dU]at e
  obtain⟨e1,e⟩:=e
  split at e<;>try (cases e;done)
  rename_i fs hfs
  split at e<;>try (cases e;done)
  rename_i fd hfd
  simp only[aF,beq_iff_eq]at e
  obtain⟨⟨e2,e3⟩,e4⟩:=e
  obtain⟨d,h1,h2⟩:=ptrOk_ok e4
  exact⟨i,me,pr,fd.type,d,hi,hme,hf,h1,h2,s,fs,fd,by rw[<-Array.toArray_toList (xs:=me.path),hp],e1,hfs,hfd,e2,rfl,tN e3⟩
 ·cases e
theorem Mw {c:Call} {s:gQ} {ty:TypeId} (e:Ja P c s=true):fP P (.call c) ty s:=by
 cases s<;>simp only[Ja]at e<;>try (cases e;done)
 case bad=>exact .bad
 case call f args=>
  simp only[aF]at e
  refine .call ?_ (rW e.2)
  have:=e.1
  split at this
  ·rename_i g hg;rw[hg,eq_of_beq this]
  ·cases this
 case callc f args=>
  simp only[aF]at e
  refine .callc ?_ (rW e.2)
  have:=e.1
  split at this
  ·rename_i g hg;rw[hg,eq_of_beq this]
  ·cases this
 case callv f args=>
  simp only[aF]at e
  have:=e.1
  split at this
  ·rename_i g hg;exact .callv hg (cI this) (rW e.2)
  ·cases this
 case callm tab x args=>
  simp only[aF]at e
  have:=e.1
  split at this
  ·rename_i g m hg
   simp only[aF,bE]at this
   exact .callm hg (cI this.1) (rW e.2) (fun r hr=>mlkOk_ok (this.2 r hr))
  ·cases this
 case app sz bytes x y=>
  simp only[aF]at e
  obtain⟨hc,e⟩:=e
  split at hc<;>try (cases hc;done)
  rename_i hcc
  split at e<;>try (cases e;done)
  rename_i x' y' t t2 h1 h2
  simp only[aF]at e
  obtain⟨⟨⟨e1,e2⟩,e3⟩,e4⟩:=e
  split at e4<;>try (cases e4;done)
  rename_i el he
  simp only[aF]at e4
  exact .app hcc (cR.1 (by simpa using h1)) (cR.1 (by simpa using h2)) (cI e1) (cI e2) (kX he) (tG e4.1) (Lx e3) (Sa e4.2)
 case appz sz bytes zs x n=>
  simp only[aF]at e
  obtain⟨hc,e⟩:=e
  split at hc<;>try (cases hc;done)
  rename_i hcc
  split at e<;>try (cases e;done)
  rename_i x' n' t t2 h1 h2
  simp only[aF]at e
  obtain⟨⟨⟨e1,e2⟩,e4⟩,e3⟩:=e
  split at e3<;>try (cases e3;done)
  rename_i el he
  rw[aF]at e3
  obtain⟨z,h3,h4,h5⟩:=vI e3.1
  exact .appz hcc (cR.1 (by simpa using h1)) (cR.1 (by simpa using h2)) (cI e1) (cI e2) (kX he) (Qd e4) (tG e3.2) h3 h4 h5
 case clr sz zs x=>
  simp only[aF]at e
  obtain⟨hc,e⟩:=e
  split at hc<;>try (cases hc;done)
  rename_i hcc
  split at e<;>try (cases e;done)
  rename_i x' t h1 h2
  simp only[aF]at e
  obtain⟨e1,e3⟩:=e
  split at e3<;>try (cases e3;done)
  rename_i el he
  obtain⟨z,h3,h4,h5⟩:=vI e3
  exact .clr hcc (cR.1 (by simpa using h1)) (cR.1 (by simpa using h2)) (cI e1) (kX he) h3 h4 h5
 case cpy sz x y=>
  simp only[aF]at e
  obtain⟨hc,e⟩:=e
  split at hc<;>try (cases hc;done)
  rename_i hcc
  split at e<;>try (cases e;done)
  rename_i x' y' t t2 h1 h2
  simp only[aF]at e
  obtain⟨⟨e1,e2⟩,e3⟩:=e
  obtain⟨el,he⟩:=dD.1 e3
  exact .cpy hcc (cR.1 (by simpa using h1)) (cR.1 (by simpa using h2)) (cI e1) (cI e2) (kX he)
 case len b x=>
  simp only[aF]at e
  obtain⟨hc,e⟩:=e
  split at hc<;>try (cases hc;done)
  rename_i hcc
  split at e<;>try (cases e;done)
  rename_i x' t h1 h2
  simp only[aF]at e
  obtain⟨e1,e2⟩:=e
  cases b with
  |true=>exact .lenS hcc (cR.1 (by simpa using h1)) (cR.1 (by simpa using h2)) (cI e1) true (mD (by simpa using e2)) (.inl ⟨rfl,rfl⟩)
  |false=>
   obtain⟨el,he⟩:=dD.1 (by simpa using e2)
   exact .lenS hcc (cR.1 (by simpa using h1)) (cR.1 (by simpa using h2)) (cI e1) false (lR he) (.inr ⟨rfl,el,rfl⟩)
 case lenA n=>
  simp only[aF]at e
  obtain⟨hc,e⟩:=e
  split at hc<;>try (cases hc;done)
  rename_i hcc
  split at e<;>try (cases e;done)
  rename_i x' t h1 h2
  split at e<;>try (cases e;done)
  rename_i n' el he
  rw[beq_iff_eq]at e;subst e
  exact .lenA hcc (cR.1 (by simpa using h1)) (cR.1 (by simpa using h2)) (Fy he)
 case cap x=>
  simp only[aF]at e
  obtain⟨hc,e⟩:=e
  split at hc<;>try (cases hc;done)
  rename_i hcc
  split at e<;>try (cases e;done)
  rename_i x' t h1 h2
  simp only[aF]at e
  obtain⟨el,he⟩:=dD.1 e.2
  exact .cap hcc (cR.1 (by simpa using h1)) (cR.1 (by simpa using h2)) (cI e.1) (lR he)
 case mn x y=>
  simp only[aF]at e
  obtain⟨hc,e⟩:=e
  split at hc<;>try (cases hc;done)
  rename_i hcc
  split at e<;>try (cases e;done)
  rename_i x' y' h1
  simp only[aF]at e
  exact .mn hcc (cR.1 (by simpa using h1)) (cI e.1) (cI e.2)
 case mx x y=>
  simp only[aF]at e
  obtain⟨hc,e⟩:=e
  split at hc<;>try (cases hc;done)
  rename_i hcc
  split at e<;>try (cases e;done)
  rename_i x' y' h1
  simp only[aF]at e
  exact .mx hcc (cR.1 (by simpa using h1)) (cI e.1) (cI e.2)
theorem Ub {t yt:TypeId} {x y:Operand} {sx sy:SX} {neg:Bool} {et:ET} {ty:TypeId} (e:Uc P t et=true) (hx:bG x sx) (hy:bG y sy):fP P (.binOp (if neg then .neq else .eql) t x y yt) ty (.eq neg et sx sy):=by
 cases et<;>simp only[Uc]at e<;>try (cases e;done)
 case leaf k=>
  cases k<;>simp only[Uc]at e<;>try (cases e;done)
  split at e
  ·rename_i h;exact .eqB hx hy h
  ·cases e
 case cells ks=>
  simp only[aF,dU]at e
  exact .eqC hx hy e.1 (Ie e.2)
 case ptr=>
  split at e
  ·rename_i h;exact .eqP hx hy h
  ·cases e
 case sl=>
  split at e
  ·rename_i h;exact .eqS hx hy h
  ·cases e
 case fnc=>
  split at e
  ·rename_i h;exact .eqF hx hy h
  ·cases e
set_option maxHeartbeats 1000000 in
theorem Qv {op:Op} {s:gQ} {ty:TypeId} (e:Km P op s=true):fP P op ty s:=by
 cases op
 case call c=>exact Mw (by simpa [Km]using e)
 all_goals (cases s<;>first|exact .bad|skip)
 all_goals (simp only[Km]at e<;>try (cases e;done))
 all_goals try simp only[aF]at e
 case move.mov=>exact .mov (cI e)
 case assign.mov=>exact .asg (cI e)
 case pick.pick=>exact .pick (cI e.1.1) (cI e.1.2) (cI e.2)
 case alloc.alloc=>
  obtain⟨z,h1,h2,h3⟩:=vI e
  exact .alloc h1 h2 h3
 case box.box=>exact .box (cI e)
 case box.boxA=>exact .boxA (cI e)
 case build.build=>
  split at e<;>try (cases e;done)
  rename_i place hp
  simp only[aF]at e
  obtain⟨z,h1,h2,h3⟩:=vI e.2
  exact .build (Hz hp h1) h2 h3 (sV e.1)
 case buildSlice.bsl=>
  obtain⟨e1,e⟩:=e
  rw[beq_iff_eq]at e1;subst e1
  split at e<;>try (cases e;done)
  rename_i el he
  simp only[aF]at e
  obtain⟨z,h1,h2,h3⟩:=vI e.1
  exact .bsl (kX he) h1 h2 h3 (sV e.2)
 case load.load=>exact .load (cI e.1) (tN e.2)
 case store.store=>exact .store (cI e.1.1) (cI e.1.2) (qS e.2)
 case nilCheck.nilc=>exact .nilc (cI e)
 case binOp.bin=>
  have:=of_decide_eq_true e.1.1;subst this
  exact .bin (cI e.1.2) (cI e.2)
 case binOp.eq=>
  have:=of_decide_eq_true e.1.1.1;subst this
  exact Ub e.2 (cI e.1.1.2) (cI e.1.2)
 case unOp.un=>
  have:=of_decide_eq_true e.1;subst this
  exact .un (cI e.2)
 case convert.cvI=>
  obtain⟨d,hd⟩:=dD.1 e.1.2
  exact .cvI (cI e.1.1) hd (yZ (eq_of_beq e.2))
 case convert.cvSB=>
  obtain⟨⟨e1,e2⟩,e3⟩:=e
  split at e3<;>try (cases e3;done)
  rename_i el he
  obtain⟨d,hd⟩:=dD.1 e2
  exact .cvSB (cI e1) hd (lR he) (Dp e3)
 case convert.cvLL=>
  obtain⟨⟨e1,e2⟩,e3⟩:=e
  rw[beq_iff_eq]at e1;subst e1
  split at e3<;>try (cases e3;done)
  rename_i el he
  exact .cvLL (cI e2) (lR he) (Dp e3)
 case convert.cvBS=>
  obtain⟨⟨e1,e2⟩,e3⟩:=e
  split at e3<;>try (cases e3;done)
  rename_i el he
  simp only[aF]at e3
  exact .cvBS (cI e1) (lR he) (mD e2) (Dp e3.1) (qS e3.2)
 case convert.cvIS=>
  obtain⟨⟨e1,e2⟩,e3⟩:=e
  obtain⟨k,hk⟩:=dD.1 e3
  exact .cvIS (cI e1) (yZ hk) (mD e2)
 case convert.cvSS=>
  exact .cvSS (cI e.1.1) (mD e.2) (mD e.1.2)
 case typeAssert.asrt=>
  rename_i x xt t ok ok' t' ag zs sx
  simp only[aF,beq_iff_eq]at e
  obtain⟨⟨⟨⟨⟨e1,e2⟩,e3⟩,e4⟩,e5⟩,e6⟩:=e
  subst e1;subst e2
  obtain⟨z,z1,z2,z3⟩:=vI e5
  refine .asrt (cI e3) ?_ z1 ?_ z2 z3
  ·split at e4
   ·cases e4
   ·rename_i d hd _
    exact⟨_,‹_›,fun m hm=>by subst hm;simp_all⟩
   ·cases e4
  ·unfold Nu at e6
   rw[z1]at e6
   cases ag with
   |true=>
    simp only[if_true]
    cases z<;>simp_all
   |false=>
    simp only[aR,if_false]
    cases z<;>simp_all [Value.cells]
 case makeInterface.mkI=>
  obtain⟨⟨e1,e2⟩,e3⟩:=e
  rw[beq_iff_eq]at e1;subst e1
  exact .mkI (cI e2) e3
 case makeFunc.mkF=>
  obtain⟨⟨e1,e2⟩,e3⟩:=e
  have:=of_decide_eq_true e1;subst this
  exact .mkF (rW e2) (rW e3)
 case makeSlice.mks=>
  obtain⟨⟨e1,e2⟩,e3⟩:=e
  split at e3<;>try (cases e3;done)
  rename_i el he
  simp only[aF]at e3
  obtain⟨z,h1,h2,h3⟩:=vI e3.1
  exact .mks (cI e1) (cI e2) (kX he) h1 h2 h3 (tG e3.2)
 case slice.slS=>
  obtain⟨⟨⟨⟨e1,e2⟩,e3⟩,e4⟩,e5⟩:=e
  rw[mG]at e1;subst e1
  exact .slS (cI e2) (sW e3) (sW e4) (mD e5)
 case slice.slL=>
  obtain⟨⟨⟨⟨⟨e1,e2⟩,e3⟩,e4⟩,e5⟩,e6⟩:=e
  obtain⟨el,he⟩:=dD.1 e5
  refine .slL (cI e1) (sW e2) (sW e3) (sW e4) (kX he) ?_
  intro hm
  rw[cV,mG]at e6
  rcases e6 with e6|e6
  ·rw[e6]at hm;cases hm
  ·exact e6
 case slice.slA=>
  obtain⟨⟨⟨⟨e1,e2⟩,e3⟩,e4⟩,e5⟩:=e
  rw[mG]at e1;subst e1
  obtain⟨el,h1,h2,_⟩:=zS e5
  exact .slA (cI e2) (sW e3) (sW e4) h1 h2
 case fieldAddr.fadr=>
  obtain⟨fs,fd,h1,h2,rfl,h3⟩:=zG e.2
  split at h3<;>try (cases h3;done)
  rename_i j hj
  exact .fadr (cI e.1) h1 h2 (n:=j.size) (by simp[Aw,hj]) (by simpa using h3)
 case field.fld=>
  obtain⟨fs,fd,h1,h2,rfl,h3⟩:=zG e.2
  exact .fld (cI e.1) h1 h2 (tN h3)
 case indexAddr.iadr=>
  obtain⟨el,he⟩:=dD.1 e.2
  exact .iadr (cI e.1.1) (cI e.1.2) (kX he)
 case indexAddr.iadrA=>
  obtain⟨el,h1,h2,_⟩:=zS e.2
  exact .iadrA (cI e.1.1) (cI e.1.2) h1 h2
 case index.idxS=>exact .idxS (cI e.1.1) (cI e.1.2) (mD e.2)
 case range.range=>exact .range (cI e.1) (mD e.2)
 case next.next=>
  obtain⟨e1,e2⟩:=e
  subst e1
  exact .next (cI e2)
 case index.idxA=>
  obtain⟨el,h1,h2,h3⟩:=zS e.2
  exact .idxA (cI e.1.1) (cI e.1.2) h1 h2 _ (tN h3)
 case extract.ext=>
  obtain⟨e1,e2⟩:=e
  rw[beq_iff_eq]at e2;subst e2
  exact .ext (cI e1)
end
end Go.Ideal
namespace Go.Ideal
deriving instance DecidableEq for SX
deriving instance DecidableEq for ET
deriving instance DecidableEq for gQ
deriving instance DecidableEq for cH
def gOk (ops:Array Oper):Option (Nat×Bool)->Option (Nat×Bool)->Bool
 |none,none=>true
 |some (j,want),some (t,want')=>want==want'&&(decide (t<lK)&&match ops[j]? with
  |some o=>o.dst==some t
  |none=>false)
 |_,_=>false
theorem Xq {ops:Array Oper} {a b:Option (Nat×Bool)} (e:gOk ops a b=true):Hj ops a b:=by
 match a,b,e with
 |none,none,_=>exact .none
 |some (j,want),some (t,want'),e=>
  simp only[gOk,aF,beq_iff_eq,decide_eq_true_eq]at e
  obtain⟨rfl,ht,e⟩:=e
  refine .some ?_ ht
  cases h:ops[j]? with
  |none=>simp[h]at e
  |some o=>simpa [h]using e
 |none,some _,e=>simp[gOk]at e
 |some _,none,e=>simp[gOk]at e
def xL (P:Program) (ops:Array Oper) (ntm:Nat) (o:Oper) (it:cH):Bool:=
 Km P o.op it.op&&(it.dst==o.dst&&((match o.dst with|some t=>decide (t<ntm)|none=>true)&&gOk ops o.guard it.g))
theorem zO {P:Program} {ops:Array Oper} {ntm:Nat} {o:Oper} {it:cH} (e:xL P ops ntm o it=true):vG P ops ntm o it:=by
 simp only[xL,aF,beq_iff_eq]at e
 obtain⟨e1,e2,e3,e4⟩:=e
 refine⟨Qv e1,e2,fun t ht=>?_,Xq e4⟩
 rw[ht]at e3
 simpa using e3
def tE (P:Program) (ops:Array Oper) (ntm:Nat):List Oper->List cH->Bool
 |[],[]=>true
 |o::os,it::its=>xL P ops ntm o it&&tE P ops ntm os its
 |_,_=>false
theorem vY {P:Program} {ops:Array Oper} {ntm:Nat}:∀{os:List Oper} {its:List cH},tE P ops ntm os its=true->
 its.length=os.length/\∀(j:Nat) (it:cH),its[j]? = some it->∃o,os[j]? = some o/\vG P ops ntm o it
 |[],[],_=>⟨rfl,fun j it h=>by simp at h⟩
 |o::os,it::its,e=>by
  simp only[tE,aF]at e
  obtain⟨h1,h2⟩:=vY e.2
  refine⟨by simp[h1],fun j it' h=>?_⟩
  cases j with
  |zero=>simp at h;subst h;exact⟨o,by simp,zO e.1⟩
  |succ j=>simpa using h2 j it' (by simpa using h)
 |[],_::_,e=>by simp[tE]at e
 |_::_,[],e=>by simp[tE]at e
def oK (o:Oper):List Nat:=(o.after.toList.filter fun e=>Region.binds .any e).map (·.on)
def Ev (B:List (List Nat)) (j i:Nat):Bool:=((B[i]?).getD []).contains j
def Vm:List Oper->List (List Nat)->List (List Nat)
 |[],B=>B
 |o::os,B=>Vm os (B++[((oK o).foldl (fun acc j=>(if acc.contains j then acc else j::acc) |> fun acc=>((B[j]?).getD []).foldl (fun acc k=>if acc.contains k then acc else k::acc) acc) [])])
def Eb (B:List (List Nat)):Nat->List Oper->Bool
 |_,[]=>true
 |i,o::os=>((B[i]?).getD []).all (fun j=>(oK o).any fun k=>k==j||(decide (k<i)&&Ev B j k))&&Eb B (i+1) os
theorem Ck {B:List (List Nat)}:∀{os:List Oper} {i:Nat},Eb B i os=true->∀j o,os[j]? = some o->∀k,Ev B k (i+j)=true->∃e∈oK o,e=k\/(e<i+j/\Ev B k e=true)
 |[],_,_,j,o,h=>by simp at h
 |o::os,i,e,j,o',h=>by
  simp only[Eb,aF,bE,kF,cV,beq_iff_eq,decide_eq_true_eq]at e
  cases j with
  |zero=>
   simp at h;subst h
   intro k hk
   simp only[Ev,iR,pN]at hk
   obtain⟨e1,h1,h2⟩:=e.1 k hk
   exact⟨e1,h1,by simpa using h2⟩
  |succ j=>
   have:=Ck e.2 j o' (by simpa using h)
   intro k hk
   rw[show i+(j+1)=i+1+j by omega]at hk |-
   exact this k hk
def Ik:List cH->List NI:=List.map fun it=>(it.ix,it)
def ibs:List DB->List IB:=List.map fun b=>⟨(b.w.ix,b.w),Ik b.cs,Ik b.qs⟩
theorem Xp (bs:List DB):(ibs bs).map IB.db=bs:=by
 rw[ibs,List.map_map]
 conv=>rhs;rw[<-List.map_id bs]
 refine List.map_congr_left fun b _=>?_
 simp[IB.db,Ik,Function.comp_def]
theorem Qg (l:List cH):(Ik l).map (·.2)=l:=by simp[Ik,Function.comp_def]
def rlB (ops:Array Oper) (B:List (List Nat)) (p q:NI):Bool:=
 p.1 != q.1&&(!(Ev B q.1 p.1)&&((match ops[p.1]? with|some o=>!(oK o).contains q.1|none=>true)&&((match p.2.dst with|some t=>q.2.dst != some t|none=>true)&&
  (p.2.slots.all (fun t=>q.2.dst != some t||Ev B p.1 q.1)&&q.2.slots.all (fun t=>p.2.dst != some t||Ev B p.1 q.1)))))
theorem Ww {ops:Array Oper} {B:List (List Nat)} {p q:NI} (e:rlB ops B p q=true):Rl ops (fun j i=>Ev B j i=true) p q:=by
 simp only[rlB,aF,bne_iff_ne,ne_eq,dU,bE,cV]at e
 obtain⟨e1,e2,e3,e4,e5,e6⟩:=e
 refine⟨e1,fun o ho ed hed hb=>?_,by simp[e2],fun t ht=>?_,fun t ht hq=>?_,fun t ht hp=>?_⟩
 ·rw[ho]at e3
  intro he
  simp only[dU,<-dT,pN]at e3
  refine e3 ?_
  simp only[oK,bI,nE]
  exact⟨ed,⟨by simpa using hed,hb⟩,he⟩
 ·rw[ht]at e4;simpa using e4
 ·rcases e5 t ht with h|h
  ·exact absurd hq h
  ·exact h
 ·rcases e6 t ht with h|h
  ·exact absurd hp h
  ·exact h
def pwB (f:NI->NI->Bool):List NI->Bool
 |[]=>true
 |p::r=>r.all (f p)&&pwB f r
theorem Ox {f:NI->NI->Bool} {R:NI->NI->Prop} (hf:∀p q,f p q=true->R p q):∀{l:List NI},pwB f l=true->l.Pairwise R
 |[],_=>.nil
 |p::r,e=>by
  simp only[pwB,aF,bE]at e
  exact .cons (fun q hq=>hf p q (e.1 q hq)) (Ox hf e.2)
def wbB (B:List (List Nat)):List IB->Bool
 |[]=>true
 |b::v=>(b.qs++dC v).all (fun q=>Ev B b.w.1 q.1)&&wbB B v
theorem Nx {B:List (List Nat)}:∀{bs:List IB},wbB B bs=true->∀(u v:List IB) (b:IB),bs=u++b::v->∀q∈b.qs++dC v,Ev B b.w.1 q.1=true
 |[],_,u,v,b,h=>by simp at h
 |b0::v0,e,u,v,b,h=>by
  simp only[wbB,aF,bE]at e
  cases u with
  |nil=>simp at h;obtain⟨rfl,rfl⟩:=h;exact e.1
  |cons u0 u=>simp at h;exact Nx e.2 u v b h.2
def Uf (opn:Nat->Bool) (B:List (List Nat)) (all:List NI):List NI->List IB->Bool
 |_,[]=>true
 |pre,b::v=>pre.all (fun p=>!(p.2.op.quiet opn)||(p.2.op.deaf||(Ev B p.1 b.w.1||(decide (p∈b.cs)&&all.all fun q=>!(Ev B p.1 q.1)||p.2.slots.all fun t=>q.2.dst != some t))))&&Uf opn B all (pre++b.its) v
theorem Kn {opn:Nat->Bool} {B:List (List Nat)} {all:List NI}:∀{bs:List IB} {pre:List NI},Uf opn B all pre bs=true->∀(u v:List IB) (b:IB),bs=u++b::v->∀p∈pre++dC u,p.2.op.quiet opn=true->p.2.op.deaf=false->
 Ev B p.1 b.w.1=true\/(p∈b.cs/\∀q∈all,Ev B p.1 q.1=true->∀t∈p.2.slots,q.2.dst≠some t)
 |[],pre,_,u,v,b,h=>by simp at h
 |b0::v0,pre,e,u,v,b,h=>by
  simp only[Uf,aF,bE]at e
  cases u with
  |nil=>
   simp at h;obtain⟨rfl,rfl⟩:=h
   intro p hp hq hd
   have:=e.1 p (by simpa [dC]using hp)
   simp only[hq,hd,cP,lA,cV,aF,decide_eq_true_eq,bE,dU,bne_iff_ne]at this
   rcases this with h|⟨h1,h2⟩
   ·exact .inl h
   ·refine .inr ⟨h1,fun q hq hb t ht=>?_⟩
    rcases h2 q hq with h3|h3
    ·rw[hb]at h3;cases h3
    ·exact h3 t ht
  |cons u0 u=>
   simp at h
   obtain⟨rfl,rfl⟩:=h
   intro p hp
   exact Kn e.2 u v b rfl p (by simpa [dC,bQ]using hp)
def Ss (opn:Nat->Bool) (p:NI):Bool:=p.2.op.quiet opn&&p.2.dst.isSome
theorem Jy {opn:Nat->Bool} {p:NI} (e:Ss opn p=true):p.2.op.quiet opn=true/\∃t,p.2.dst=some t:=by
 simp only[Ss,aF]at e
 exact⟨e.1,dD.1 e.2⟩
def Ed (P:Program) (opn:Nat->Bool) (ops:Array Oper) (ntm:Nat) (B:List (List Nat)) (q0:List NI) (bs:List IB) (L:List NI):Bool:=
 L.all (fun p=>match ops[p.1]? with|some o=>xL P ops ntm o p.2|none=>false)&&(
 (List.range ops.size).all (fun i=>L.any (·.1==i))&&(
 Eb B 0 ops.toList&&(decide (B.length=ops.size)&&(
 (List.range ops.size).all (fun i=>!(Ev B i i)&&match ops[i]? with|some o=>(oK o).all (fun k=>decide (k<ops.size)&&k != i)|none=>false)&&(
 decide (L.length≤ops.size)&&(
 pwB (rlB ops B) L&&(
 L.all (fun p=>p.2.slots.all fun t=>p.2.dst != some t)&&(
 q0.all (Ss opn)&&(bs.all (fun b=>b.qs.all (Ss opn))&&(wbB B bs&&Uf opn B L q0 bs))))))))))
theorem Iy {P:Program} {opn:Nat->Bool} {ops:Array Oper} {ntm:Nat} {B:List (List Nat)} {q0:List NI} {bs:List IB} (e:Ed P opn ops ntm B q0 bs (q0++dC bs)=true):
 Drw P opn ops ntm q0 bs (fun j i=>Ev B j i=true):=by
 simp only[Ed,aF,bE,decide_eq_true_eq]at e
 obtain⟨e1,e2,e3,e4,e5,e6,e7,e8,e9,e10,e11,e12⟩:=e
 refine { link:=?_,all:=?_,cl:=?_,edge:=?_,len:=e6,pw:=Ox (fun p q=>Ww) e7,irr:=?_,own:=?_,qui:=fun p hp=>Jy (e9 p hp),quib:=fun b hb p hp=>Jy (e10 b hb p hp),wb:=Nx e11,chk:=Kn e12 }
 ·intro p hp
  have:=e1 p hp
  split at this
  ·rename_i o ho;exact⟨o,ho,zO this⟩
  ·cases this
 ·intro i hi
  have:=e2 i (List.mem_range.2 hi)
  rw[kF]at this
  obtain⟨p,hp,h⟩:=this
  exact⟨p,hp,eq_of_beq h⟩
 ·intro S hS i
  induction i using Nat.strongRecOn with
  |ind i ih=>
   intro j hi hb
   have hlt:i<ops.size:=by
    rw[<-e4]
    by_cases h:i<B.length
    ·exact h
    ·simp[Ev,gT (Nat.le_of_not_lt h)]at hb
   have ho:ops[i]? = some ops[i]:=mH hlt
   obtain⟨k,hk,h⟩:=Ck e3 i ops[i] (by simp) j (by simpa using hb)
   simp only[oK,bI,nE]at hk
   obtain⟨ed,⟨h1,h2⟩,rfl⟩:=hk
   have hs:=hS i ops[i] hi ho ed (by simpa using h1) h2
   rcases h with rfl|⟨h3,h4⟩
   ·exact hs
   ·exact ih ed.on (by simpa using h3) j hs h4
 ·intro i o ho ed hed hb
  have hlt:i<ops.size:=by
   obtain⟨h,_⟩:=dY.1 ho
   exact h
  have:=(e5 i (List.mem_range.2 hlt)).2
  rw[ho]at this
  simp only[bE,aF,decide_eq_true_eq,bne_iff_ne]at this
  exact this ed.on (by simp only[oK,bI,nE];exact⟨ed,⟨by simpa using hed,hb⟩,rfl⟩)
 ·intro i hb
  have hlt:i<ops.size:=by
   rw[<-e4]
   by_cases h:i<B.length
   ·exact h
   ·simp[Ev,gT (Nat.le_of_not_lt h)]at hb
  have:=(e5 i (List.mem_range.2 hlt)).1
  rw[hb]at this
  simp at this
 ·intro p hp t ht
  have:=e8 p hp t ht
  simpa using this
def Iz (P:Program) (opn:Nat->Bool) (ops:Array Oper) (ntm:Nat) (q0:List cH) (bs:List DB):Bool:=
 P.follows .mixedOrders&&Ed P opn ops ntm (Vm ops.toList []) (Ik q0) (ibs bs) (Ik q0++dC (ibs bs))
theorem Mt {P:Program} {opn:Nat->Bool} {ops:Array Oper} {ntm:Nat} {q0:List cH} {bs:List DB} (e:Iz P opn ops ntm q0 bs=true):Rw P opn ops ntm q0 bs:=by
 simp only[Iz,aF]at e
 have:=Xx e.1 (Iy e.2)
 rwa [Qg,Xp]at this
def cX (P:Program) (opn:Nat->Bool) (ntm:Nat):Code->dJ->Bool
 |.skip,.skip=>true
 |.skip,.seq .skip (.reg [] _)=>true
 |.region _ ops false,.reg its _=>tE P ops ntm ops.toList its
 |.region _ ops true,.drw q0 bs _=>Iz P opn ops ntm q0 bs
 |.seq a b,.seq a' b'=>cX P opn ntm a a'&&cX P opn ntm b b'
 |.cond c a b,.cond c' a' b'=>kU c c'&&(cX P opn ntm a a'&&cX P opn ntm b b')
 |.cond c a b,.seq (.cond c' a' b') (.reg [] _)=>kU c c'&&(cX P opn ntm a a'&&cX P opn ntm b b')
 |.block i a,.block i' a'=>i==i'&&cX P opn ntm a a'
 |.block i a,.seq (.block i' a') (.reg [] _)=>i==i'&&cX P opn ntm a a'
 |.loop a,.loop a'=>cX P opn ntm a a'
 |.exit i,.exit i'=>i==i'
 |.exit i,.seq (.reg [] _) (.exit i')=>i==i'
 |.ret,.ret=>true
 |.ret,.seq (.reg [] _) .ret=>true
 |_,.bad=>true
 |_,_=>false
theorem nS {P:Program} {opn:Nat->Bool} {ntm:Nat} {c:Code}:∀{s:dJ},cX P opn ntm c s=true->iT P opn ntm c s:=by
 induction c with
 |skip=>
  intro s e
  cases s with
  |bad=>exact .bad
  |skip=>exact .skip
  |seq x y=>
   cases x<;>cases y<;>(try (simp only[cX]at e;cases e;done))
   rename_i its live
   cases its with
   |cons _ _=>simp only[cX]at e;cases e
   |nil=>exact .post .skip
  |_=>simp only[cX]at e;cases e
 |region id ops d=>
  intro s e
  cases d<;>cases s<;>(try exact .bad)<;>simp only[cX]at e<;>try (cases e;done)
  ·obtain⟨h1,h2⟩:=vY e
   exact .reg (by simpa using h1) (fun j it h=>by simpa using h2 j it h)
  ·exact .drw (Mt e)
 |seq a b iha ihb=>
  intro s e;cases s<;>(try exact .bad)<;>simp only[cX]at e<;>try (cases e;done)
  simp only[aF]at e
  exact .seq (iha e.1) (ihb e.2)
 |cond c a b iha ihb=>
  intro s e
  cases s with
  |bad=>exact .bad
  |cond c' a' b'=>
   simp only[cX,aF]at e
   exact .cond (cI e.1) (iha e.2.1) (ihb e.2.2)
  |seq x y=>
   cases x<;>cases y<;>(try (simp only[cX]at e;cases e;done))
   rename_i its live
   cases its with
   |cons _ _=>simp only[cX]at e;cases e
   |nil=>
    simp only[cX,aF]at e
    exact .post (.cond (cI e.1) (iha e.2.1) (ihb e.2.2))
  |_=>simp only[cX]at e;cases e
 |block i a iha=>
  intro s e
  cases s with
  |bad=>exact .bad
  |block i' a'=>
   simp only[cX,aF,beq_iff_eq]at e
   obtain⟨rfl,e⟩:=e
   exact .block (iha e)
  |seq x y=>
   cases x<;>cases y<;>(try (simp only[cX]at e;cases e;done))
   rename_i its live
   cases its with
   |cons _ _=>simp only[cX]at e;cases e
   |nil=>
    simp only[cX,aF,beq_iff_eq]at e
    obtain⟨rfl,e⟩:=e
    exact .post (.block (iha e))
  |_=>simp only[cX]at e;cases e
 |loop a iha=>
  intro s e;cases s<;>(try exact .bad)<;>simp only[cX]at e<;>try (cases e;done)
  exact .loop (iha e)
 |exit i=>
  intro s e
  cases s with
  |bad=>exact .bad
  |exit i'=>
   simp only[cX,beq_iff_eq]at e;subst e
   exact .exit
  |seq x y=>
   cases x<;>(try (simp only[cX]at e;cases e;done))
   rename_i its live
   cases its with
   |cons _ _=>cases y<;>(simp only[cX]at e;cases e)
   |nil=>
    cases y<;>(try (simp only[cX]at e;cases e;done))
    simp only[cX,beq_iff_eq]at e;subst e
    exact .pre .exit
  |_=>simp only[cX]at e;cases e
 |ret=>
  intro s e
  cases s with
  |bad=>exact .bad
  |ret=>exact .ret
  |seq x y=>
   cases x<;>(try (simp only[cX]at e;cases e;done))
   rename_i its live
   cases its with
   |cons _ _=>cases y<;>(simp only[cX]at e;cases e)
   |nil=>
    cases y<;>(try (simp only[cX]at e;cases e;done))
    exact .pre .ret
  |_=>simp only[cX]at e;cases e
 |_=>intro s e;cases s<;>(try exact .bad)<;>simp only[cX]at e<;>cases e
def nR (P:Program):List ResultVar->List RV->Bool
 |[],[]=>true
 |.tmp t::r,.tmp t'::r'=>t==t'&&(decide (t<lK)&&nR P r r')
 |.cell t ty::r,.cell t' n::r'=>t==t'&&(decide (t<lK)&&(Ba P ty n&&nR P r r'))
 |_,_=>false
theorem rV {P:Program}:∀{r:List ResultVar} {r':List RV},nR P r r'=true->vA P r r'
 |[],[],_=>.nil
 |.tmp t::r,.tmp t'::r',e=>by
  simp only[nR,aF,beq_iff_eq,decide_eq_true_eq]at e
  obtain⟨rfl,ht,e⟩:=e
  exact .tmp ht (rV e)
 |.cell t ty::r,.cell t' n::r',e=>by
  simp only[nR,aF,beq_iff_eq,decide_eq_true_eq]at e
  obtain⟨rfl,ht,e1,e2⟩:=e
  exact .cell ht (tN e1) (rV e2)
 |[],_::_,e=>by simp[nR]at e
 |_::_,[],e=>by simp[nR]at e
 |.tmp _::_,.cell _ _::_,e=>by simp[nR]at e
 |.cell _ _::_,.tmp _::_,e=>by simp[nR]at e
def Ec (P:Program) (opn:Nat->Bool) (fn:Func) (sf:mO):Bool:=
 (fn.name == "runtime.NumGoroutine") == false && ((match fn.body with | some c => cX P opn fn.ntmps c sf.body | none => false) && (nR P fn.results.toList sf.res && decide (sf.np ≤ fn.ntmps)))
def Vn (P:Program) (opn:Nat->Bool) (f:Nat) (sf:mO):Bool:=
 match P.funcs[f]? with
 |some fn=>Ec P opn fn sf
 |none=>false
theorem aW {P:Program} {opn:Nat->Bool} {f:Nat} {fn:Func} {sf:mO} (hf:P.funcs[f]? = some fn) (e:Ec P opn fn sf=true):cO P opn f sf:=by
 simp only[Ec,aF,beq_iff_eq,decide_eq_true_eq]at e
 obtain⟨e1,e2,e3,e4⟩:=e
 split at e2
 ·rename_i c hc
  exact⟨.inl ⟨fn,c,hf,e1,hc,nS e2,rV e3,e4⟩⟩
 ·cases e2
theorem chkFn_ok {P:Program} {opn:Nat->Bool} {f:Nat} {sf:mO} (e:Vn P opn f sf=true):cO P opn f sf:=by
 unfold Vn at e
 split at e
 ·rename_i fn hf;exact aW hf e
 ·cases e
end Go.Ideal
namespace Go.Ideal
def Kx.base (H:gC):Kx:=⟨fun _=>none,fun _ B=>B<H.size⟩
section
variable (P:Program)
def Kk (f:TypeId->Bool):Nat->List Field->Bool
 |_,[]=>true
 |o,fd::r=>fd.offset==o&&(f fd.type&&Kk f (o+P.cellsOf fd.type) r)
def Px:Nat->List Field->Nat
 |o,[]=>o
 |o,fd::r=>Px (o+P.cellsOf fd.type) r
def pJ:Nat->TypeId->Bool
 |0,_=>false
 |m+1,t=>match P.underlying t with
  |some .bool=>P.cellsOf t==1
  |some (.int _)=>P.cellsOf t==1
  |some .string=>P.cellsOf t==1
  |some (.slice e)=>P.cellsOf t==1&&(pJ m e&&decide (0<P.cellsOf e))
  |some (.struct fs)=>Kk P (pJ m) 0 fs.toList&&Px P 0 fs.toList==P.cellsOf t
  |some (.array n e)=>pJ m e&&n*P.cellsOf e==P.cellsOf t
  |_=>false
def No (E:TypeId->List IV->Prop):List Field->List IV->Prop
 |[],cs=>cs=[]
 |fd::r,cs=>∃c1 c2,cs=c1++c2/\E fd.type c1/\No E r c2
def Cw:Nat->TypeId->List IV->Prop
 |0,_,_=>False
 |m+1,t,cs=>match P.underlying t with
  |some .bool=>∃b,cs=[.bool b]
  |some (.int k)=>∃n,cs=[.int k n]/\(Lit.int k n).wf=true
  |some .string=>∃s:List UInt8,cs=[.str s]/\s.length≤maxLen
  |some (.slice e)=>cs=[.nils]\/∃es:List (List IV),cs=[.ro false es]/\es.length≤maxLen/\∀c∈es,Cw m e c
  |some (.struct fs)=>No (Cw m) fs.toList cs
  |some (.array n e)=>∃es:List (List IV),cs=es.flatten/\es.length=n/\∀c∈es,Cw m e c
  |_=>False
end
section
variable {P:Program} {H:Type} {enc:TypeId×Value->H} {w:World} {base:Nat} {spare:Nat->Bool} {held:Bool}
def Rv (P:Program) (w:World) (m:Nat) (t:TypeId) (vs:List Value):Prop:=
 ∃cs,Cw P m t cs/\cs.length=P.cellsOf t/\(∀c∈cs,c.one=true)/\dE (Kx.base w.heap) w.heap [] cs vs
theorem yQ {α β:Type} {f:α->Option β}:∀{l:List α} {r:List β},l.mapM f=some r->r.length=l.length/\∀(i:Nat) (a:α),l[i]? = some a->∃b,r[i]? = some b/\f a=some b
 |[],r,h=>by simp at h;subst h;simp
 |a::l,r,h=>by
  rw[tL]at h
  simp only[bind,eM,pure,aD]at h
  obtain⟨b,hb,r',hr,rfl⟩:=h
  obtain⟨h1,h2⟩:=yQ hr
  refine⟨by simp[h1],fun i a' hi=>?_⟩
  cases i with
  |zero=>simp at hi;subst hi;exact⟨b,by simp,hb⟩
  |succ i=>simpa using h2 i a' (by simpa using hi)
theorem wR {m:Nat} (ih:∀(n:Nat) (t:TypeId) (vs:List Value) (x:DataW H×List MemPlace),pJ P m t=true->DataW.trod enc P w base spare held n t vs=some x->Rv P w m t vs) {n:Nat} {vs:List Value}:
 ∀(fs:List Field) (o:Nat) (xs:List (DataW H×List MemPlace)),Kk P (pJ P m) o fs=true->fs.mapM (fun f=>DataW.trod enc P w base spare held n f.type ((vs.drop f.offset).take (P.cellsOf f.type)))=some xs->
  vs.length=Px P o fs->∃cs,No (Cw P m) fs cs/\(∀c∈cs,c.one=true)/\dE (Kx.base w.heap) w.heap [] cs (vs.drop o)
 |[],o,xs,_,_,hl=>⟨[],rfl,by simp,by rw[dN (by rw[hl];exact aK _)];exact .nil⟩
 |f::fs,o,xs,hd,hm,hl=>by
  simp only[Kk,aF,beq_iff_eq]at hd
  obtain⟨rfl,h1,h2⟩:=hd
  rw[tL]at hm
  simp only[bind,eM,pure,aD]at hm
  obtain⟨x,hx,xs',hxs,rfl⟩:=hm
  obtain⟨c1,q1,q2,q3,q4⟩:=ih n _ _ _ h1 hx
  obtain⟨c2,p1,p2,p3⟩:=wR ih fs _ xs' h2 hxs hl
  refine⟨c1++c2,⟨c1,c2,rfl,q1,p1⟩,fun c hc=>?_,?_⟩
  ·rcases aE.1 hc with h|h
   ·exact q3 c h
   ·exact p2 c h
  ·have:=q4.append p3
   rw[<-cM,gR]at this
   exact this
theorem zD {m:Nat} {e:TypeId} {vs:List Value}:∀(n o:Nat),(∀i,o≤i->i<o+n->Rv P w m e ((vs.drop (i*P.cellsOf e)).take (P.cellsOf e)))->vs.length=(o+n)*P.cellsOf e->
 ∃es:List (List IV),es.length=n/\(∀c∈es,Cw P m e c)/\(∀c∈es.flatten,c.one=true)/\dE (Kx.base w.heap) w.heap [] es.flatten (vs.drop (o*P.cellsOf e))
 |0,o,_,hl=>⟨[],rfl,by simp,by simp,by rw[dN (by rw[hl];exact aK _)];exact .nil⟩
 |n+1,o,h,hl=>by
  obtain⟨c1,q1,q2,q3,q4⟩:=h o (aK _) (by omega)
  obtain⟨es,p1,p2,p3,p4⟩:=zD n (o+1) (fun i h1 h2=>h i (by omega) (by omega)) (by rw[hl];congr 1;omega)
  refine⟨c1::es,by simp[p1],fun c hc=>?_,fun c hc=>?_,?_⟩
  ·rcases aQ.1 hc with rfl|hc
   ·exact q1
   ·exact p2 c hc
  ·rw[cB]at hc
   rcases aE.1 hc with h|h
   ·exact q3 c h
   ·exact p3 c h
  ·rw[cB]
   have:=q4.append p4
   rw[cJ,kM,<-cM,gR]at this
   exact this
theorem uG:∀(m n:Nat) (t:TypeId) (vs:List Value) (x:DataW H×List MemPlace),pJ P m t=true->DataW.trod enc P w base spare held n t vs=some x->Rv P w m t vs
 |0,n,t,vs,x,hd,h=>by simp[pJ]at hd
 |m+1,0,t,vs,x,hd,h=>by simp[DataW.trod]at h
 |m+1,n+1,t,vs,x,hd,h=>by
  have ih:=uG m
  unfold pJ at hd
  unfold DataW.trod at h
  cases hu:P.underlying t with
  |none=>simp[hu]at hd
  |some d=>
   simp only[hu]at hd h
   cases d<;>simp only at hd<;>try (cases hd;done)
   case bool=>
    rw[beq_iff_eq]at hd
    split at h<;>simp_all
    rename_i b
    exact⟨[.bool b],by simp[Cw,hu],by simp[hd],by simp[IV.one],.cons (.bool b) .nil⟩
   case int k=>
    rw[beq_iff_eq]at hd
    split at h<;>simp_all
    obtain⟨⟨_,hw⟩,_⟩:=h
    exact⟨[.int _ _],by simp[Cw,hu,hw],by simp[hd],by simp[IV.one],.cons (.int _ _) .nil⟩
   case string=>
    rw[beq_iff_eq]at hd
    split at h<;>simp_all
    rename_i s
    exact⟨[.str s.data.toList],by simp[Cw,hu,h.1],by simp[hd],by simp[IV.one],.cons (.str s) .nil⟩
   case array l e=>
    simp only[aF,beq_iff_eq]at hd
    simp only at h
    split at h
    ·rename_i hlen
     simp only[aZ]at h
     obtain⟨xs,hx,_⟩:=h
     obtain⟨_,hx⟩:=yQ hx
     obtain⟨es,p1,p2,p3,p4⟩:=zD (w:=w) (m:=m) (e:=e) (vs:=vs) l 0 (fun i _ hi=>by
      obtain⟨y,_,hy⟩:=hx i i (by rw[List.getElem?_range (by omega)])
      exact ih n _ _ y hd.1 hy) (by rw[hlen,<-hd.2,bV])
     rw[Nj,eO]at p4
     exact⟨es.flatten,by simp only[Cw,hu];exact⟨es,rfl,p1,p2⟩,by rw[<-p4.1,hlen],p3,p4⟩
    ·cases h
   case struct fs=>
    simp only[aF,beq_iff_eq]at hd
    simp only at h
    split at h
    ·rename_i hlen
     simp only[aZ]at h
     obtain⟨xs,hx,_⟩:=h
     obtain⟨cs,p1,p2,p3⟩:=wR ih fs.toList 0 xs hd.1 hx (by rw[hlen,hd.2])
     rw[eO]at p3
     exact⟨cs,by simp only[Cw,hu];exact p1,by rw[<-p3.1,hlen],p2,p3⟩
    ·cases h
   case slice e=>
    simp only[aF,beq_iff_eq,decide_eq_true_eq]at hd
    obtain⟨hd1,hd2,hpos⟩:=hd
    split at h
    all_goals first|(cases h;done)|(rename_i heq1;injection heq1 with heq1;cases heq1;done)|skip
    ·exact⟨[.nils],by simp[Cw,hu],by simp[hd1],by simp[IV.one],.cons .nils .nil⟩
    ·rename_i e' a len cap heq1
     injection heq1 with heq1;injection heq1 with heq1;subst heq1
     split at h
     ·rename_i hb
      obtain⟨hb1,hb2,hb3⟩:=hb
      simp only[eM,aZ]at h
      obtain⟨fF,he,_⟩:=h
      obtain⟨_,he⟩:=yQ he
      have hel:∀i,i<len->∃vs',w.cells? base (a.add (i*P.cellsOf e)) (P.cellsOf e)=some vs'/\Rv P w m e vs':=fun i hi=>by
       obtain⟨y,_,hy⟩:=he i i (by rw[List.getElem?_range (by omega)])
       simp only[eM]at hy
       obtain⟨vs',h1,h2⟩:=hy
       exact⟨vs',h1,ih n _ _ y hd2 h2⟩
      have hch:∃es:List (List IV),es.length=len/\∀i c,es[i]? = some c->∃vs',w.cells? base (a.add (i*P.cellsOf e)) (P.cellsOf e)=some vs'/\Cw P m e c/\c.length=P.cellsOf e/\(∀x∈c,x.one=true)/\dE (Kx.base w.heap) w.heap [] c vs':=by
       refine rD len (fun i c=>∃vs',w.cells? base (a.add (i*P.cellsOf e)) (P.cellsOf e)=some vs'/\Cw P m e c/\c.length=P.cellsOf e/\(∀x∈c,x.one=true)/\dE (Kx.base w.heap) w.heap [] c vs') fun i hi=>?_
       obtain⟨vs',h1,cs,h2⟩:=hel i hi
       exact⟨cs,vs',h1,h2⟩
      obtain⟨es,hlen,hes⟩:=hch
      subst hlen
      refine⟨[.ro false es],?_,by simp[hd1],by simp[IV.one],.cons ?_ .nil⟩
      ·simp only[Cw,hu]
       refine .inr ⟨es,rfl,by omega,fun c hc=>?_⟩
       obtain⟨i,hi,rfl⟩:=dQ.1 hc
       obtain⟨vs',_,h2,_⟩:=hes i _ (aG hi)
       exact h2
      ·have cell:∀i j (hi:i<es.length) (hj:j<(es[i]).length),∃v,w.cell? ((a.add (i*P.cellsOf e)).add j)=some v/\bS (Kx.base w.heap) w.heap [] (es[i][j]) v:=by
        intro i j hi hj
        obtain⟨vs',h1,h2,h3,h4,h5⟩:=hes i _ (aG hi)
        obtain⟨_,g1,g2⟩:=World.cells?_some h1
        obtain⟨v,hv,hr⟩:=h5.get (aG hj)
        exact⟨v,by rw[g2 j (by omega)];exact hv,hr⟩
       have size:∀c∈es,c.length=P.cellsOf e:=fun c hc=>by
        obtain⟨i,hi,rfl⟩:=dQ.1 hc
        obtain⟨vs',_,_,h3,_⟩:=hes i _ (aG hi)
        exact h3
       have spot:es≠[]->a.spot=none/\a.block<w.heap.size:=fun hne=>by
        have hl:0<es.length:=fN.2 hne
        obtain⟨v,hv,_⟩:=cell 0 0 hl (by rw[size _ (bH hl)];exact hpos)
        have h1:=World.cell?_spot hv
        obtain⟨ab,ao,as⟩:=a
        have h2:as=none:=by simpa [Addr.add]using h1
        subst h2
        refine⟨rfl,?_⟩
        simp only[Nj,fM,rH]at hv
        unfold wU at hv
        split at hv
        ·rename_i hh;exact fI hh
        ·cases hv
       refine .ro false es a cap (P.cellsOf e) (fun i j=>(w.cell? ((a.add (i*P.cellsOf e)).add j)).getD undef) hb2 size (fun c hc=>?_) (fun hne=>⟨(spot hne).2,(spot hne).1⟩) (fun i j hi hj=>?_) fun i j hi hj=>?_
       ·obtain⟨i,hi,rfl⟩:=dQ.1 hc
        obtain⟨vs',_,_,_,h4,_⟩:=hes i _ (aG hi)
        exact h4
       ·obtain⟨v,hv,_⟩:=cell i j hi hj
        rw[hv]
        have hs:=(spot (by intro e;subst e;simp at hi)).1
        obtain⟨ab,ao,as⟩:=a
        simp only at hs;subst hs
        simp only[fM,rH]at hv
        exact hv
       ·obtain⟨v,hv,hr⟩:=cell i j hi hj
        rw[hv];exact hr
     ·cases h
end
end Go.Ideal
namespace Go.Ideal
open Go.ChangeShapes Go.RowKit
def EncV (P:Program) (m:Nat) (t:TypeId) (iv:IV):Prop:=
 ∃cs,Cw P m t cs/\((qC P t=true/\iv = .agg cs)\/(qC P t=false/\cs=[iv]))
def wK (P:Program) (m:Nat):List TypeId->List IV->Prop
 |[],ivs=>ivs=[]
 |t::ts,ivs=>∃iv r,ivs=iv::r/\EncV P m t iv/\wK P m ts r
section
variable {P:Program} {H:Type} {enc:TypeId×Value->H} {W W':World}
theorem Um {m:Nat} {t:TypeId} {v:Value} (hsh:oT v=qC P t) (h:Rv P W m t v.cells.toList) (h1:P.cellsOf t=1\/qC P t=true):∃iv,EncV P m t iv/\bS (Kx.base W.heap) W.heap [] iv v:=by
 obtain⟨cs,e1,e2,e3,e4⟩:=h
 cases ha:qC P t with
 |true=>
  rw[ha]at hsh
  cases v<;>simp[oT]at hsh
  rename_i vs
  exact⟨.agg cs,⟨cs,e1,.inl ⟨ha,rfl⟩⟩,bS.agg_iff.2 ⟨e3,vs.toList,by simp,by simpa [Value.cells]using e4⟩⟩
 |false=>
  rw[ha]at hsh
  have hc:v.cells.toList=[v]:=by cases v<;>simp[oT]at hsh<;>simp[Value.cells]
  rw[hc]at e4
  obtain⟨iv,rfl⟩:∃iv,cs=[iv]:=iS.1 (by rw[<-e4.1];rfl)
  obtain⟨v',r,hv,hr,_⟩:=e4.cons_inv
  injection hv with hv _;subst hv
  exact⟨iv,⟨[iv],e1,.inr ⟨ha,rfl⟩⟩,hr⟩
theorem Cm {m:Nat}:∀{ts:List TypeId} {vs:List Value} {ds:List (DataW H)} {p:List MemPlace},DataW.TrodAll enc P W 0 (fun _=>true) true ts vs ds p->
 (∀t∈ts,pJ P m t=true/\(P.cellsOf t=1\/qC P t=true))->(∀(j:Nat) (t:TypeId) (v:Value),ts[j]? = some t->vs[j]? = some v->oT v=qC P t)->
 ∃ivs,wK P m ts ivs/\dE (Kx.base W.heap) W.heap [] ivs vs
 |[],[],[],p,h,_,_=>⟨[],rfl,.nil⟩
 |t::ts,v::vs,d::ds,p,h,ht,hs=>by
  obtain⟨p1,q1,⟨fuel,h1⟩,h2,_⟩:=h
  obtain⟨iv,e1,e2⟩:=Um (hs 0 t v rfl rfl) (uG m fuel t _ _ (ht t (by simp)).1 h1) (ht t (by simp)).2
  obtain⟨r,e3,e4⟩:=Cm h2 (fun t' h'=>ht t' (by simp[h'])) (fun j t' v' h1 h2=>hs (j+1) t' v' (by simpa using h1) (by simpa using h2))
  exact⟨iv::r,⟨iv,r,rfl,e1,e3⟩,.cons e2 e4⟩
 |[],[],_::_,p,h,_,_=>by simp[DataW.TrodAll]at h
 |[],_::_,_,p,h,_,_=>by simp[DataW.TrodAll]at h
 |_::_,[],_,p,h,_,_=>by simp[DataW.TrodAll]at h
 |_::_,_::_,[],p,h,_,_=>by simp[DataW.TrodAll]at h
theorem sO (hl:laidOutB P=true) (hb:Below W.heap.size W W'):∀{ts:List TypeId} {vs:List Value} {ds:List (DataW H)} {p:List MemPlace},(∀t∈ts,P.readableRec t=true/\t<P.types.size)->
 DataW.TrodAll enc P W 0 (fun _=>true) true ts vs ds p->DataW.TrodAll enc P W' 0 (fun b=>decide (b<W.heap.size)) true ts vs ds p
 |[],[],[],p,_,h=>h
 |t::ts,v::vs,d::ds,p,ht,h=>by
  obtain⟨p1,q1,h1,h2,e⟩:=h
  have hlt:∀x∈p1,x.block<W.heap.size:=by obtain⟨n,hn⟩:=h1;exact DataW.trod_lt n _ _ _ hn
  exact⟨p1,q1,Below.trod hl (ht t (by simp)).1 (ht t (by simp)).2 h1 hb hlt,sO hl hb (fun t' h'=>ht t' (by simp[h'])) h2,e⟩
 |[],[],_::_,p,_,h=>by simp[DataW.TrodAll]at h
 |[],_::_,_,p,_,h=>by simp[DataW.TrodAll]at h
 |_::_,[],_,p,_,h=>by simp[DataW.TrodAll]at h
 |_::_,_::_,[],p,_,h=>by simp[DataW.TrodAll]at h
theorem Lw {r:Reach} {base:Nat} {t:TypeId} {v:Value} {m:Nat} (h:Value.okWide P W r base t v) (hd:pJ P m t=true) (ht:∃fuel d,DataW.trod enc P W 0 (fun _=>true) true fuel t v.cells.toList=some d):oT v=qC P t:=by
 cases m with
 |zero=>simp[pJ]at hd
 |succ m=>
  unfold pJ at hd
  unfold Value.okWide at h
  unfold qC
  cases hu:P.underlying t with
  |none=>simp[hu]at hd
  |some d=>
   simp only[hu]at hd h |-
   cases d<;>simp only at hd h<;>try (cases hd;done)
   case struct fs=>obtain⟨cs,rfl,_⟩:=h;rfl
   case array n e=>obtain⟨cs,rfl,_⟩:=h;rfl
   all_goals
    unfold Cell.okWide at h
    simp only[hu]at h
    cases v<;>simp_all [oT,sM,Cell.ok]
theorem Tp {prog:Nat->Option mO} {opn:Nat->Bool} (hp:∀f sf,prog f=some sf->cO P opn f sf) {f:FuncId} {fn:Func} {s:ChangeSpec} {m:Nat} {tb:TypeId}
 (hl:laidOutB P=true) (hts:∀t∈fn.params.toList,(pJ P m t=true/\(P.cellsOf t=1\/qC P t=true))/\(P.readableRec t=true/\t<P.types.size))
 (hres:fn.resultTypes = #[tb]) (htb:P.underlying tb=some .bool) (hvars:s.vars=[])
 (hfn:∀ds:List (DataW H),ds.length=fn.params.size->s.fn H ds = { results:=[.lit (.bool true)],args:=ds })
 (law:∀ivs,wK P m fn.params.toList ivs->∃n h,fK prog opn n f ivs []=some (.bool true,h))
 {w:World} {base:Nat} {args:Array Value} {ds gs:List (DataW H)} {before:List MemPlace}
 (hval:∀(j:Nat) t v,fn.params[j]? = some t->args[j]? = some v->Value.okWide P w .any base t v)
 (hW:DataW.Whole enc P fn.params.toList s.vars false w args.toList ds gs before):
 Calls P f args w fun e w'=>∃v,e = .returned v/\s.post enc P fn false true false false w args v w':=by
 have hW':=hW
 obtain⟨p,q,hA,hV,rfl,_,_⟩:=hW
 rw[hvars]at hV
 have hgs:gs=[]/\q=[]:=by cases gs<;>simp[DataW.TrodVars]at hV;exact⟨rfl,hV⟩
 obtain⟨rfl,rfl⟩:=hgs
 have lens:∀{ts:List TypeId} {vs:List Value} {ds:List (DataW H)} {p:List MemPlace},DataW.TrodAll enc P w 0 (fun _=>true) true ts vs ds p->ds.length=ts.length:=by
  intro ts
  induction ts with
  |nil=>intro vs ds p h;cases vs<;>cases ds<;>simp_all [DataW.TrodAll]
  |cons t ts ih=>
   intro vs ds p h
   cases vs<;>cases ds<;>simp[DataW.TrodAll]at h |-
   obtain⟨_,_,_,h,_⟩:=h
   exact ih h
 have gets:∀{ts:List TypeId} {vs:List Value} {ds:List (DataW H)} {p:List MemPlace},DataW.TrodAll enc P w 0 (fun _=>true) true ts vs ds p->∀(j:Nat) (t:TypeId) (v:Value),ts[j]? = some t->vs[j]? = some v->∃fuel d,DataW.trod enc P w 0 (fun _=>true) true fuel t v.cells.toList=some d:=by
  intro ts
  induction ts with
  |nil=>intro vs ds p h j t v h1;simp at h1
  |cons t ts ih=>
   intro vs ds p h j t' v' h1 h2
   cases vs<;>cases ds<;>simp only[DataW.TrodAll]at h
   obtain⟨_,_,⟨fuel,h0⟩,h,_⟩:=h
   cases j with
   |zero=>simp at h1 h2;subst h1;subst h2;exact⟨fuel,_,h0⟩
   |succ j=>exact ih h j t' v' (by simpa using h1) (by simpa using h2)
 obtain⟨ivs,e1,e2⟩:=Cm (m:=m) hA (fun t ht=>(hts t ht).1) (fun j t v h1 h2=>
  Lw (hval j t v (by simpa using h1) (by simpa using h2)) (hts t (aL h1)).1.1 (gets hA j t v h1 h2))
 obtain⟨n,h,hev⟩:=law ivs e1
 obtain⟨_,hc⟩:=Ui hp n f ivs [] _ hev
 refine(hc (Kx.base w.heap) w args (Dq (fun B h=>h) (fun B h=>h)) e2).mono ?_
 rintro e w' ⟨v,K1,rfl,hio,E,I,V⟩
 cases V
 injection hio with h1 h2
 injection h1 with h1 h3
 have bel:Below w.heap.size w w':=⟨h1,h3,h2,E.size,fun k hk=>E.fr k hk pS⟩
 have hfn':=hfn ds (by rw[lens hA];simp)
 refine⟨_,rfl,ds,[],_,[],p,[],hW',?_,?_,?_,bel.frame _,fun h=>by cases h⟩
 ·rw[hres,bA,hfn']
  exact trodAll_mk1 (shut_bool htb _)
 ·rw[bA,hfn']
  exact sO hl bel (fun t ht=>(hts t ht).2) hA
 ·rw[hvars,bA,hfn'];rfl
end
end Go.Ideal
