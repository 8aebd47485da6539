/- Claims: what the document makes of a state is what the program makes of it; runs. -/
import Derived.Test.YtofcecmdebcmpaaPlnb
set_option linter.unusedVariables false
set_option linter.unusedSimpArgs false
namespace Go.Ideal.Seat
open Go.Ideal.Plain
structure Fine (s:Stt):Prop where
 r:rosterOk s.2.2.2.1=true
 l:s.2.2.2.1.length≤2^30
 t:tSorted s.2.2.2.2
 o:∀x∈s.2.2.2.2,tktOk x=true
 n:s.2.2.2.2.length≤24
 e:0≤s.1∧s.1≤1099511627776
 x:1≤s.2.2.1∧s.2.2.1≤281474976710656
theorem Fine.fit {s:Stt} (h:Fine s):Seat.fit s:=⟨h.r,h.l,by have:=h.n;omega,by have:=h.e;omega,by have:=h.x;omega⟩
theorem Fine.withR {s:Stt} (h:Fine s) {l:List Dev} (hr:rosterOk l=true) (hl:l.length≤2^30):Fine (withR s l):=⟨hr,hl,h.t,h.o,h.n,h.e,h.x⟩
theorem Fine.move {s:Stt} (h:Fine s) (to:Int):Fine (moveS s to).1:=by
 unfold moveS
 split
 ·exact h
 ·have:=h.e
  exact⟨h.r,h.l,List.Pairwise.nil,by simp,by simp,by simp only;omega,h.x⟩
theorem live_sorted {l:List Tkt} (h:tSorted l) (now:Int):tSorted (liveS l now):=h.sublist List.filter_sublist
theorem issueT_fine {l:List Tkt} {t:Tkt} (hs:tSorted l) (ho:∀x∈l,tktOk x=true) (hn:l.length≤24):tSorted (issueT l t).1∧(∀x∈(issueT l t).1,tktOk x=true)∧(issueT l t).1.length≤24:=by
 unfold issueT
 cases hok:tktOk t with
 |false=>exact⟨hs,ho,hn⟩
 |true=>
  simp only[Bool.true_eq_false,if_false]
  have fin:∀(hlt:∀x∈l,x.1<t.1),tSorted (if 24≤l.length then (l,(2:Int)) else (l++[t],0)).1∧(∀x∈(if 24≤l.length then (l,(2:Int)) else (l++[t],0)).1,tktOk x=true)∧(if 24≤l.length then (l,(2:Int)) else (l++[t],0)).1.length≤24:=fun hlt=>by
   split
   ·exact⟨hs,ho,hn⟩
   ·refine⟨List.pairwise_append.2 ⟨hs,by simp,fun a ha b hb=>by simp at hb;subst hb;exact hlt a ha⟩,fun x hx=>?_,by simp;omega⟩
    simp only[List.mem_append,List.mem_singleton]at hx
    rcases hx with hx|rfl
    ·exact ho x hx
    ·exact hok
  cases hg:l.getLast? with
  |none=>
   simp only[Bool.false_eq_true,if_false]
   exact fin fun x hx=>by rw[List.getLast?_eq_none_iff.1 hg]at hx;simp at hx
  |some u=>
   simp only[decide_eq_true_eq]
   split
   ·exact⟨hs,ho,hn⟩
   ·exact fin fun x hx=>by have:=last_ge hs hg x hx;omega
theorem Fine.issue {s:Stt} (h:Fine s) (o:Opr):Fine (issueS s o).1:=by
 unfold issueS
 split
 ·exact h
 ·split
  ·exact h
  ·split
   ·exact h
   ·split
    ·exact h
    ·rename_i h3 _
     have:=h.x
     obtain⟨q1,q2,q3⟩:=issueT_fine (l:=liveS s.2.2.2.2 o.2.2.2.2.2.2) (t:=(s.2.2.1,o.2.2.2.2.1,o.2.2.2.2.2.1)) (live_sorted h.t _) (fun x hx=>h.o x (List.mem_filter.1 hx).1) (by have:=live_len s.2.2.2.2 o.2.2.2.2.2.2;have:=h.n;omega)
     exact⟨h.r,h.l,q1,q2,q3,h.e,by simp only;omega⟩
theorem Fine.try_ {s:Stt} (h:Fine s) (o:Opr) (hl:s.2.2.2.1.length<2^30):Fine (tryS s o).1:=by
 have h36:s.2.2.2.1.length≤2^36:=by have:=h.l;omega
 have ha:=accept_ok (l:=s.2.2.2.1) (id:=o.2.1) (rq:=o.2.2.1) h36 h.r
 have hal:(acceptS s.2.2.2.1 o.2.1 o.2.2.1).1.length≤2^30:=by have:=ha.2;omega
 unfold tryS
 split
 ·exact h.withR (enrol_ok h36 h.r) (by have:=enrol_len s.2.2.2.1 o.2.1;omega)
 ·split
  ·have hr:=revoke_ok (l:=s.2.2.2.1) (id:=o.2.1) h36 h.r
   have hrl:=revoke_len s.2.2.2.1 o.2.1
   unfold revokeSt
   split
   ·exact h
   ·split
    ·exact(h.withR hr (by omega)).move _
    ·exact h.withR hr (by omega)
  ·split
   ·unfold askedS
    split
    ·exact h
    ·split
     ·exact(h.withR ha.1 hal).issue o
     ·split
      ·exact h.withR ha.1 hal
      ·exact(h.withR ha.1 hal).move _
   ·split
    ·exact h.move _
    ·exact h
theorem Fine.do_ {s:Stt} (h:Fine s) (o:Opr) (hl:s.2.2.2.1.length<2^30):Fine (doS s o).1:=by
 unfold doS
 split
 ·exact h
 ·exact h.try_ o hl
theorem refMove_eq {s:Stt} (h:0≤s.1∧s.1≤1099511627776) (to:Int):O_batonref27_move (s,to)=some (moveS s to):=by
 unfold O_batonref27_move moveS
 by_cases h1:s.1=1099511627776
 ·have:1099511627776≤s.1:=by omega
  simp[h1]
 ·have h2:¬1099511627776≤s.1:=by omega
  have h1':(s.1==1099511627776)=false:=by simpa using h1
  simp only[h1',cond_false]
  rw[if_neg h2,w64 (by omega) (by omega)]
theorem refIssueSt_eq {s:Stt} (o:Opr) (h:Fine s):O_batonref27_issue (s,o)=some (issueS s o):=by
 have h36:s.2.2.2.1.length≤2^36:=by have:=h.l;omega
 have hx:=h.x
 have hn:=h.n
 have hll:=live_len s.2.2.2.2 o.2.2.2.2.2.2
 unfold O_batonref27_issue issueS whomS thereS
 simp only[refThere_eq _ _ h36]
 by_cases c1:s.2.1=o.2.1
 ·have c1':(s.2.1 != o.2.1)=false:=by simpa using c1
  simp only[c1',c1,bne_self_eq_false,ne_eq,not_true,if_false,cond_false]
  have fin:(bif (s.2.2.1==281474976710656) then (some (s,(16:Int))) else ((F_batonref26_Live (s.2.2.2.2,o.2.2.2.2.2.2)).bind fun r25=>((F_batonref26_Issue (r25,(s.2.2.1,(o.2.2.2.2.1,o.2.2.2.2.2.1)))).bind fun r26=>(bif (r26.2 != 0) then (some (s,r26.2)) else (some ((s.1,(s.2.1,((IntKind.wrap .i64 (s.2.2.1+1)),(s.2.2.2.1,r26.1)))),0))))))
   = some (if 281474976710656≤s.2.2.1 then (s,16) else if (issueT (liveS s.2.2.2.2 o.2.2.2.2.2.2) (s.2.2.1,o.2.2.2.2.1,o.2.2.2.2.2.1)).2≠0 then (s,(issueT (liveS s.2.2.2.2 o.2.2.2.2.2.2) (s.2.2.1,o.2.2.2.2.1,o.2.2.2.2.2.1)).2)
     else ((s.1,s.2.1,s.2.2.1+1,s.2.2.2.1,(issueT (liveS s.2.2.2.2 o.2.2.2.2.2.2) (s.2.2.1,o.2.2.2.2.1,o.2.2.2.2.2.1)).1),0)):=by
   by_cases c3:281474976710656≤s.2.2.1
   ·have c3':(s.2.2.1==281474976710656)=true:=by rw[beq_iff_eq];omega
    simp[c3,c3']
   ·have c3':(s.2.2.1==281474976710656)=false:=by rw[beq_eq_false_iff_ne];omega
    rw[c3',cond_false,if_neg c3,refLive_eq _ _ (by omega),Option.bind_some,refIssue_eq _ _ (by omega) (live_sorted h.t _),Option.bind_some,w64 (by omega) (by omega)]
    by_cases c4:(issueT (liveS s.2.2.2.2 o.2.2.2.2.2.2) (s.2.2.1,o.2.2.2.2.1,o.2.2.2.2.2.1)).2=0
    ·simp[c4]
    ·have:((issueT (liveS s.2.2.2.2 o.2.2.2.2.2.2) (s.2.2.1,o.2.2.2.2.1,o.2.2.2.2.2.1)).2 != 0)=true:=by simpa using c4
     simp[c4,this]
  rw[c1]at fin
  by_cases d1:o.2.2.2.2.1 < -1
  ·have d2:¬o.2.2.2.2.1 = -1:=by omega
   have d3:o.2.2.2.2.1<0:=by omega
   simp[d1,d2,d3]
  ·by_cases d4:o.2.2.2.2.1>15
   ·have d2:¬o.2.2.2.2.1 = -1:=by omega
    have d3:o.2.2.2.2.1<0∨16≤o.2.2.2.2.1:=by omega
    simp[d1,d4,d2,d3]
   ·simp only[d1,d4,decide_false,beq_self_eq_true,cond_true,Option.bind_some,cond_false]
    by_cases d2:o.2.2.2.2.1 = -1
    ·have d5:¬o.2.2.2.2.1≥0:=by omega
     simp only[d5,decide_false,Bool.false_beq,Bool.not_true,cond_false,Option.bind_some,if_pos d2,not_true,if_false]
     exact fin
    ·have d5:o.2.2.2.2.1≥0:=by omega
     have d3:¬(o.2.2.2.2.1<0∨16≤o.2.2.2.2.1):=by omega
     simp only[d5,decide_true,beq_self_eq_true,cond_true,Option.bind_some,if_neg d2,if_neg d3]
     cases hfd:findDev s.2.2.2.1 o.2.2.2.2.1 with
     |none=>simp
     |some d=>
      cases hgone:d.2.2.1 with
      |true=>simp[hgone]
      |false=>
       simp only[hgone,Bool.false_eq_true,if_false,bne_self_eq_false,cond_false,not_true]
       exact fin
 ·have:(s.2.1 != o.2.1)=true:=by simpa using c1
  simp[c1,this]
theorem refDo_eq {s:Stt} (o:Opr) (h:Fine s):O_batonref27_Do (s,o)=some (doS s o):=by
 have h36:s.2.2.2.1.length≤2^36:=by have:=h.l;omega
 have ha:=accept_ok (l:=s.2.2.2.1) (id:=o.2.1) (rq:=o.2.2.1) h36 h.r
 have hal:(acceptS s.2.2.2.1 o.2.1 o.2.2.1).1.length≤2^30:=by have:=ha.2;have:=h.l;omega
 have hfa:=h.withR ha.1 hal
 unfold O_batonref27_Do
 have fin:∀{x:Option (Int×Int×Int×List Dev×List Tkt×Int)} (r:Stt),(x=some (r.1,r.2.1,r.2.2.1,r.2.2.2.1,r.2.2.2.2,(tryS s o).2))→((tryS s o).2=0→r=(tryS s o).1)→
  (x.bind fun v179=>(bif (v179.2.2.2.2.2 != 0) then (some (s,v179.2.2.2.2.2)) else (some ((v179.1,(v179.2.1,(v179.2.2.1,(v179.2.2.2.1,v179.2.2.2.2.1)))),0))))=some (doS s o):=by
  rintro x r rfl hr
  unfold doS
  by_cases c:(tryS s o).2=0
  ·simp only[c,Option.bind_some,bne_self_eq_false,cond_false,ne_eq,not_true,if_false,hr c]
   rw[←c]
  ·have c':((tryS s o).2 != 0)=true:=by simpa using c
   simp only[c',Option.bind_some,cond_true]
   rw[if_pos c]
 by_cases c1:o.1=1
 ·refine fin (tryS s o).1 ?_ (fun _=>rfl)
  unfold tryS
  simp[c1,refEnrol_eq _ o.2.1 h36 h.r,withR]
 ·have c1':(o.1==1)=false:=by simpa using c1
  simp only[c1',cond_false]
  by_cases c2:o.1=2
  ·simp only[c2,beq_self_eq_true,cond_true,refRevoke_eq _ o.2.1 h36 h.r,Option.bind_some]
   by_cases e0:(revokeS s.2.2.2.1 o.2.1).2=0
   ·by_cases e1:s.2.1=o.2.1
    ·refine fin (tryS s o).1 ?_ (fun _=>rfl)
     have hm:=refMove_eq (s:=withR s (revokeS s.2.2.2.1 o.2.1).1) h.e (-1)
     unfold withR at hm
     unfold tryS revokeSt withR
     simp only[e0,e1,beq_self_eq_true,cond_true,Option.bind_some,c2,Int.reduceEq,if_false,if_true,ne_eq,not_true]at hm ⊢
     rw[hm];rfl
    ·have e1':(s.2.1==o.2.1)=false:=by simpa using e1
     refine fin (tryS s o).1 ?_ (fun _=>rfl)
     unfold tryS revokeSt withR
     simp[e0,e1,e1',c2]
   ·have e0':((revokeS s.2.2.2.1 o.2.1).2==0)=false:=by simpa using e0
    have ht:(tryS s o).2=(revokeS s.2.2.2.1 o.2.1).2:=by unfold tryS revokeSt;simp[c2,e0]
    refine fin (withR s (revokeS s.2.2.2.1 o.2.1).1) ?_ (fun hh=>absurd (ht▸hh) e0)
    rw[ht]
    simp[e0',withR]
  ·have c2':(o.1==2)=false:=by simpa using c2
   simp only[c2',cond_false]
   by_cases c3:o.1=3∨o.1=4∨o.1=5
   ·have hc:(bif (o.1==3) then (some (o.1==3)) else (bif (o.1==4) then (some (o.1==4)) else (some (o.1==5))))=some true:=by
     rcases c3 with c|c|c<;>simp[c]
    rw[hc]
    simp only[Option.bind_some,cond_true,refAccept_eq _ o.2.1 o.2.2.1 h36 h.r]
    have htry:tryS s o=askedS s o:=by unfold tryS;rw[if_neg c1,if_neg c2,if_pos c3]
    by_cases e0:(acceptS s.2.2.2.1 o.2.1 o.2.2.1).2=0
    ·by_cases c:o.1=3
     ·refine fin (tryS s o).1 ?_ (fun _=>rfl)
      have hi:=refIssueSt_eq o hfa
      rw[htry]
      unfold askedS
      unfold withR at hi ⊢
      simp only[e0,c,beq_self_eq_true,cond_true,ne_eq,not_true,if_false,if_true,Option.bind_some]at hi ⊢
      rw[hi]
      by_cases e2:(issueS (s.1,s.2.1,s.2.2.1,(acceptS s.2.2.2.1 o.2.1 o.2.2.1).1,s.2.2.2.2) o).2=0<;>simp[e2,bne]
     ·have c':(o.1==3)=false:=by simpa using c
      have cn:(o.1 != 3)=true:=by simpa using c
      by_cases c4:o.1=4
      ·have hu:=refUse_eq s.2.2.2.2 o.2.2.2.1 o.2.1 o.2.2.2.2.2.2 (by have:=h.n;omega) h.t h.o
       by_cases e2:useT s.2.2.2.2 o.2.2.2.1 o.2.1 o.2.2.2.2.2.2=0
       ·refine fin (tryS s o).1 ?_ (fun _=>rfl)
        have hm:=refMove_eq (s:=withR s (acceptS s.2.2.2.1 o.2.1 o.2.2.1).1) h.e o.2.1
        rw[htry]
        unfold askedS
        unfold withR at hm ⊢
        simp only[e0,c,c',c4,cn,e2,hu,beq_self_eq_true,cond_true,cond_false,ne_eq,not_true,and_false,if_false,Option.bind_some,Int.reduceEq,Int.reduceBEq,Int.reduceBNe]at hm ⊢
        rw[hm];rfl
       ·have e2':(useT s.2.2.2.2 o.2.2.2.1 o.2.1 o.2.2.2.2.2.2==0)=false:=by simpa using e2
        refine fin (tryS s o).1 ?_ (fun _=>rfl)
        rw[htry]
        unfold askedS withR
        simp[e0,c,c',c4,cn,e2,e2',hu]
      ·have c4':(o.1==4)=false:=by simpa using c4
       refine fin (tryS s o).1 ?_ (fun _=>rfl)
       have hm:=refMove_eq (s:=withR s (acceptS s.2.2.2.1 o.2.1 o.2.2.1).1) h.e o.2.1
       rw[htry]
       unfold askedS
       unfold withR at hm ⊢
       simp only[e0,c,c',c4,c4',cn,beq_self_eq_true,cond_true,cond_false,ne_eq,not_true,false_and,if_false,Option.bind_some]at hm ⊢
       rw[hm];rfl
    ·have e0':((acceptS s.2.2.2.1 o.2.1 o.2.2.1).2==0)=false:=by simpa using e0
     have ht:(tryS s o).2=(acceptS s.2.2.2.1 o.2.1 o.2.2.1).2:=by rw[htry];unfold askedS;simp[e0]
     refine fin (withR s (acceptS s.2.2.2.1 o.2.1 o.2.2.1).1) ?_ (fun hh=>absurd (ht▸hh) e0)
     rw[ht]
     simp[e0',withR]
   ·have hc:(bif (o.1==3) then (some (o.1==3)) else (bif (o.1==4) then (some (o.1==4)) else (some (o.1==5))))=some false:=by
     have a1:(o.1==3)=false:=by rw[beq_eq_false_iff_ne];omega
     have a2:(o.1==4)=false:=by rw[beq_eq_false_iff_ne];omega
     have a3:(o.1==5)=false:=by rw[beq_eq_false_iff_ne];omega
     simp[a1,a2,a3]
    rw[hc]
    simp only[Option.bind_some,cond_false]
    by_cases c6:o.1=6
    ·refine fin (tryS s o).1 ?_ (fun _=>rfl)
     unfold tryS
     rw[if_neg c1,if_neg c2,if_neg c3,if_pos c6,refMove_eq h.e]
     simp[c6]
    ·have c6':(o.1==6)=false:=by simpa using c6
     refine fin (tryS s o).1 ?_ (fun _=>rfl)
     unfold tryS
     rw[if_neg c1,if_neg c2,if_neg c3,if_neg c6]
     simp[c6']
theorem refDevs_same (l:List Dev) (h:l.length≤2^36):F_batonref25_Same (l,l)=some true:=by
 unfold F_batonref25_Same
 simp only[bne_self_eq_false,cond_false]
 rw[allLoop (l:=l) (fun _=>true) (z:=((l.length:Int),false)) (fun i e he=>?_) (by simp)]
 ·simp
 ·have hi:=getE_bound he
  have hi':(i:Int)<(l.length:Int):=by omega
  simp only[hi',decide_true,cond_true,Int.natCast_nonneg,Int.toNat_natCast,he,Option.bind_some,beq_self_eq_true,Bool.and_self,Bool.not_true,cond_false,if_true,wsucc (show i<2^62 by omega)]
theorem refTkts_same (l:List Tkt) (h:l.length≤2^36):F_batonref26_Same (l,l)=some true:=by
 unfold F_batonref26_Same
 simp only[bne_self_eq_false,cond_false]
 rw[allLoop (l:=l) (fun _=>true) (z:=((l.length:Int),false)) (fun i e he=>?_) (by simp)]
 ·simp
 ·have hi:=getE_bound he
  have hi':(i:Int)<(l.length:Int):=by omega
  simp only[hi',decide_true,cond_true,Int.natCast_nonneg,Int.toNat_natCast,he,Option.bind_some,beq_self_eq_true,Bool.and_self,Bool.not_true,cond_false,if_true,wsucc (show i<2^62 by omega)]
theorem refSame_refl (s:Stt) (hf:fewS s):F_batonref27_Same (s,s)=some true:=by
 unfold F_batonref27_Same
 simp only[beq_self_eq_true,cond_true,refDevs_same _ hf.1,refTkts_same _ hf.2,Option.bind_some]
theorem claim_runs_law (l:List Opr):F_batonlaw27_ClaimRuns l=some true:=by
 unfold F_batonlaw27_ClaimRuns F_batonlaw27_awake O_claim_New
 simp only[Option.bind_some,Bool.not_true,cond_false]
 by_cases hl:((l.length:Nat):Int)>60
 ·simp[hl]
 ·simp only[hl,decide_false,cond_false]
  rw[foldLoop (l:=l) (fun(a:Stt) i=>(a.1,a.2.1,a.2.2.1,a.2.2.2.1,a.2.2.2.2,a.1,a.2.1,a.2.2.1,a.2.2.2.1,a.2.2.2.2,i)) (fun a e=>(doS a e).1) (fun i a=>Fine a∧a.2.2.2.1.length≤i)
   (fin:=fun a=>.inr (a.1,a.2.1,a.2.2.1,a.2.2.2.1,a.2.2.2.2,a.1,a.2.1,a.2.2.1,a.2.2.2.1,a.2.2.2.2,(l.length:Int),false)) (a:=(0,-1,1,[],[])) ?_ (fun a i e he hi hv=>?_) (fun a hv=>by simp)]
  ·rfl
  ·exact⟨⟨rfl,by simp,List.Pairwise.nil,by simp,by simp,by simp only;omega,by simp only;omega⟩,by simp⟩
  ·obtain⟨v1,v2⟩:=hv
   have hi':(i:Int)<(l.length:Int):=by omega
   have hn:=do_near a e
   have hfd:=v1.do_ e (by omega)
   refine⟨?_,hfd,by have:=hn.r;omega⟩
   have hde:=do_eq a e v1.fit
   have hre:=refDo_eq e v1
   have hfew:fewS (doS a e).1:=⟨by have:=hfd.l;omega,by have:=hfd.n;omega⟩
   have hro:F_batonlaw27_RefOp e=some e:=rfl
   simp only[hi',decide_true,cond_true,Int.natCast_nonneg,Int.toNat_natCast,he,Option.bind_some,wsucc (show i<2^62 by omega),hro]
   rw[show ((a.1,a.2.1,a.2.2.1,a.2.2.2.1,a.2.2.2.2),e)=(a,e) from rfl,hde]
   simp only[Option.bind_some,hre,bne_self_eq_false,beq_self_eq_true,cond_true,refState _ hfew,refSame_refl _ hfew,Bool.not_true]
   by_cases c:(doS a e).2=0
   ·simp[c]
   ·have c':((doS a e).2 != 0)=true:=by simpa using c
    have hs:(doS a e).1=a:=by
     unfold doS at c ⊢
     split
     ·rfl
     ·rename_i h1;rw[if_neg h1]at c;exact absurd c h1
    simp only[c',beq_self_eq_true,cond_true]
    rw[show ((doS a e).1,a.1,a.2.1,a.2.2.1,a.2.2.2.1,a.2.2.2.2)=((doS a e).1,(doS a e).1) by rw[hs],claimSame_refl _ hfew]
    rfl
end Go.Ideal.Seat
