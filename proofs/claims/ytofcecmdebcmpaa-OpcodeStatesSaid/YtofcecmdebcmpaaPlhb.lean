/- Cells are read by both sides. -/
import Derived.Test.YtofcecmdebcmpaaPlha
set_option linter.unusedVariables false
set_option linter.unusedSimpArgs false
namespace Go.Ideal.Seat
open Go.Ideal.Plain
end Go.Ideal.Seat
set_option linter.unusedVariables false
set_option linter.unusedSimpArgs false
namespace Go.Ideal.Seat
open Go.Ideal.Plain
end Go.Ideal.Seat
set_option linter.unusedVariables false
set_option linter.unusedSimpArgs false
namespace Go.Ideal.Seat
open Go.Ideal.Plain
end Go.Ideal.Seat
set_option linter.unusedVariables false
set_option linter.unusedSimpArgs false
namespace Go.Ideal.Seat
open Go.Ideal.Plain
end Go.Ideal.Seat
set_option linter.unusedVariables false
set_option linter.unusedSimpArgs false
namespace Go.Ideal.Seat
open Go.Ideal.Plain
theorem bytes_same (a b:List Int) (h:a.length<2^60):F_batonref01_Same (a,b)=some (decide (a=b)):=by
 unfold F_batonref01_Same
 by_cases hl:a.length=b.length
 ·have hne:((((a.length):Nat):Int) != (((b.length):Nat):Int))=false:=by simp[hl]
  simp only[hne,cond_false]
  rw[sameLoop (l:=a) (m:=b) hl (fun d e=>decide (d=e)) (z:=((a.length:Int),false)) (fun i d e hd he=>?_) (by simp)]
  ·have:=zip_all_eq (l:=a) (m:=b) hl (p:=fun x=>decide (x.1=x.2)) (by simp)
   by_cases hab:a=b
   ·rw[if_pos (this.2 hab)];simp[hab]
   ·rw[if_neg (fun h=>hab (this.1 h))];simp[hab]
  ·have hi:=getE_bound hd
   have hi':(i:Int)<(a.length:Int):=by omega
   have hbq:(d != e) = !decide (d=e):=by by_cases h:d=e<;>simp[h]
   simp only[hi',decide_true,cond_true,Int.natCast_nonneg,Int.toNat_natCast,hd,he,Option.bind_some,hbq,wsucc (show i<2^62 by omega)]
   by_cases hde:d=e<;>simp[hde]
 ·have hne:((((a.length):Nat):Int) != (((b.length):Nat):Int))=true:=by simp;omega
  have:a≠b:=fun e=>hl (by rw[e])
  simp only[hne,cond_true,this,decide_false]
end Go.Ideal.Seat
set_option linter.unusedVariables false
set_option linter.unusedSimpArgs false
namespace Go.Ideal.Plain
section
variable {E X S:Type}
def okAt (p:E→Bool) (f:E→E→Bool) (a:Option E) (e:E):Bool:=p e&&(match a with|none=>true|some d=>f d e)
def chainOk (p:E→Bool) (f:E→E→Bool):Option E→List E→Bool
 |_,[]=>true
 |a,e::r=>okAt p f a e&&chainOk p f (some e) r
theorem chain_cons {p:E→Bool} {f:E→E→Bool} {a:Option E} {e:E} {r:List E}:chainOk p f a (e::r)=(okAt p f a e&&chainOk p f (some e) r):=by cases a<;>rfl
theorem chainLoopI (p:E→Bool) (f:E→E→Bool) {l:List E} {F:Int→Option (Int⊕(Bool⊕X))} {z:X}
 (h1:∀(i:Nat) e a,l[i]? = some e→(a=if i=0 then none else l[i-1]?)→(i≠0→a≠none)→F i=some (if okAt p f a e=true then .inl ((i+1:Nat):Int) else .inr (.inl false)))
 (h2:F (l.length:Int)=some (.inr (.inr z))):iterL F 0=some (if chainOk p f none l=true then .inr z else .inl false):=by
 have key:∀(n i:Nat) (a:Option E),i+n=l.length→(a=if i=0 then none else l[i-1]?)→(i≠0→a≠none)→iterL F (i:Int)=some (if chainOk p f a (l.drop i)=true then .inr z else .inl false):=by
  intro n
  induction n with
  |zero=>
   intro i a hi _ _
   have:i=l.length:=by omega
   subst this
   rw[iterL_inr h2];simp[chainOk]
  |succ n ih=>
   intro i a hi ha hn
   have hlt:i<l.length:=by omega
   have hg:=List.getElem?_eq_getElem hlt
   have hf:=h1 i _ a hg ha hn
   rw[List.drop_eq_getElem_cons hlt,chain_cons]
   by_cases hp:okAt p f a l[i]=true
   ·rw[if_pos hp]at hf
    rw[iterL_inl hf,hp,Bool.true_and]
    exact ih (i+1) (some l[i]) (by omega) (by simp[hg]) (by simp)
   ·rw[if_neg hp]at hf
    rw[iterL_inr hf,(Bool.not_eq_true _).mp hp];simp
 have:=key l.length 0 none (by omega) (by simp) (by simp)
 simpa using this
theorem chainLoopA {Y:Type} (p:E→Bool) (f:E→E→Bool) {l:List E} (mk:Option E→Int→S) {F:S→Option (S⊕(Bool⊕X))} (zf:Option E→X) {post:Bool⊕X→Option Y} (y:Option Y) (hp:∀a,post (.inr (zf a))=y)
 (h1:∀(i:Nat) e a,l[i]? = some e→(∀d,a=some d→p d=true)→F (mk a i)=some (if okAt p f a e=true then .inl (mk (some e) ((i+1:Nat):Int)) else .inr (.inl false)))
 (h2:∀a,F (mk a l.length)=some (.inr (.inr (zf a)))):(iterL F (mk none 0)).bind post=if chainOk p f none l=true then y else post (.inl false):=by
 have key:∀(n i:Nat) (a:Option E),i+n=l.length→(∀d,a=some d→p d=true)→(iterL F (mk a i)).bind post=if chainOk p f a (l.drop i)=true then y else post (.inl false):=by
  intro n
  induction n with
  |zero=>
   intro i a hi hv
   have:i=l.length:=by omega
   subst this
   rw[iterL_inr (h2 a)]
   simp[chainOk,hp]
  |succ n ih=>
   intro i a hi hv
   have hlt:i<l.length:=by omega
   have hg:=List.getElem?_eq_getElem hlt
   have hf:=h1 i _ a hg hv
   rw[List.drop_eq_getElem_cons hlt,chain_cons]
   by_cases hq:okAt p f a l[i]=true
   ·rw[if_pos hq]at hf
    rw[iterL_inl hf,hq,Bool.true_and]
    refine ih (i+1) (some l[i]) (by omega) fun d hd=>?_
    injection hd with hd
    unfold okAt at hq
    simp only[Bool.and_eq_true]at hq
    rw[←hd];exact hq.1
   ·rw[if_neg hq]at hf
    rw[iterL_inr hf,(Bool.not_eq_true _).mp hq];simp
 have:=key l.length 0 none (by omega) (by simp)
 simpa using this
theorem chain_mem {p:E→Bool} {f:E→E→Bool}:∀{l:List E} {a:Option E},chainOk p f a l=true→∀e∈l,p e=true
 |[],_,_,e,he=>by simp at he
 |d::r,a,h,e,he=>by
  simp only[chainOk,okAt,Bool.and_eq_true]at h
  rcases List.mem_cons.1 he with rfl|he
  ·exact h.1.1
  ·exact chain_mem h.2 e he
theorem chain_pair {p:E→Bool} {f:E→E→Bool} (ht:∀a b c,f a b=true→f b c=true→f a c=true):∀{l:List E} {a:Option E},chainOk p f a l=true→(∀d,a=some d→∀e∈l,f d e=true)∧l.Pairwise fun d e=>f d e=true
 |[],_,_=>⟨by simp,.nil⟩
 |d::r,a,h=>by
  simp only[chainOk,okAt,Bool.and_eq_true]at h
  obtain⟨i1,i2⟩:=chain_pair ht h.2
  refine⟨fun x hx e he=>?_,List.pairwise_cons.2 ⟨i1 d rfl,i2⟩⟩
  subst hx
  rcases List.mem_cons.1 he with rfl|he
  ·exact h.1.2
  ·exact ht _ _ _ h.1.2 (i1 d rfl e he)
end
end Go.Ideal.Plain
namespace Go.Ideal.Seat
open Go.Ideal.Plain
abbrev Dev:=Int×Int×Bool×Int
abbrev Tkt:=Int×Int×Int
abbrev Stt:=Int×Int×Int×List Dev×List Tkt
def devOk (d:Dev):Bool:=decide (0≤d.1∧d.1<16∧1≤d.2.1∧d.2.1≤1000∧0≤d.2.2.2∧d.2.2.2≤281474976710656)
def devLt (d e:Dev):Bool:=decide (d.1<e.1)
def tktOk (t:Tkt):Bool:=decide (1≤t.1∧t.1≤281474976710656∧-1≤t.2.1∧t.2.1<16∧0≤t.2.2∧t.2.2≤281474976710656)
def tktLt (s t:Tkt):Bool:=decide (s.1<t.1)
def rosterOk (l:List Dev):Bool:=chainOk devOk devLt none l
def ticketsOk (l:List Tkt):Bool:=chainOk tktOk tktLt none l&&decide (l.length≤24)
theorem rosterRight_eq (l:List Dev) (h:l.length≤2^36):F_roster_Right l=some (rosterOk l):=by
 unfold F_roster_Right rosterOk
 rw[chainLoopI devOk devLt (l:=l) (z:=((l.length:Int),false)) (fun i d a hd ha hn=>?_) (by simp)]
 ·cases chainOk devOk devLt none l<;>rfl
 ·have hi:=getE_bound hd
  have hi':(i:Int)<(l.length:Int):=by omega
  have key:(bif ((decide (d.1<0))==false) then (bif ((decide (d.1≥16))==false) then (bif ((decide ((i:Int)>0))==true) then (bif decide (0≤(IntKind.wrap .i64 ((i:Int)-1))) then ((l[((IntKind.wrap .i64 ((i:Int)-1))).toNat]?).bind fun e57=>(bif ((decide (d.1≤e57.1))==false) then (bif ((decide (d.2.1<1))==false) then (bif ((decide (d.2.1>1000))==false) then (bif ((decide (d.2.2.2<0))==false) then (some (decide (d.2.2.2>281474976710656))) else (some true)) else (some true)) else (some true)) else (some true))) else none) else (bif ((decide (d.2.1<1))==false) then (bif ((decide (d.2.1>1000))==false) then (bif ((decide (d.2.2.2<0))==false) then (some (decide (d.2.2.2>281474976710656))) else (some true)) else (some true)) else (some true))) else (some true)) else (some true))=some (!okAt devOk devLt a d):=by
   have tail:(bif ((decide (d.2.1<1))==false) then (bif ((decide (d.2.1>1000))==false) then (bif ((decide (d.2.2.2<0))==false) then (some (decide (d.2.2.2>281474976710656))) else (some true)) else (some true)) else (some true))=some (!decide (1≤d.2.1∧d.2.1≤1000∧0≤d.2.2.2∧d.2.2.2≤281474976710656)):=by
    by_cases a:d.2.1<1<;>by_cases b:d.2.1>1000<;>by_cases c:d.2.2.2<0<;>by_cases e:d.2.2.2>281474976710656<;>simp[a,b,c,e]<;>omega
   have hdv:devOk d=(decide (0≤d.1∧d.1<16)&&decide (1≤d.2.1∧d.2.1≤1000∧0≤d.2.2.2∧d.2.2.2≤281474976710656)):=by
    unfold devOk;rw[Bool.eq_iff_iff];simp only[decide_eq_true_eq,Bool.and_eq_true];omega
   rw[tail]
   unfold okAt
   rw[hdv]
   by_cases h0:i=0
   ·subst h0
    rw[if_pos rfl]at ha
    subst ha
    have hz:¬(((0:Nat):Int)>0):=by simp
    simp only[hz,decide_false,Bool.false_beq,Bool.not_true,cond_false,Bool.and_true]
    by_cases a:d.1<0<;>by_cases b:d.1≥16<;>simp[a,b]<;>omega
   ·have hi1:IntKind.i64.wrap ((i:Int)-1)=((i-1:Nat):Int):=by rw[w64 (by omega) (by omega)];omega
    have hpos:(i:Int)>0:=by omega
    rw[if_neg h0]at ha
    cases a with
    |none=>exact(hn h0 rfl).elim
    |some e=>
     simp only[hpos,decide_true,beq_self_eq_true,cond_true,hi1,Int.natCast_nonneg,Int.toNat_natCast,←ha,Option.bind_some,devLt]
     generalize decide (1≤d.2.1∧d.2.1≤1000∧0≤d.2.2.2∧d.2.2.2≤281474976710656)=q
     have e1:decide (d.1≤e.1) = !decide (e.1<d.1):=by rw[←decide_not,decide_eq_decide];omega
     rw[e1]
     by_cases a:d.1<0<;>by_cases b:d.1≥16<;>cases q<;>cases decide (e.1<d.1)<;>simp[a,b]<;>omega
  simp only[hi',decide_true,cond_true,Int.natCast_nonneg,Int.toNat_natCast,hd,Option.bind_some,key,wsucc (show i<2^62 by omega)]
  cases okAt devOk devLt a d<;>rfl
def lastId (x:Int):Option Dev→Int
 |none=>x
 |some d=>d.1
theorem refRoster_eq (l:List Dev) (h:l.length≤2^36):F_batonref25_Right l=some (rosterOk l):=by
 unfold F_batonref25_Right rosterOk
 refine(chainLoopA (S:=Int×Int) (X:=Int×Int×Bool) devOk devLt (l:=l) (fun a i=>(lastId (-1) a,i)) (fun a=>(lastId (-1) a,(l.length:Int),false)) (some true) (fun a=>rfl) (fun i d a hd hv=>?_) (fun a=>by simp)).trans (by cases chainOk devOk devLt none l<;>rfl)
 have hi:=getE_bound hd
 have hi':(i:Int)<(l.length:Int):=by omega
 have key:(bif ((decide (d.1≤lastId (-1) a))==false) then (bif ((decide (d.1>15))==false) then (bif ((decide (d.2.1<1))==false) then (bif ((decide (d.2.1>1000))==false) then (bif ((decide (d.2.2.2<0))==false) then (some (decide (d.2.2.2>281474976710656))) else (some true)) else (some true)) else (some true)) else (some true)) else (some true))=some (!(decide (lastId (-1) a<d.1∧d.1≤15∧1≤d.2.1∧d.2.1≤1000∧0≤d.2.2.2∧d.2.2.2≤281474976710656))):=by
  by_cases a0:d.1≤lastId (-1) a<;>by_cases b0:d.1>15<;>by_cases a:d.2.1<1<;>by_cases b:d.2.1>1000<;>by_cases c:d.2.2.2<0<;>by_cases e:d.2.2.2>281474976710656<;>simp[a0,b0,a,b,c,e]<;>omega
 have hok:decide (lastId (-1) a<d.1∧d.1≤15∧1≤d.2.1∧d.2.1≤1000∧0≤d.2.2.2∧d.2.2.2≤281474976710656)=okAt devOk devLt a d:=by
  unfold okAt devOk devLt
  cases a with
  |none=>
   show decide ((-1:Int)<d.1∧d.1≤15∧1≤d.2.1∧d.2.1≤1000∧0≤d.2.2.2∧d.2.2.2≤281474976710656)=(decide (0≤d.1∧d.1<16∧1≤d.2.1∧d.2.1≤1000∧0≤d.2.2.2∧d.2.2.2≤281474976710656)&&true)
   rw[Bool.and_true,decide_eq_decide]
   omega
  |some x=>
   have hx:=hv x rfl
   unfold devOk at hx
   rw[decide_eq_true_eq]at hx
   show decide (x.1<d.1∧d.1≤15∧1≤d.2.1∧d.2.1≤1000∧0≤d.2.2.2∧d.2.2.2≤281474976710656)=(decide (0≤d.1∧d.1<16∧1≤d.2.1∧d.2.1≤1000∧0≤d.2.2.2∧d.2.2.2≤281474976710656)&&decide (x.1<d.1))
   rw[Bool.eq_iff_iff]
   simp only[Bool.and_eq_true,decide_eq_true_eq]
   omega
 simp only[hi',decide_true,cond_true,Int.natCast_nonneg,Int.toNat_natCast,hd,Option.bind_some,key,hok,wsucc (show i<2^62 by omega)]
 cases okAt devOk devLt a d<;>rfl
theorem tktOne_eq (t:Tkt):F_ticket_one t=some (tktOk t):=by
 unfold F_ticket_one tktOk
 by_cases a:t.1≥1<;>by_cases b:t.1≤281474976710656<;>by_cases c:t.2.1≥-1<;>by_cases d:t.2.1<16<;>by_cases e:t.2.2≥0<;>by_cases f:t.2.2≤281474976710656<;>simp[a,b,c,d,e,f]<;>omega
theorem refOne_eq (t:Tkt):F_batonref26_One t=some (tktOk t):=by
 unfold F_batonref26_One tktOk
 by_cases a:t.1≥1<;>by_cases b:t.1≤281474976710656<;>by_cases c:t.2.1≥-1<;>by_cases d:t.2.1≤15<;>by_cases e:t.2.2≥0<;>by_cases f:t.2.2≤281474976710656<;>simp[a,b,c,d,e,f]<;>omega
theorem le24 (n:Nat):decide (((n:Nat):Int)≤24)=decide (n≤24):=by rw[decide_eq_decide];omega
theorem ticketRight_eq (l:List Tkt) (h:l.length≤2^36):F_ticket_Right l=some (ticketsOk l):=by
 unfold F_ticket_Right ticketsOk
 rw[chainLoopI tktOk tktLt (l:=l) (z:=((l.length:Int),false)) (fun i d a hd ha hn=>?_) (by simp)]
 ·cases chainOk tktOk tktLt none l with
  |true=>simp only[if_true,Option.bind_some,le24,Bool.true_and]
  |false=>rfl
 ·have hi:=getE_bound hd
  have hi':(i:Int)<(l.length:Int):=by omega
  simp only[hi',decide_true,cond_true,Int.natCast_nonneg,Int.toNat_natCast,hd,Option.bind_some,tktOne_eq,wsucc (show i<2^62 by omega)]
  unfold okAt
  cases ht:tktOk d with
  |false=>rfl
  |true=>
   by_cases h0:i=0
   ·subst h0
    rw[if_pos rfl]at ha
    subst ha
    rfl
   ·have hi1:IntKind.i64.wrap ((i:Int)-1)=((i-1:Nat):Int):=by rw[w64 (by omega) (by omega)];omega
    have hpos:(i:Int)>0:=by omega
    rw[if_neg h0]at ha
    cases a with
    |none=>exact(hn h0 rfl).elim
    |some e=>
     simp only[Bool.not_true,hpos,decide_true,beq_self_eq_true,cond_true,hi1,Int.natCast_nonneg,Int.toNat_natCast,←ha,Option.bind_some,tktLt]
     have e1:decide (d.1≤e.1) = !decide (e.1<d.1):=by rw[←decide_not,decide_eq_decide];omega
     rw[e1]
     by_cases hlt:e.1<d.1
     ·simp only[hlt,decide_true];rfl
     ·simp only[hlt,decide_false];rfl
def lastNo:Option Tkt→Int
 |none=>0
 |some t=>t.1
theorem refTickets_eq (l:List Tkt) (h:l.length≤2^36):F_batonref26_Right l=some (ticketsOk l):=by
 unfold F_batonref26_Right ticketsOk
 refine(chainLoopA (S:=Int×Int) (X:=Int×Int×Bool) tktOk tktLt (l:=l) (fun a i=>(lastNo a,i)) (fun a=>(lastNo a,(l.length:Int),false)) (some (decide (l.length≤24))) (fun a=>by simp only[le24]) (fun i d a hd hv=>?_) (fun a=>by simp)).trans (by cases chainOk tktOk tktLt none l<;>rfl)
 have hi:=getE_bound hd
 have hi':(i:Int)<(l.length:Int):=by omega
 simp only[hi',decide_true,cond_true,Int.natCast_nonneg,Int.toNat_natCast,hd,Option.bind_some,refOne_eq,wsucc (show i<2^62 by omega)]
 have hok:(tktOk d&& !decide (d.1≤lastNo a))=okAt tktOk tktLt a d:=by
  unfold okAt tktLt
  cases a with
  |none=>
   simp only[Bool.and_true,lastNo]
   cases ht:tktOk d with
   |false=>rfl
   |true=>
    unfold tktOk at ht
    rw[decide_eq_true_eq]at ht
    have:¬d.1≤0:=by omega
    simp[this]
  |some x=>
   have e1:decide (d.1≤x.1) = !decide (x.1<d.1):=by rw[←decide_not,decide_eq_decide];omega
   show (tktOk d&& !decide (d.1≤x.1))=(tktOk d&&decide (x.1<d.1))
   rw[e1,Bool.not_not]
 rw[←hok]
 cases tktOk d with
 |false=>rfl
 |true=>cases decide (d.1≤lastNo a)<;>rfl
end Go.Ideal.Seat
set_option linter.unusedVariables false
set_option linter.unusedSimpArgs false
namespace Go.Ideal.Seat
open Go.Ideal.Plain
theorem mid_eq (a b:Nat) (h:a+b<2^62):IntKind.wrap .i64 (Int.fdiv (IntKind.wrap .u64 (IntKind.wrap .i64 ((a:Int)+(b:Int)))) (2^min (Int.toNat 1) (IntKind.bits .u64)))=(((a+b)/2:Nat):Int):=by
 have e1:min (Int.toNat 1) (IntKind.bits .u64)=1:=by decide
 have e2:(2:Int)^1=2:=by decide
 rw[e1,e2,w64 (x:=(a:Int)+b) (by omega) (by omega),Go.IntWalk.u64_in _ (by omega),Int.fdiv_eq_ediv_of_nonneg _ (by omega)]
 have:((a:Int)+b)/2=(((a+b)/2:Nat):Int):=by omega
 rw[this]
 exact w64 (by omega) (by omega)
theorem searchLoop {E Y X S:Type} {l:List E} (less:E→Bool) (hs:∀(i j:Nat) d e,i<j→l[i]? = some d→l[j]? = some e→less e=true→less d=true) (mk:Nat→Nat→S) (fin:Nat→X) {F:S→Option (S⊕X)} {G:X→Option Y} {r:Option Y}
 (h1:∀(lo hi:Nat) e,lo<hi→hi≤l.length→l[(lo+hi)/2]? = some e→F (mk lo hi)=some (.inl (if less e=true then mk ((lo+hi)/2+1) hi else mk lo ((lo+hi)/2))))
 (h2:∀k,k≤l.length→F (mk k k)=some (.inr (fin k))) (h3:∀k,k≤l.length→(∀(j:Nat) e,j<k→l[j]? = some e→less e=true)→(∀(j:Nat) e,k≤j→l[j]? = some e→less e=false)→G (fin k)=r):(iterL F (mk 0 l.length)).bind G=r:=by
 have key:∀(m lo hi:Nat),hi-lo=m→lo≤hi→hi≤l.length→(∀(j:Nat) e,j<lo→l[j]? = some e→less e=true)→(∀(j:Nat) e,hi≤j→l[j]? = some e→less e=false)→(iterL F (mk lo hi)).bind G=r:=by
  intro m
  induction m using Nat.strongRecOn with
  |ind m ih=>
   intro lo hi hm hle hn ha hb
   by_cases he:lo=hi
   ·subst he
    rw[iterL_inr (h2 lo hn)]
    exact h3 lo hn ha hb
   ·have hlt:(lo+hi)/2<l.length:=by omega
    have hg:=List.getElem?_eq_getElem hlt
    have hf:=h1 lo hi _ (by omega) hn hg
    rw[iterL_inl hf]
    by_cases hl:less l[(lo+hi)/2]=true
    ·rw[if_pos hl]
     refine ih (hi-((lo+hi)/2+1)) (by omega) _ hi rfl (by omega) hn (fun j e hj hje=>?_) hb
     by_cases hj2:j=(lo+hi)/2
     ·subst hj2;rw[hg]at hje;injection hje with hje;rw[←hje];exact hl
     ·exact hs j ((lo+hi)/2) e _ (by omega) hje hg hl
    ·rw[if_neg hl]
     refine ih ((lo+hi)/2-lo) (by omega) lo _ rfl (by omega) (by omega) ha (fun j e hj hje=>?_)
     cases hle':less e with
     |false=>rfl
     |true=>
      by_cases hj2:j=(lo+hi)/2
      ·subst hj2;rw[hg]at hje;injection hje with hje;rw[hje]at hl;exact(hl hle').elim
      ·exact(hl (hs ((lo+hi)/2) j _ e (by omega) hg hje hle')).elim
 exact key l.length 0 l.length (by omega) (by omega) (Nat.le_refl _) (by omega) (fun j e hj hje=>by have:=getE_bound hje;omega)
def findDev (l:List Dev) (id:Int):Option Dev:=l.find? fun d=>d.1==id
theorem roster_sorted {l:List Dev} (h:rosterOk l=true):∀(i j:Nat) (d e:Dev),i<j→l[i]? = some d→l[j]? = some e→d.1<e.1:=fun i j d e hij hd he=>by
 have hp:=(chain_pair (fun a b c h1 h2=>by unfold devLt at *;simp only[decide_eq_true_eq]at *;omega) h).2
 have hj:=getE_bound he
 rw[List.getElem?_eq_getElem (by omega)]at hd he
 injection hd with hd
 injection he with he
 have:=List.pairwise_iff_getElem.1 hp i j (by omega) hj hij
 rw[hd,he]at this
 unfold devLt at this
 simpa using this
theorem compare_eq (d:Dev) (id:Int):F_roster_place_1 (d,id)=some (if d.1<id then -1 else if d.1>id then 1 else 0):=by
 unfold F_roster_place_1 F_cmp_Compare_int F_cmp_isNaN_int
 simp only[bne_self_eq_false,Option.bind_some,cond_false]
 by_cases a:d.1<id
 ·simp[a]
 ·by_cases b:d.1>id
  ·simp only[a,b,decide_false,decide_true,cond_true,cond_false,Option.bind_some,if_false,if_true]
  ·simp only[a,b,decide_false,cond_false,Option.bind_some,if_false]
theorem find_at {l:List Dev} {id:Int} {k:Nat} (h1:∀(j:Nat) (e:Dev),j<k→l[j]? = some e→e.1<id) (h2:∀(j:Nat) (e:Dev),k≤j→l[j]? = some e→id≤e.1) (hs:∀(i j:Nat) (d e:Dev),i<j→l[i]? = some d→l[j]? = some e→d.1<e.1):
 findDev l id=match l[k]? with|some d=>if d.1=id then some d else none|none=>none:=by
 unfold findDev
 have hsplit:l=l.take k++l.drop k:=(List.take_append_drop k l).symm
 have hn:(l.take k).find? (fun d=>d.1==id)=none:=by
  rw[List.find?_eq_none]
  intro d hd
  obtain⟨j,hj⟩:=List.mem_iff_getElem?.1 hd
  have hjk:j<k:=by have:=getE_bound hj;simp at this;omega
  rw[List.getElem?_take_of_lt hjk]at hj
  have:=h1 j d hjk hj
  simp;omega
 conv=>lhs;rw[hsplit]
 rw[List.find?_append,hn,Option.none_or]
 cases hk:l[k]? with
 |none=>
  have:l.drop k=[]:=List.drop_eq_nil_iff.2 (by simpa using List.getElem?_eq_none_iff.1 hk)
  rw[this];rfl
 |some d=>
  have hlt:=getE_bound hk
  rw[List.drop_eq_getElem_cons hlt]
  rw[List.getElem?_eq_getElem hlt]at hk
  injection hk with hk
  rw[hk]
  by_cases hd:d.1=id
  ·simp[List.find?_cons,hd]
  ·have hb:(d.1==id)=false:=by simpa using hd
   simp only[List.find?_cons,hb,hd,if_false]
   rw[List.find?_eq_none]
   intro e he
   obtain⟨j,hj⟩:=List.mem_iff_getElem?.1 he
   rw[List.getElem?_drop]at hj
   have hdk:l[k]? = some d:=by rw[List.getElem?_eq_getElem hlt,hk]
   have:=hs k (k+1+j) d e (by omega) hdk hj
   have:=h2 k d (Nat.le_refl _) hdk
   simp;omega
theorem split_at {E:Type} (p:E→Bool):∀l:List E,∃k,k≤l.length∧(∀(j:Nat) e,j<k→l[j]? = some e→p e=true)∧(∀e,l[k]? = some e→p e=false)
 |[]=>⟨0,Nat.le_refl _,by simp,by simp⟩
 |a::l=>by
  cases ha:p a with
  |false=>exact⟨0,by simp,by omega,by simp[ha]⟩
  |true=>
   obtain⟨k,h1,h2,h3⟩:=split_at p l
   refine⟨k+1,by simp;omega,fun j e hj he=>?_,fun e he=>h3 e (by simpa using he)⟩
   cases j with
   |zero=>simp at he;rw[←he];exact ha
   |succ j=>exact h2 j e (by omega) (by simpa using he)
def placeOf (l:List Dev) (id:Int):Nat:=(l.takeWhile fun d=>decide (d.1<id)).length
theorem placeOf_eq {l:List Dev} {id:Int} {k:Nat} (hk:k≤l.length) (h1:∀(j:Nat) (e:Dev),j<k→l[j]? = some e→e.1<id) (h2:∀(j:Nat) (e:Dev),k≤j→l[j]? = some e→id≤e.1):placeOf l id=k:=by
 unfold placeOf
 have hsplit:l=l.take k++l.drop k:=(List.take_append_drop k l).symm
 have hp:∀d∈l.take k,decide (d.1<id)=true:=fun d hd=>by
  obtain⟨j,hj⟩:=List.mem_iff_getElem?.1 hd
  have hjk:j<k:=by have:=getE_bound hj;simp at this;omega
  rw[List.getElem?_take_of_lt hjk]at hj
  simpa using h1 j d hjk hj
 have hd:(l.drop k).takeWhile (fun d=>decide (d.1<id))=[]:=by
  cases hk:l.drop k with
  |nil=>rfl
  |cons d r=>
   have hg:l[k]? = some d:=by
    have:(l.drop k)[0]? = some d:=by rw[hk];rfl
    rwa [List.getElem?_drop,Nat.add_zero]at this
   have:=h2 k d (Nat.le_refl _) hg
   have hn:decide (d.1<id)=false:=by simp;omega
   simp[List.takeWhile_cons,hn]
 conv=>lhs;rw[hsplit]
 rw[List.takeWhile_append_of_pos hp,hd]
 simp;omega
theorem place_eq (l:List Dev) (id:Int) (hl:l.length≤2^36) (hs:∀(i j:Nat) (d e:Dev),i<j→l[i]? = some d→l[j]? = some e→d.1<e.1):
 F_roster_place (l,id)=some ((placeOf l id:Int),(findDev l id).isSome)∧placeOf l id≤l.length∧findDev l id=(match l[placeOf l id]? with|some d=>if d.1=id then some d else none|none=>none):=by
 have key:∀k,k≤l.length→(∀(j:Nat) (e:Dev),j<k→l[j]? = some e→e.1<id)→(∀(j:Nat) (e:Dev),k≤j→l[j]? = some e→id≤e.1)→placeOf l id≤l.length∧findDev l id=(match l[placeOf l id]? with|some d=>if d.1=id then some d else none|none=>none):=fun k hk h1 h2=>by
  rw[placeOf_eq hk h1 h2]
  exact⟨hk,find_at h1 h2 hs⟩
 have hex:placeOf l id≤l.length∧findDev l id=(match l[placeOf l id]? with|some d=>if d.1=id then some d else none|none=>none):=by
  obtain⟨k,hk,h1,h2⟩:=split_at (fun d:Dev=>decide (d.1<id)) l
  refine key k hk (fun j e hj he=>by simpa using h1 j e hj he) (fun j e hj he=>?_)
  have hj':=getE_bound he
  have hg:=List.getElem?_eq_getElem (show k<l.length by omega)
  have hn:=h2 _ hg
  simp only[decide_eq_false_iff_not]at hn
  by_cases hjk:j=k
  ·subst hjk;rw[hg]at he;injection he with he;rw[←he];omega
  ·have:=hs k j _ e (by omega) hg he
   omega
 refine⟨?_,hex⟩
 unfold F_roster_place
 refine searchLoop (l:=l) (fun d=>decide (d.1<id)) (fun i j d e hij hd he h=>by have:=hs i j d e hij hd he;simp at h ⊢;omega) (fun lo hi=>((lo:Int),(hi:Int))) (fun k=>((k:Int),(k:Int),false)) (fun lo hi e hlt hle he=>?_) (fun k hk=>?_) (fun k hk h1 h2=>?_)
 ·have hlt':(lo:Int)<(hi:Int):=by omega
  simp only[hlt',decide_true,cond_true,mid_eq lo hi (by omega),Int.natCast_nonneg,Int.toNat_natCast,he,Option.bind_some,compare_eq,wsucc (show (lo+hi)/2<2^62 by omega)]
  by_cases a:e.1<id
  ·simp[a]
  ·by_cases b:e.1>id<;>simp[a,b]
 ·have hlt':¬(k:Int)<(k:Int):=by omega
  simp only[hlt',decide_false,cond_false]
 ·have h1':∀(j:Nat) (e:Dev),j<k→l[j]? = some e→e.1<id:=fun j e hj he=>by simpa using h1 j e hj he
  have h2':∀(j:Nat) (e:Dev),k≤j→l[j]? = some e→id≤e.1:=fun j e hj he=>by have:=h2 j e hj he;simp at this;omega
  rw[placeOf_eq hk h1' h2',find_at h1' h2' hs]
  by_cases hlt:k<l.length
  ·have hlt':(k:Int)<(l.length:Int):=by omega
   have hg:=List.getElem?_eq_getElem hlt
   simp only[hlt',decide_true,beq_self_eq_true,cond_true,Int.natCast_nonneg,Int.toNat_natCast,hg,Option.bind_some,compare_eq]
   have:=h2' k _ (Nat.le_refl _) hg
   by_cases b:l[k].1=id
   ·simp[b]
   ·have c:l[k].1>id:=by omega
    have d:¬l[k].1<id:=by omega
    simp[b,c,d]
  ·have hlt':¬(k:Int)<(l.length:Int):=by omega
   have hg:l[k]? = none:=List.getElem?_eq_none (by omega)
   simp only[hlt',decide_false,Bool.false_beq,Bool.not_true,cond_false,hg]
   rfl
end Go.Ideal.Seat
set_option linter.unusedVariables false
set_option linter.unusedSimpArgs false
namespace Go.Ideal.Seat
open Go.Ideal.Plain
theorem find_eq (l:List Dev) (id:Int) (hl:l.length≤2^36) (hs:rosterOk l=true):F_roster_Find (l,id)=some (match findDev l id with|some d=>(d,true)|none=>((0,0,false,0),false)):=by
 unfold F_roster_Find
 obtain⟨h1,h2,h3⟩:=place_eq l id hl (roster_sorted hs)
 simp only[h1,Option.bind_some]
 cases hf:findDev l id with
 |none=>rfl
 |some d=>
  rw[hf]at h3
  have hg:l[placeOf l id]? = some d:=by
   cases hp:l[placeOf l id]? with
   |none=>rw[hp]at h3;cases h3
   |some e=>
    rw[hp]at h3
    simp only at h3
    split at h3
    ·injection h3 with h3;rw[h3]
    ·cases h3
  simp only[Option.isSome_some,Bool.not_true,cond_false,Int.natCast_nonneg,decide_true,cond_true,Int.toNat_natCast,hg,Option.bind_some]
theorem refThere_eq (l:List Dev) (id:Int) (hl:l.length≤2^36):F_batonref25_There (l,id)=some (match findDev l id with|some d=>if d.2.2.1=true then 15 else 0|none=>11):=by
 have hfind:F_batonref25_Find (l,id)=some (match l.findIdx? (fun d=>d.1==id)with|some i=>(i:Int)|none=>-1):=by
  unfold F_batonref25_Find
  rw[allIdx (l:=l) (fun d=>!(d.1==id)) (z:=((l.length:Int),false)) (fun i e he=>?_) (by simp)]
  ·cases hi:l.findIdx? (fun d=>d.1==id) with
   |none=>
    have:(l.all fun d=>!(d.1==id))=true:=by
     rw[List.findIdx?_eq_none_iff]at hi
     rw[List.all_eq_true]
     intro d hd
     simp[hi d hd]
    rw[if_pos this];rfl
   |some i=>
    have hne:¬(l.all fun d=>!(d.1==id))=true:=by
     rw[List.findIdx?_eq_some_iff_getElem]at hi
     obtain⟨h1,h2,h3⟩:=hi
     intro h
     rw[List.all_eq_true]at h
     have:=h _ (List.getElem_mem h1)
     simp[h2]at this
    rw[if_neg hne]
    have hx:l.findIdx (fun d=>!!(d.1==id))=i:=by
     simp only[Bool.not_not]
     rw[List.findIdx?_eq_some_iff_getElem]at hi
     obtain⟨h1,h2,h3⟩:=hi
     rw[List.findIdx_eq h1]
     exact⟨h2,fun j hj=>by have:=h3 j hj;simpa using this⟩
    simp only[hx]
    rfl
  ·have hi:=getE_bound he
   have hi':(i:Int)<(l.length:Int):=by omega
   simp only[hi',decide_true,cond_true,Int.natCast_nonneg,Int.toNat_natCast,he,Option.bind_some,wsucc (show i<2^62 by omega)]
   cases (e.1==id)<;>rfl
 unfold F_batonref25_There
 rw[hfind]
 simp only[Option.bind_some]
 unfold findDev
 cases hi:l.findIdx? (fun d=>d.1==id) with
 |none=>
  have:l.find? (fun d=>d.1==id)=none:=by
   rw[List.findIdx?_eq_none_iff]at hi
   rw[List.find?_eq_none]
   intro d hd
   simp[hi d hd]
  rw[this]
  rfl
 |some i=>
  rw[List.findIdx?_eq_some_iff_getElem]at hi
  obtain⟨h1,h2,h3⟩:=hi
  have hfd:l.find? (fun d=>d.1==id)=some l[i]:=by
   rw[List.find?_eq_some_iff_getElem]
   exact⟨h2,i,h1,rfl,fun j hj=>by have:=h3 j hj;simpa using this⟩
  have hg:=List.getElem?_eq_getElem h1
  have hn:¬((i:Int)<0):=by omega
  rw[hfd]
  simp only[hn,decide_false,cond_false,Int.natCast_nonneg,decide_true,cond_true,Int.toNat_natCast,hg,Option.bind_some]
  cases l[i].2.2.1<;>rfl
def lastOk (next owner:Int) (l:List Tkt):Bool:=match l.getLast? with
 |some t=>decide (t.1<next)&& !decide (owner = -1)
 |none=>true
def ownerOk (l:List Dev) (owner:Int):Bool:=decide (owner = -1)||(match findDev l owner with|some d=>!d.2.2.1|none=>false)
def stOk (s:Stt):Bool:=decide (0≤s.1∧s.1≤1099511627776∧1≤s.2.2.1∧s.2.2.1≤281474976710656)&&rosterOk s.2.2.2.1&&ticketsOk s.2.2.2.2&&lastOk s.2.2.1 s.2.1 s.2.2.2.2&&ownerOk s.2.2.2.1 s.2.1
def fewS (s:Stt):Prop:=s.2.2.2.1.length≤2^36∧s.2.2.2.2.length≤2^36
theorem claimRight_eq (s:Stt) (hf:fewS s):F_claim_Right s=some (stOk s):=by
 obtain⟨f1,f2⟩:=hf
 unfold F_claim_Right stOk
 simp only[rosterRight_eq _ f1,ticketRight_eq _ f2,Option.bind_some]
 have key:(bif ((decide (s.1<0))==false) then (bif ((decide (s.1>1099511627776))==false) then (bif ((decide (s.2.2.1<1))==false) then (bif ((decide (s.2.2.1>281474976710656))==false) then (bif ((!rosterOk s.2.2.2.1)==false) then some (!ticketsOk s.2.2.2.2) else (some true)) else (some true)) else (some true)) else (some true)) else (some true))=some (!(decide (0≤s.1∧s.1≤1099511627776∧1≤s.2.2.1∧s.2.2.1≤281474976710656)&&rosterOk s.2.2.2.1&&ticketsOk s.2.2.2.2)):=by
  generalize rosterOk s.2.2.2.1=r
  generalize ticketsOk s.2.2.2.2=t
  by_cases a:s.1<0<;>by_cases b:s.1>1099511627776<;>by_cases c:s.2.2.1<1<;>by_cases d:s.2.2.1>281474976710656<;>cases r<;>cases t<;>simp[a,b,c,d]<;>omega
 simp only[key,Option.bind_some]
 cases hr:(decide (0≤s.1∧s.1≤1099511627776∧1≤s.2.2.1∧s.2.2.1≤281474976710656)&&rosterOk s.2.2.2.1&&ticketsOk s.2.2.2.2) with
 |false=>rfl
 |true=>
  simp only[Bool.and_eq_true]at hr
  have hfd:=find_eq s.2.2.2.1 s.2.1 f1 hr.1.2
  have hlast:(bif ((decide ((((s.2.2.2.2.length):Nat):Int)>0))==true) then (bif decide (0≤(IntKind.wrap .i64 ((((s.2.2.2.2.length):Nat):Int)-1))) then ((s.2.2.2.2[((IntKind.wrap .i64 ((((s.2.2.2.2.length):Nat):Int)-1))).toNat]?).bind fun e25=>(bif ((decide (e25.1≥s.2.2.1))==false) then (some (s.2.1==(-1))) else (some true))) else none) else (some false))=some (!lastOk s.2.2.1 s.2.1 s.2.2.2.2):=by
   unfold lastOk
   cases hq:s.2.2.2.2.getLast? with
   |none=>
    have:s.2.2.2.2=[]:=by simpa using hq
    rw[this];rfl
   |some t=>
    have hm:=List.mem_of_getLast? hq
    have hpos:0<s.2.2.2.2.length:=List.length_pos_of_mem hm
    have hpos':((s.2.2.2.2.length:Nat):Int)>0:=by omega
    have hg:s.2.2.2.2[s.2.2.2.2.length-1]? = some t:=by rw[←hq,List.getLast?_eq_getElem?]
    have hi1:IntKind.i64.wrap ((s.2.2.2.2.length:Int)-1)=((s.2.2.2.2.length-1:Nat):Int):=by rw[w64 (by omega) (by omega)];omega
    have e1:decide (t.1≥s.2.2.1) = !decide (t.1<s.2.2.1):=by rw[←decide_not,decide_eq_decide];omega
    have e2:(s.2.1== -1)=decide (s.2.1 = -1):=by rw[Bool.eq_iff_iff];simp
    simp only[hpos',decide_true,beq_self_eq_true,cond_true,hi1,Int.natCast_nonneg,Int.toNat_natCast,hg,Option.bind_some,e1,e2]
    cases decide (t.1<s.2.2.1)<;>cases decide (s.2.1 = -1)<;>rfl
  simp only[Bool.not_true,cond_false,hlast,Option.bind_some,hfd,Bool.true_and]
  cases lastOk s.2.2.1 s.2.1 s.2.2.2.2 with
  |false=>rfl
  |true=>
   have e2:(s.2.1== -1)=decide (s.2.1 = -1):=by rw[Bool.eq_iff_iff];simp
   simp only[Bool.not_true,cond_false,e2,ownerOk,Bool.true_and]
   cases decide (s.2.1 = -1) with
   |true=>rfl
   |false=>
    cases findDev s.2.2.2.1 s.2.1<;>rfl
theorem refClaim_eq (s:Stt) (hf:fewS s):F_batonref27_Right s=some (stOk s):=by
 obtain⟨f1,f2⟩:=hf
 unfold F_batonref27_Right stOk
 simp only[refRoster_eq _ f1,refTickets_eq _ f2,Option.bind_some]
 have key:(bif ((decide (s.1<0))==false) then (bif ((decide (s.1>1099511627776))==false) then (bif ((decide (s.2.2.1<1))==false) then (bif ((decide (s.2.2.1>281474976710656))==false) then (bif ((!rosterOk s.2.2.2.1)==false) then some (!ticketsOk s.2.2.2.2) else (some true)) else (some true)) else (some true)) else (some true)) else (some true))=some (!(decide (0≤s.1∧s.1≤1099511627776∧1≤s.2.2.1∧s.2.2.1≤281474976710656)&&rosterOk s.2.2.2.1&&ticketsOk s.2.2.2.2)):=by
  generalize rosterOk s.2.2.2.1=r
  generalize ticketsOk s.2.2.2.2=t
  by_cases a:s.1<0<;>by_cases b:s.1>1099511627776<;>by_cases c:s.2.2.1<1<;>by_cases d:s.2.2.1>281474976710656<;>cases r<;>cases t<;>simp[a,b,c,d]<;>omega
 simp only[key,Option.bind_some]
 cases hr:(decide (0≤s.1∧s.1≤1099511627776∧1≤s.2.2.1∧s.2.2.1≤281474976710656)&&rosterOk s.2.2.2.1&&ticketsOk s.2.2.2.2) with
 |false=>rfl
 |true=>
  simp only[Bool.and_eq_true]at hr
  have ht:=hr.2
  unfold ticketsOk at ht
  simp only[Bool.and_eq_true]at ht
  have hpw:=(chain_pair (fun a b c h1 h2=>by unfold tktLt at *;simp only[decide_eq_true_eq]at *;omega) ht.1).2
  have hall:(s.2.2.2.2.all fun t=>decide (t.1<s.2.2.1))=(match s.2.2.2.2.getLast? with|some t=>decide (t.1<s.2.2.1)|none=>true):=by
   generalize s.2.2.2.2=l at hpw
   cases hq:l.getLast? with
   |none=>have:l=[]:=by simpa using hq
          subst this;rfl
   |some t=>
    have hsp:=drop_last hq
    rw[←hsp]at hpw
    have h3:=(List.pairwise_append.1 hpw).2.2
    simp only
    conv=>lhs;rw[←hsp]
    rw[List.all_append]
    cases hlt:decide (t.1<s.2.2.1) with
    |false=>simp[hlt]
    |true=>
     simp only[List.all_cons,hlt,List.all_nil,Bool.and_true,List.all_eq_true]
     intro d hd
     have:=h3 d hd t (by simp)
     unfold tktLt at this
     simp only[decide_eq_true_eq]at this hlt ⊢
     omega
  have hth:=refThere_eq s.2.2.2.1 s.2.1 f1
  have e2:(s.2.1== -1)=decide (s.2.1 = -1):=by rw[Bool.eq_iff_iff];simp
  simp only[Bool.not_true,cond_false,Bool.true_and]
  rw[allLoop (l:=s.2.2.2.2) (fun t=>decide (t.1<s.2.2.1)) (z:=((s.2.2.2.2.length:Int),false)) (fun i t he=>?_) (by simp),hall]
  ·simp only[hth,e2,Option.bind_some]
   unfold lastOk ownerOk
   cases hq:s.2.2.2.2.getLast? with
   |none=>
    have:s.2.2.2.2=[]:=by simpa using hq
    rw[this]
    simp only[if_true,Option.bind_some,List.length_nil,Bool.true_and]
    cases decide (s.2.1 = -1) with
    |true=>rfl
    |false=>
     cases findDev s.2.2.2.1 s.2.1 with
     |none=>rfl
     |some d=>obtain⟨_,_,g,_⟩:=d;cases g<;>rfl
   |some t=>
    have hm:=List.mem_of_getLast? hq
    have hpos:0<s.2.2.2.2.length:=List.length_pos_of_mem hm
    have hne:(((s.2.2.2.2.length:Nat):Int)==0)=false:=beq_eq_false_iff_ne.2 (by omega)
    simp only
    by_cases hlt:t.1<s.2.2.1
    ·simp only[hlt,decide_true,if_true,Bool.true_and,hne,Option.bind_some]
     cases decide (s.2.1 = -1) with
     |true=>rfl
     |false=>
      cases findDev s.2.2.2.1 s.2.1 with
      |none=>rfl
      |some d=>obtain⟨_,_,g,_⟩:=d;cases g<;>rfl
    ·simp only[hlt,decide_false,Bool.false_eq_true,if_false,Bool.false_and,Bool.and_false,Option.bind_some]
  ·have hi:=getE_bound he
   have hi':(i:Int)<(s.2.2.2.2.length:Int):=by omega
   have e1:decide (t.1≥s.2.2.1) = !decide (t.1<s.2.2.1):=by rw[←decide_not,decide_eq_decide];omega
   simp only[hi',decide_true,cond_true,Int.natCast_nonneg,Int.toNat_natCast,he,Option.bind_some,e1,wsucc (show i<2^62 by omega)]
   by_cases hlt:t.1<s.2.2.1
   ·simp only[hlt,decide_true];rfl
   ·simp only[hlt,decide_false];rfl
theorem refRoster (l:List Dev) (h:l.length≤2^36):F_batonlaw25_Ref l=some l:=by
 unfold F_batonlaw25_Ref
 rw[foldLoop (l:=l) (fun(s:List Dev) i=>(s,i)) (fun s e=>s++[e]) (fun i s=>s.length≤i) (fin:=fun s=>(s,(l.length:Int),false)) (a:=[]) (by simp) (fun s i e he hi hv=>?_) (fun s hv=>by simp)]
 ·simp only[foldl_snoc,Option.bind_some,List.nil_append]
 ·have hi':(i:Int)<(l.length:Int):=by omega
  have hm:(s.length+1)*(32+1)≤most:=by unfold most;omega
  simp only[hi',decide_true,cond_true,Int.natCast_nonneg,Int.toNat_natCast,he,Option.bind_some,wsucc (show i<2^62 by omega),List.length_cons,List.length_nil,Nat.zero_add,hm]
  exact⟨trivial,by simp;omega⟩
theorem refTickets (l:List Tkt) (h:l.length≤2^36):F_batonlaw26_Ref l=some l:=by
 unfold F_batonlaw26_Ref
 rw[foldLoop (l:=l) (fun(s:List Tkt) i=>(s,i)) (fun s e=>s++[e]) (fun i s=>s.length≤i) (fin:=fun s=>(s,(l.length:Int),false)) (a:=[]) (by simp) (fun s i e he hi hv=>?_) (fun s hv=>by simp)]
 ·simp only[foldl_snoc,Option.bind_some,List.nil_append]
 ·have hi':(i:Int)<(l.length:Int):=by omega
  have hm:(s.length+1)*(24+1)≤most:=by unfold most;omega
  simp only[hi',decide_true,cond_true,Int.natCast_nonneg,Int.toNat_natCast,he,Option.bind_some,wsucc (show i<2^62 by omega),List.length_cons,List.length_nil,Nat.zero_add,hm]
  exact⟨trivial,by simp;omega⟩
theorem refState (s:Stt) (hf:fewS s):F_batonlaw27_Ref s=some s:=by
 unfold F_batonlaw27_Ref
 rw[refRoster _ hf.1,refTickets _ hf.2]
 rfl
end Go.Ideal.Seat
set_option linter.unusedVariables false
set_option linter.unusedSimpArgs false
namespace Go.Ideal.Seat
open Go.Ideal.Plain
def sgN (n:Int):Nat:=(if n<0 then -1-2*n else 2*n).toNat
theorem wNumI' {b:List Int} {n:Int} (h:0≤n) (h2:n≤72057594037927935) (hb:b.length≤2^39):O_codec_Writer_Number ((b,0),n)=some (b++numB n.toNat,0):=by
 have:=wNum_eq b n.toNat (by omega) hb
 rwa [Int.toNat_of_nonneg h]at this
theorem wSigned_eq (b:List Int) (n:Int) (h1:-1000≤n) (h2:n≤1000) (hb:b.length≤2^39):O_codec_Writer_Signed ((b,0),n)=some (b++numB (sgN n),0):=by
 unfold O_codec_Writer_Signed sgN
 have a1:¬n < -36028797018963968:=by omega
 have a2:¬n≥36028797018963968:=by omega
 simp only[a1,a2,decide_false,beq_self_eq_true,cond_true,Option.bind_some,cond_false]
 have w1:IntKind.wrap .i64 (2*n)=2*n:=w64 (by omega) (by omega)
 have w2:IntKind.wrap .i64 (-1-2*n) = -1-2*n:=w64 (by omega) (by omega)
 by_cases h:n<0
 ·simp only[h,decide_true,cond_true,w1,w2,wNumI' (show 0≤-1-2*n by omega) (by omega) hb,Option.bind_some,if_true]
 ·simp only[h,decide_false,cond_false,w1,wNumI' (show 0≤2*n by omega) (by omega) hb,Option.bind_some,if_false]
theorem refSigned_eq (n:Int) (h1:-1000≤n) (h2:n≤1000):F_batonref06_Signed n=some ((sgN n:Nat):Int):=by
 unfold F_batonref06_Signed sgN
 have w0:IntKind.wrap .i64 (0-n)=0-n:=w64 (by omega) (by omega)
 have w1:IntKind.wrap .i64 (2*n)=2*n:=w64 (by omega) (by omega)
 have w2:IntKind.wrap .i64 (2*(0-n))=2*(0-n):=w64 (by omega) (by omega)
 have w3:IntKind.wrap .i64 (2*(0-n)-1)=2*(0-n)-1:=w64 (by omega) (by omega)
 by_cases h:n<0
 ·simp only[h,decide_true,cond_true,w0,w2,w3,if_true,Option.some.injEq];omega
 ·simp only[h,decide_false,cond_false,w1,if_false,Option.some.injEq];omega
theorem rdNum {n:Nat} {r:List Int} (h:n≤72057594037927935) (hb:bytesIn (numB n++r)):O_codec_Reader_Number (numB n++r,0)=some ((r,0),(n:Int)):=runs_num.ok _ hb ((n:Int),r) (rNum_numB h r)
theorem rdSigned {n:Int} {r:List Int} (h1:-1000≤n) (h2:n≤1000) (hb:bytesIn (numB (sgN n)++r)):O_codec_Reader_Signed (numB (sgN n)++r,0)=some ((r,0),n):=by
 unfold O_codec_Reader_Signed
 have hs:sgN n≤72057594037927935:=by unfold sgN;split<;>omega
 rw[rdNum hs hb]
 simp only[Option.bind_some]
 have hd:Int.tdiv ((sgN n:Nat):Int) 2=((sgN n/2:Nat):Int):=by rw[Int.tdiv_eq_ediv_of_nonneg (by omega)];rfl
 have hm:Int.tmod ((sgN n:Nat):Int) 2=((sgN n%2:Nat):Int):=by rw[Int.tmod_eq_emod_of_nonneg (by omega)];rfl
 rw[hd,hm]
 have hw:IntKind.wrap .i64 ((sgN n/2:Nat):Int)=((sgN n/2:Nat):Int):=w64 (by omega) (by omega)
 rw[hw]
 have hsplit:(n<0∧((sgN n:Nat):Int) = -1-2*n)∨(0≤n∧((sgN n:Nat):Int)=2*n):=by unfold sgN;split<;>omega
 generalize sgN n=k at *
 rcases hsplit with ⟨h,e⟩|⟨h,e⟩
 ·have c:(((k%2:Nat):Int)==1)=true:=by simp;omega
  have w0:IntKind.wrap .i64 (0-((k/2:Nat):Int))=0-((k/2:Nat):Int):=w64 (by omega) (by omega)
  have w1:IntKind.wrap .i64 (0-((k/2:Nat):Int)-1)=n:=by rw[w64 (by omega) (by omega)];omega
  simp only[c,cond_true,w0,w1]
 ·have c:(((k%2:Nat):Int)==1)=false:=beq_eq_false_iff_ne.2 (by omega)
  have:((k/2:Nat):Int)=n:=by omega
  simp only[c,cond_false,this]
theorem rdBool {h:Bool} {r:List Int} (hb:bytesIn ((if h=true then 1 else 0)::r)):O_codec_Reader_Bool ((if h=true then 1 else 0)::r,0)=some ((r,0),h):=runs_bool.ok _ hb (h,r) (by
 unfold rBool
 cases h<;>simp)
theorem rdFew {n most':Nat} {r:List Int} (h:n≤most') (hm:most'≤1000) (hb:bytesIn (numB n++r)):O_opcode_few ((numB n++r,0),(most':Int))=some ((r,0),(n:Int)):=by
 unfold O_opcode_few O_codec_Reader_Err
 have hn:¬(n:Int)>(most':Int):=by omega
 simp only[rdNum (by omega) hb,Option.bind_some,beq_self_eq_true,cond_true,hn,decide_false,cond_false]
def encDev (d:Dev):List Int:=numB d.1.toNat++(numB d.2.1.toNat++((if d.2.2.1=true then 1 else 0)::numB d.2.2.2.toNat))
def encTkt (t:Tkt):List Int:=numB t.1.toNat++(numB (sgN t.2.1)++numB t.2.2.toNat)
def encSt (s:Stt):List Int:=numB s.1.toNat++(numB (sgN s.2.1)++(numB s.2.2.1.toNat++(numB s.2.2.2.1.length++(s.2.2.2.1.flatMap encDev++(numB s.2.2.2.2.length++s.2.2.2.2.flatMap encTkt)))))
theorem numB_le (k n:Nat) (h:n<128^(k+1)):(numB n).length≤k+1:=by
 have:=numPre_len k n h
 unfold numB
 simp;omega
theorem encDev_len {d:Dev} (h:devOk d=true):(encDev d).length≤11:=by
 unfold devOk at h
 rw[decide_eq_true_eq]at h
 have a1:=numB_le 0 d.1.toNat (by omega)
 have a2:=numB_le 1 d.2.1.toNat (by omega)
 have a3:=numB_le 6 d.2.2.2.toNat (by omega)
 unfold encDev
 simp only[List.length_append,List.length_cons]
 omega
theorem encTkt_len {t:Tkt} (h:tktOk t=true):(encTkt t).length≤15:=by
 unfold tktOk at h
 rw[decide_eq_true_eq]at h
 have a1:=numB_le 6 t.1.toNat (by omega)
 have a2:=numB_le 0 (sgN t.2.1) (by unfold sgN;split<;>omega)
 have a3:=numB_le 6 t.2.2.toNat (by omega)
 unfold encTkt
 simp only[List.length_append]
 omega
theorem flat_len {E:Type} {g:E→List Int} {k:Nat}:∀{l:List E},(∀e∈l,(g e).length≤k)→(l.flatMap g).length≤k*l.length
 |[],_=>by simp
 |e::l,h=>by
  have h1:=h e (by simp)
  have h2:=flat_len (l:=l) fun x hx=>h x (by simp[hx])
  simp only[List.flatMap_cons,List.length_append,List.length_cons,Nat.mul_add,Nat.mul_one]
  omega
theorem sorted_len {E:Type} {key:E→Int} {n:Nat}:∀{l:List E} (lo:Int),(l.Pairwise fun d e=>key d<key e)→(∀e∈l,lo≤key e∧key e<lo+n)→l.length≤n
 |[],lo,_,_=>by simp
 |e::l,lo,h,hb=>by
  rw[List.pairwise_cons]at h
  have he:=hb e (by simp)
  cases n with
  |zero=>omega
  |succ n=>
   have:=sorted_len (n:=n) (l:=l) (key e+1) h.2 (fun x hx=>by have h1:=h.1 x hx;have h2:=hb x (by simp[hx]);omega) |> fun hh=>hh
   simp only[List.length_cons]
   omega
theorem st_fine {s:Stt} (h:stOk s=true):(0≤s.1∧s.1≤1099511627776∧1≤s.2.2.1∧s.2.2.1≤281474976710656)∧(-1≤s.2.1∧s.2.1<16)∧(∀d∈s.2.2.2.1,devOk d=true)∧(∀t∈s.2.2.2.2,tktOk t=true)∧s.2.2.2.1.length≤16∧s.2.2.2.2.length≤24:=by
 unfold stOk at h
 simp only[Bool.and_eq_true,decide_eq_true_eq]at h
 obtain⟨⟨⟨⟨h1,h2⟩,h3⟩,h4⟩,h5⟩:=h
 have hd:∀d∈s.2.2.2.1,devOk d=true:=chain_mem h2
 have hpw:=(chain_pair (fun a b c h1 h2=>by unfold devLt at *;simp only[decide_eq_true_eq]at *;omega) h2).2
 unfold ticketsOk at h3
 simp only[Bool.and_eq_true,decide_eq_true_eq]at h3
 refine⟨h1,?_,hd,chain_mem h3.1,?_,h3.2⟩
 ·unfold ownerOk at h5
  simp only[Bool.or_eq_true,decide_eq_true_eq]at h5
  rcases h5 with h|h
  ·omega
  ·cases hf:findDev s.2.2.2.1 s.2.1 with
   |none=>rw[hf]at h;cases h
   |some d=>
    unfold findDev at hf
    have hm:=List.mem_of_find?_eq_some hf
    have hk:=List.find?_some hf
    have:=hd d hm
    unfold devOk at this
    simp at this hk
    omega
 ·refine sorted_len (key:=fun d:Dev=>d.1) (n:=16) 0 (hpw.imp fun {a b} h=>by unfold devLt at h;simpa using h) fun d hm=>?_
  have:=hd d hm
  unfold devOk at this
  simp at this
  omega
theorem encSt_len {s:Stt} (h:stOk s=true):(encSt s).length≤768:=by
 obtain⟨h1,h2,h3,h4,h5,h6⟩:=st_fine h
 have a1:=numB_le 5 s.1.toNat (by omega)
 have a2:=numB_le 0 (sgN s.2.1) (by unfold sgN;split<;>omega)
 have a3:=numB_le 6 s.2.2.1.toNat (by omega)
 have a4:=numB_le 0 s.2.2.2.1.length (by omega)
 have a5:=numB_le 0 s.2.2.2.2.length (by omega)
 have a6:=flat_len (g:=encDev) (k:=11) fun d hd=>encDev_len (h3 d hd)
 have a7:=flat_len (g:=encTkt) (k:=15) fun t ht=>encTkt_len (h4 t ht)
 unfold encSt
 simp only[List.length_append]
 omega
theorem encSt_in {s:Stt} (h:stOk s=true):bytesIn (encSt s):=by
 refine⟨?_,by have:=encSt_len h;omega⟩
 have hf:∀{E:Type} (l:List E) (g:E→List Int),(∀e∈l,∀x∈g e,0≤x∧x<256)→∀x∈l.flatMap g,0≤x∧x<256:=fun l g hg x hx=>by
  obtain⟨e,he,hx⟩:=List.mem_flatMap.1 hx
  exact hg e he x hx
 intro x hx
 unfold encSt at hx
 simp only[List.mem_append]at hx
 rcases hx with h|h|h|h|h|h|h
 ·exact numB_bytes _ x h
 ·exact numB_bytes _ x h
 ·exact numB_bytes _ x h
 ·exact numB_bytes _ x h
 ·refine hf _ _ (fun d _ y hy=>?_) x h
  unfold encDev at hy
  simp only[List.mem_append,List.mem_cons]at hy
  rcases hy with h|h|h|h
  ·exact numB_bytes _ y h
  ·exact numB_bytes _ y h
  ·rw[h];split<;>decide
  ·exact numB_bytes _ y h
 ·exact numB_bytes _ x h
 ·refine hf _ _ (fun d _ y hy=>?_) x h
  unfold encTkt at hy
  simp only[List.mem_append]at hy
  rcases hy with h|h|h
  ·exact numB_bytes _ y h
  ·exact numB_bytes _ y h
  ·exact numB_bytes _ y h
theorem opState_eq (s:Stt) (hf:fewS s):F_opcode_State s=some (if stOk s=true then (encSt s,0) else ([],1)):=by
 unfold F_opcode_State
 rw[claimRight_eq s hf]
 simp only[Option.bind_some]
 cases hs:stOk s with
 |false=>rfl
 |true=>
  obtain⟨h1,h2,h3,h4,h5,h6⟩:=st_fine hs
  have a1:=numB_le 5 s.1.toNat (by omega)
  have a2:=numB_le 0 (sgN s.2.1) (by unfold sgN;split<;>omega)
  have a3:=numB_le 6 s.2.2.1.toNat (by omega)
  have a4:=numB_le 0 s.2.2.2.1.length (by omega)
  have a5:=numB_le 0 s.2.2.2.2.length (by omega)
  have a6:=flat_len (g:=encDev) (k:=11) fun d hd=>encDev_len (h3 d hd)
  have a7:=flat_len (g:=encTkt) (k:=15) fun t ht=>encTkt_len (h4 t ht)
  simp only[Bool.not_true,cond_false,O_codec_NewWriter,Option.bind_some]
  rw[wNumI' h1.1 (by omega) (by simp)]
  simp only[Option.bind_some,List.nil_append]
  rw[wSigned_eq _ _ (by omega) (by omega) (by omega)]
  simp only[Option.bind_some]
  rw[wNumI' (by omega) (by omega) (by rw[List.length_append];omega)]
  simp only[Option.bind_some]
  rw[wNum_eq _ s.2.2.2.1.length (by omega) (by simp only[List.length_append];omega)]
  simp only[Option.bind_some]
  rw[foldLoop (l:=s.2.2.2.1) (fun(o:List Int) i=>(o,(0:Int),i)) (fun o d=>o++encDev d) (fun i o=>o.length≤100+11*i) (fin:=fun o=>(o,0,(s.2.2.2.1.length:Int),false)) (by simp only[List.length_append];omega) (fun o i d he hi hv=>?_) (fun o hv=>by simp)]
  ·simp only[Option.bind_some,foldl_app]
   rw[wNum_eq _ s.2.2.2.2.length (by omega) (by simp only[List.length_append];omega)]
   simp only[Option.bind_some]
   rw[foldLoop (l:=s.2.2.2.2) (fun(o:List Int) i=>(o,(0:Int),i)) (fun o d=>o++encTkt d) (fun i o=>o.length≤1000+15*i) (fin:=fun o=>(o,0,(s.2.2.2.2.length:Int),false)) (by simp only[List.length_append];omega) (fun o i t he hi hv=>?_) (fun o hv=>by simp)]
   ·simp only[Option.bind_some,foldl_app]
    rw[wBytes_eq _ (by simp only[List.length_append];omega)]
    simp only[Option.bind_some,if_true,encSt,List.append_assoc]
   ·have ht:=h4 t (List.mem_of_getElem? he)
    have hlen:=encTkt_len ht
    unfold tktOk at ht
    rw[decide_eq_true_eq]at ht
    have b1:=numB_le 6 t.1.toNat (by omega)
    have b2:=numB_le 0 (sgN t.2.1) (by unfold sgN;split<;>omega)
    have hi':(i:Int)<(s.2.2.2.2.length:Int):=by omega
    refine⟨?_,by rw[List.length_append];omega⟩
    simp only[hi',decide_true,cond_true,Int.natCast_nonneg,Int.toNat_natCast,he,Option.bind_some,wsucc (show i<2^62 by omega)]
    rw[wNumI' (by omega) (by omega) (by omega)]
    simp only[Option.bind_some]
    rw[wSigned_eq _ _ (by omega) (by omega) (by rw[List.length_append];omega)]
    simp only[Option.bind_some]
    rw[wNumI' (by omega) (by omega) (by simp only[List.length_append];omega)]
    simp only[Option.bind_some,encTkt,List.append_assoc]
  ·have hd:=h3 d (List.mem_of_getElem? he)
   have hlen:=encDev_len hd
   unfold devOk at hd
   rw[decide_eq_true_eq]at hd
   have b1:=numB_le 0 d.1.toNat (by omega)
   have b2:=numB_le 1 d.2.1.toNat (by omega)
   have hi':(i:Int)<(s.2.2.2.1.length:Int):=by omega
   refine⟨?_,by rw[List.length_append];omega⟩
   simp only[hi',decide_true,cond_true,Int.natCast_nonneg,Int.toNat_natCast,he,Option.bind_some,wsucc (show i<2^62 by omega)]
   rw[wNumI' (by omega) (by omega) (by omega)]
   simp only[Option.bind_some]
   rw[wNumI' (by omega) (by omega) (by rw[List.length_append];omega)]
   simp only[Option.bind_some]
   rw[wBool_eq _ _ (by simp only[List.length_append];omega)]
   simp only[Option.bind_some]
   rw[wNumI' (by omega) (by omega) (by simp only[List.length_append,List.length_cons,List.length_nil];omega)]
   simp only[Option.bind_some,encDev,List.append_assoc,List.cons_append,List.nil_append]
theorem upTo_at {A:Type} (h:Nat→A) {a:A} (ha:a=h 0):∀n,upTo (fun i _=>h (i+1)) n a=h n
 |0=>ha
 |n+1=>rfl
theorem opRead_eq (s:Stt) (hf:fewS s) (hs:stOk s=true):F_opcode_ReadState (encSt s)=some (s,0):=by
 unfold F_opcode_ReadState
 obtain⟨h1,h2,h3,h4,h5,h6⟩:=st_fine hs
 have hb:=encSt_in hs
 rw[newReader_eq _ hb.2]
 simp only[Option.bind_some]
 unfold encSt at hb ⊢
 rw[rdNum (by omega) hb]
 have hb1:=bytesIn_right hb
 simp only[Option.bind_some]
 rw[rdSigned (by omega) (by omega) hb1]
 have hb2:=bytesIn_right hb1
 simp only[Option.bind_some]
 rw[rdNum (by omega) hb2]
 have hb3:=bytesIn_right hb2
 simp only[Option.bind_some]
 have hfew:=rdFew (most':=16) h5 (by omega) hb3
 simp only[Int.cast_ofNat_Int]at hfew
 rw[hfew]
 have hb4:=bytesIn_right hb3
 simp only[Option.bind_some,Int.toNat_of_nonneg h1.1,Int.toNat_of_nonneg (show 0≤s.2.2.1 by omega)]
 generalize hrest:numB s.2.2.2.2.length++s.2.2.2.2.flatMap encTkt=rest at hb4
 rw[countLoop s.2.2.2.1.length (fun(a:List Int×List Dev) i=>(a.1,(0:Int),s.1,s.2.1,s.2.2.1,a.2,([]:List Tkt),i)) (fun i _=>(fun i=>((s.2.2.2.1.drop i).flatMap encDev++rest,s.2.2.2.1.take i)) (i+1)) (fun i a=>a=((s.2.2.2.1.drop i).flatMap encDev++rest,s.2.2.2.1.take i)) (fin:=fun a=>(a.1,0,s.1,s.2.1,s.2.2.1,a.2,[],(s.2.2.2.1.length:Int),false)) (a:=(s.2.2.2.1.flatMap encDev++rest,[])) (by simp) (fun a i hi hv=>?_) (fun a hv=>by simp)]
 ·rw[upTo_at (fun i=>((s.2.2.2.1.drop i).flatMap encDev++rest,s.2.2.2.1.take i)) (by simp)]
  simp only[Option.bind_some,List.drop_length,List.flatMap_nil,List.nil_append,List.take_length]
  rw[←hrest]at hb4 ⊢
  have hb5:=bytesIn_right hb4
  have hfew2:=rdFew (most':=24) h6 (by omega) hb5
  simp only[Int.cast_ofNat_Int]at hfew2
  rw[hfew2]
  have hb6:=bytesIn_right hb5
  simp only[Option.bind_some]
  rw[countLoop s.2.2.2.2.length (fun(a:List Int×List Tkt) i=>(a.1,(0:Int),s.1,s.2.1,s.2.2.1,s.2.2.2.1,a.2,i)) (fun i _=>(fun i=>((s.2.2.2.2.drop i).flatMap encTkt,s.2.2.2.2.take i)) (i+1)) (fun i a=>a=((s.2.2.2.2.drop i).flatMap encTkt,s.2.2.2.2.take i)) (fin:=fun a=>(a.1,0,s.1,s.2.1,s.2.2.1,s.2.2.2.1,a.2,(s.2.2.2.2.length:Int),false)) (a:=(s.2.2.2.2.flatMap encTkt,[])) (by simp) (fun a i hi hv=>?_) (fun a hv=>by simp)]
  ·rw[upTo_at (fun i=>((s.2.2.2.2.drop i).flatMap encTkt,s.2.2.2.2.take i)) (by simp)]
   simp only[Option.bind_some,List.drop_length,List.flatMap_nil,List.take_length,done_eq,if_true,bne_self_eq_false,cond_false]
   have hr:F_claim_Right (s.1,s.2.1,s.2.2.1,s.2.2.2.1,s.2.2.2.2)=some (stOk s):=claimRight_eq s hf
   rw[hr,hs]
   rfl
  ·refine⟨?_,rfl⟩
   subst hv
   have hg:=List.getElem?_eq_getElem hi
   have ht:=h4 _ (List.getElem_mem hi)
   unfold tktOk at ht
   rw[decide_eq_true_eq]at ht
   have hd:s.2.2.2.2.drop i=s.2.2.2.2[i]::s.2.2.2.2.drop (i+1):=List.drop_eq_getElem_cons hi
   have htk:s.2.2.2.2.take (i+1)=s.2.2.2.2.take i++[s.2.2.2.2[i]]:=by rw[List.take_add_one,hg];rfl
   have hbi:bytesIn ((s.2.2.2.2.drop i).flatMap encTkt):=by
    have:s.2.2.2.2.flatMap encTkt=(s.2.2.2.2.take i).flatMap encTkt++(s.2.2.2.2.drop i).flatMap encTkt:=by rw[←List.flatMap_append,List.take_append_drop]
    rw[this]at hb6
    exact bytesIn_right hb6
   simp only[htk]
   generalize s.2.2.2.2[i]=t at *
   rw[hd,List.flatMap_cons]at hbi
   simp only[hd,List.flatMap_cons]
   unfold encTkt at hbi ⊢
   simp only[List.append_assoc]at hbi ⊢
   have c1:=bytesIn_right hbi
   have c2:=bytesIn_right c1
   have hi':(i:Int)<(s.2.2.2.2.length:Int):=by omega
   have hm:((s.2.2.2.2.take i).length+1)*(24+1)≤most:=by rw[List.length_take];unfold most;omega
   simp only[hi',decide_true,cond_true]
   rw[rdNum (by omega) hbi]
   simp only[Option.bind_some]
   rw[rdSigned (by omega) (by omega) c1]
   simp only[Option.bind_some]
   rw[rdNum (by omega) c2]
   simp only[Option.bind_some,List.length_cons,List.length_nil,Nat.zero_add,hm,decide_true,cond_true,wsucc (show i<2^62 by omega),Int.toNat_of_nonneg (show 0≤t.1 by omega),Int.toNat_of_nonneg (show 0≤t.2.2 by omega)]
 ·refine⟨?_,rfl⟩
  subst hv
  have hg:=List.getElem?_eq_getElem hi
  have ht:=h3 _ (List.getElem_mem hi)
  unfold devOk at ht
  rw[decide_eq_true_eq]at ht
  have hd:s.2.2.2.1.drop i=s.2.2.2.1[i]::s.2.2.2.1.drop (i+1):=List.drop_eq_getElem_cons hi
  have htk:s.2.2.2.1.take (i+1)=s.2.2.2.1.take i++[s.2.2.2.1[i]]:=by rw[List.take_add_one,hg];rfl
  have hbi:bytesIn ((s.2.2.2.1.drop i).flatMap encDev++rest):=by
   have:s.2.2.2.1.flatMap encDev++rest=(s.2.2.2.1.take i).flatMap encDev++((s.2.2.2.1.drop i).flatMap encDev++rest):=by rw[←List.append_assoc,←List.flatMap_append,List.take_append_drop]
   rw[this]at hb4
   exact bytesIn_right hb4
  simp only[htk]
  generalize s.2.2.2.1[i]=t at *
  rw[hd,List.flatMap_cons]at hbi
  simp only[hd,List.flatMap_cons]
  unfold encDev at hbi ⊢
  simp only[List.append_assoc,List.cons_append]at hbi ⊢
  have c1:=bytesIn_right hbi
  have c2:=bytesIn_right c1
  have c3:=(bytesIn_cons c2).1
  have hi':(i:Int)<(s.2.2.2.1.length:Int):=by omega
  have hm:((s.2.2.2.1.take i).length+1)*(32+1)≤most:=by rw[List.length_take];unfold most;omega
  simp only[hi',decide_true,cond_true]
  rw[rdNum (by omega) hbi]
  simp only[Option.bind_some]
  rw[rdNum (by omega) c1]
  simp only[Option.bind_some]
  rw[rdBool c2]
  simp only[Option.bind_some]
  rw[rdNum (by omega) c3]
  simp only[Option.bind_some,List.length_cons,List.length_nil,Nat.zero_add,hm,decide_true,cond_true,wsucc (show i<2^62 by omega),Int.toNat_of_nonneg (show 0≤t.1 by omega),Int.toNat_of_nonneg (show 0≤t.2.1 by omega),Int.toNat_of_nonneg (show 0≤t.2.2.2 by omega)]
end Go.Ideal.Seat
set_option linter.unusedVariables false
set_option linter.unusedSimpArgs false
namespace Go.Ideal.Seat
open Go.Ideal.Plain
def devRow (d:Dev):List Int:=[d.1,d.2.1,if d.2.2.1=true then 1 else 0,d.2.2.2]
def tktRow (t:Tkt):List Int:=[t.1,((sgN t.2.1:Nat):Int),t.2.2]
theorem rowOut (l:List Int) (hl:∀e∈l,0≤e∧e<2^62) (hn:l.length≤2^30):
 iterL (S:=(List (Int))×Int) (X:=(List (Int))×(Int)×Bool) (fun s98=>(bif (decide (s98.2<(((l.length):Nat):Int))) then (bif decide (0≤s98.2) then (bif decide ((s98.2).toNat<l.length) then ((l[(s98.2).toNat]?).bind fun e99=>((F_batonref06_Number e99).bind fun r100=>(bif decide ((s98.1.length+r100.length)*(1+1)≤most) then (some (Sum.inl ((s98.1++r100),(IntKind.wrap .i64 (s98.2+1))))) else none))) else none) else none) else (some (Sum.inr (s98.1,(s98.2,(decide (s98.2<(((l.length):Nat):Int))))))))) (([]:List (Int)),0)=some (l.flatMap (fun e=>numB e.toNat),(l.length:Int),false):=by
 rw[foldLoop (l:=l) (fun(o:List Int) i=>(o,i)) (fun o e=>o++numB e.toNat) (fun i o=>o.length≤9*i) (fin:=fun o=>(o,(l.length:Int),false)) (by simp) (fun o i e he hi hv=>?_) (fun o hv=>by simp)]
 ·rw[foldl_app];rfl
 ·have hi':(i:Int)<(l.length:Int):=by omega
  obtain⟨h1,h2⟩:=hl e (List.mem_of_getElem? he)
  have hn':=refNum_eq e.toNat (by omega)
  rw[Int.toNat_of_nonneg h1]at hn'
  have hlen:=numB_len (n:=e.toNat) (by omega)
  have hm:(o.length+(numB e.toNat).length)*(1+1)≤most:=by unfold most;omega
  simp only[hi',decide_true,cond_true,Int.natCast_nonneg,Int.toNat_natCast,hi,he,Option.bind_some,hn',hm,wsucc (show i<2^62 by omega)]
  exact⟨trivial,by rw[List.length_append];omega⟩
theorem devRow_enc {d:Dev}:(devRow d).flatMap (fun e=>numB e.toNat)=encDev d:=by
 unfold devRow encDev
 simp only[List.flatMap_cons,List.flatMap_nil,List.append_nil]
 cases d.2.2.1
 ·simp[numB_small (show 0<128 by omega)]
 ·simp[numB_small (show 1<128 by omega)]
theorem tktRow_enc {t:Tkt}:(tktRow t).flatMap (fun e=>numB e.toNat)=encTkt t:=by
 unfold tktRow encTkt
 simp only[List.flatMap_cons,List.flatMap_nil,List.append_nil,Int.toNat_natCast]
theorem flat_flat {E:Type} {g:E→List Int} {h:E→List Int} (e:∀x,(g x).flatMap (fun e=>numB e.toNat)=h x):∀l:List E,(l.flatMap g).flatMap (fun e=>numB e.toNat)=l.flatMap h
 |[]=>rfl
 |x::l=>by simp only[List.flatMap_cons,List.flatMap_append,e,flat_flat e l]
theorem refStateB_eq (s:Stt) (hs:stOk s=true):F_batonref28_State s=some (encSt s):=by
 unfold F_batonref28_State
 obtain⟨h1,h2,h3,h4,h5,h6⟩:=st_fine hs
 rw[refSigned_eq s.2.1 (by omega) (by omega)]
 simp only[Option.bind_some]
 rw[foldLoop (l:=s.2.2.2.1) (fun(o:List Int) i=>(o,i)) (fun o d=>o++devRow d) (fun i o=>o.length≤4+4*i) (fin:=fun o=>(o,(s.2.2.2.1.length:Int),false)) (by simp) (fun o i d he hi hv=>?_) (fun o hv=>by simp)]
 ·have hdl:=flat_len (g:=devRow) (k:=4) (l:=s.2.2.2.1) (fun d _=>by simp[devRow])
  simp only[Option.bind_some,foldl_app]
  have hm:(([s.1,((sgN s.2.1:Nat):Int),s.2.2.1,(s.2.2.2.1.length:Int)]++s.2.2.2.1.flatMap devRow).length+1)*(8+1)≤most:=by
   unfold most;simp only[List.length_append,List.length_cons,List.length_nil];omega
  simp only[List.length_cons,List.length_nil,Nat.zero_add]at hm ⊢
  rw[@decide_eq_true _ _ hm]
  simp only[cond_true]
  rw[foldLoop (l:=s.2.2.2.2) (fun(o:List Int) i=>(o,i)) (fun o t=>o++tktRow t) (fun i o=>o.length≤1000+3*i) (fin:=fun o=>(o,(s.2.2.2.2.length:Int),false)) (by simp only[List.length_append,List.length_cons,List.length_nil];omega) (fun o i t he hi hv=>?_) (fun o hv=>by simp)]
  ·have htl:=flat_len (g:=tktRow) (k:=3) (l:=s.2.2.2.2) (fun d _=>by simp[tktRow])
   simp only[Option.bind_some,foldl_app]
   rw[rowOut _ (fun e he=>?_) (by simp only[List.length_append,List.length_cons,List.length_nil];omega)]
   ·simp only[Option.bind_some,List.flatMap_append,flat_flat (fun x=>devRow_enc),flat_flat (fun x=>tktRow_enc),List.flatMap_cons,List.flatMap_nil,Int.toNat_natCast,List.append_nil,encSt,List.append_assoc]
   ·simp only[List.mem_append,List.mem_cons,List.not_mem_nil,or_false,List.mem_flatMap]at he
    have hsg:sgN s.2.1<128:=by unfold sgN;split<;>omega
    rcases he with (((he|he|he|he)|⟨d,hd,he⟩)|he)|⟨t,ht,he⟩
    ·omega
    ·omega
    ·omega
    ·omega
    ·have:=h3 d hd
     unfold devOk at this
     unfold devRow at he
     simp only[List.mem_cons,List.not_mem_nil,or_false]at he
     rw[decide_eq_true_eq]at this
     rcases he with he|he|he|he
     ·omega
     ·omega
     ·rw[he];split<;>decide
     ·omega
    ·omega
    ·have:=h4 t ht
     unfold tktOk at this
     unfold tktRow at he
     simp only[List.mem_cons,List.not_mem_nil,or_false]at he
     rw[decide_eq_true_eq]at this
     have hsg2:sgN t.2.1<128:=by unfold sgN;split<;>omega
     omega
  ·have ht:=h4 t (List.mem_of_getElem? he)
   unfold tktOk at ht
   rw[decide_eq_true_eq]at ht
   have hi':(i:Int)<(s.2.2.2.2.length:Int):=by omega
   have hm:(o.length+3)*(8+1)≤most:=by unfold most;omega
   have hm':(o.length+(1+1+1))*(8+1)≤most:=hm
   simp only[hi',decide_true,cond_true,Int.natCast_nonneg,Int.toNat_natCast,he,Option.bind_some,refSigned_eq t.2.1 (by omega) (by omega),List.length_cons,List.length_nil,Nat.zero_add,hm',wsucc (show i<2^62 by omega)]
   exact⟨rfl,by simp[tktRow];omega⟩
 ·have hi':(i:Int)<(s.2.2.2.1.length:Int):=by omega
  have hm':(o.length+(1+1+1+1))*(8+1)≤most:=by unfold most;omega
  have hb:(bif d.2.2.1 then some (1:Int) else some 0)=some (if d.2.2.1=true then 1 else 0):=by cases d.2.2.1<;>rfl
  simp only[hi',decide_true,cond_true,Int.natCast_nonneg,Int.toNat_natCast,he,Option.bind_some,hb,List.length_cons,List.length_nil,Nat.zero_add,hm',wsucc (show i<2^62 by omega)]
  exact⟨rfl,by simp[devRow];omega⟩
theorem devs_same (l:List Dev) (h:l.length≤2^36):F_slices_Equal_roster_Device_roster_Device (l,l)=some true:=by
 unfold F_slices_Equal_roster_Device_roster_Device
 simp only[bne_self_eq_false,cond_false]
 rw[allLoop (l:=l) (fun _=>true) (z:=((l.length:Int),false)) (fun i e he=>?_) (by simp)]
 ·simp
 ·have hi:=getE_bound he
  have hi':(i:Int)<(l.length:Int):=by omega
  simp only[hi',decide_true,cond_true,Int.natCast_nonneg,Int.toNat_natCast,he,Option.bind_some,beq_self_eq_true,Bool.and_self,Bool.not_true,cond_false,if_true,wsucc (show i<2^62 by omega)]
theorem tkts_same (l:List Tkt) (h:l.length≤2^36):F_slices_Equal_ticket_Ticket_ticket_Ticket (l,l)=some true:=by
 unfold F_slices_Equal_ticket_Ticket_ticket_Ticket
 simp only[bne_self_eq_false,cond_false]
 rw[allLoop (l:=l) (fun _=>true) (z:=((l.length:Int),false)) (fun i e he=>?_) (by simp)]
 ·simp
 ·have hi:=getE_bound he
  have hi':(i:Int)<(l.length:Int):=by omega
  simp only[hi',decide_true,cond_true,Int.natCast_nonneg,Int.toNat_natCast,he,Option.bind_some,beq_self_eq_true,Bool.and_self,Bool.not_true,cond_false,if_true,wsucc (show i<2^62 by omega)]
theorem claimSame_refl (s:Stt) (hf:fewS s):F_claim_Same (s,s)=some true:=by
 unfold F_claim_Same
 simp only[beq_self_eq_true,cond_true,devs_same _ hf.1,tkts_same _ hf.2,Option.bind_some]
theorem few27_eq (s:Stt):F_batonlaw27_Few s=some (decide (s.2.2.2.1.length≤30)&&decide (s.2.2.2.2.length≤40)):=by
 unfold F_batonlaw27_Few
 have e:∀n:Nat,decide ((n:Int)≤30)=decide (n≤30):=fun n=>by rw[decide_eq_decide];omega
 have e':∀n:Nat,decide ((n:Int)≤40)=decide (n≤40):=fun n=>by rw[decide_eq_decide];omega
 simp only[e,e']
 cases decide (s.2.2.2.1.length≤30)<;>rfl
theorem opcode_states_law (s:Stt):F_batonlaw28_OpcodeStates s=some true:=by
 unfold F_batonlaw28_OpcodeStates F_batonlaw28_awake
 simp only[few27_eq,Option.bind_some,Bool.not_true,cond_false]
 cases hfa:(decide (s.2.2.2.1.length≤30)&&decide (s.2.2.2.2.length≤40)) with
 |false=>rfl
 |true=>
  simp only[Bool.and_eq_true,decide_eq_true_eq]at hfa
  have hf:fewS s:=⟨by omega,by omega⟩
  simp only[Bool.not_true,cond_false,refState s hf,opState_eq s hf,refClaim_eq s hf,Option.bind_some]
  cases hs:stOk s with
  |false=>rfl
  |true=>
   have hlen:=encSt_len hs
   have hl:((encSt s).length:Int)≤768:=by omega
   simp only[if_true,Bool.not_true,cond_false,opRead_eq s hf hs,Option.bind_some,beq_self_eq_true,cond_true,refStateB_eq s hs,bytes_same _ _ (show (encSt s).length<2^60 by omega),decide_true,hl,claimSame_refl s hf]
end Go.Ideal.Seat
