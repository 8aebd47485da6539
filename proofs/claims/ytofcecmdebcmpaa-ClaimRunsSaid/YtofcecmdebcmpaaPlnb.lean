/- Cells are read by both sides. -/
import Derived.Test.YtofcecmdebcmpaaPlna
set_option linter.unusedVariables false
set_option linter.unusedSimpArgs false
namespace Go.Ideal.Seat
open Go.Ideal.Plain
end Go.Ideal.Seat
set_option linter.unusedVariables false
set_option linter.unusedSimpArgs false
namespace Go.Ideal.Seat
open Go.Ideal.Plain
end Go.Ideal.Seat
set_option linter.unusedVariables false
set_option linter.unusedSimpArgs false
namespace Go.Ideal.Seat
open Go.Ideal.Plain
end Go.Ideal.Seat
set_option linter.unusedVariables false
set_option linter.unusedSimpArgs false
namespace Go.Ideal.Seat
open Go.Ideal.Plain
end Go.Ideal.Seat
set_option linter.unusedVariables false
set_option linter.unusedSimpArgs false
namespace Go.Ideal.Seat
open Go.Ideal.Plain
end Go.Ideal.Seat
set_option linter.unusedVariables false
set_option linter.unusedSimpArgs false
namespace Go.Ideal.Plain
section
variable {E X S:Type}
def okAt (p:E→Bool) (f:E→E→Bool) (a:Option E) (e:E):Bool:=p e&&(match a with|none=>true|some d=>f d e)
def chainOk (p:E→Bool) (f:E→E→Bool):Option E→List E→Bool
 |_,[]=>true
 |a,e::r=>okAt p f a e&&chainOk p f (some e) r
theorem chain_cons {p:E→Bool} {f:E→E→Bool} {a:Option E} {e:E} {r:List E}:chainOk p f a (e::r)=(okAt p f a e&&chainOk p f (some e) r):=by cases a<;>rfl
theorem chain_mem {p:E→Bool} {f:E→E→Bool}:∀{l:List E} {a:Option E},chainOk p f a l=true→∀e∈l,p e=true
 |[],_,_,e,he=>by simp at he
 |d::r,a,h,e,he=>by
  simp only[chainOk,okAt,Bool.and_eq_true]at h
  rcases List.mem_cons.1 he with rfl|he
  ·exact h.1.1
  ·exact chain_mem h.2 e he
theorem chain_pair {p:E→Bool} {f:E→E→Bool} (ht:∀a b c,f a b=true→f b c=true→f a c=true):∀{l:List E} {a:Option E},chainOk p f a l=true→(∀d,a=some d→∀e∈l,f d e=true)∧l.Pairwise fun d e=>f d e=true
 |[],_,_=>⟨by simp,.nil⟩
 |d::r,a,h=>by
  simp only[chainOk,okAt,Bool.and_eq_true]at h
  obtain⟨i1,i2⟩:=chain_pair ht h.2
  refine⟨fun x hx e he=>?_,List.pairwise_cons.2 ⟨i1 d rfl,i2⟩⟩
  subst hx
  rcases List.mem_cons.1 he with rfl|he
  ·exact h.1.2
  ·exact ht _ _ _ h.1.2 (i1 d rfl e he)
end
end Go.Ideal.Plain
namespace Go.Ideal.Seat
open Go.Ideal.Plain
abbrev Dev:=Int×Int×Bool×Int
abbrev Tkt:=Int×Int×Int
abbrev Stt:=Int×Int×Int×List Dev×List Tkt
def devOk (d:Dev):Bool:=decide (0≤d.1∧d.1<16∧1≤d.2.1∧d.2.1≤1000∧0≤d.2.2.2∧d.2.2.2≤281474976710656)
def devLt (d e:Dev):Bool:=decide (d.1<e.1)
def tktOk (t:Tkt):Bool:=decide (1≤t.1∧t.1≤281474976710656∧-1≤t.2.1∧t.2.1<16∧0≤t.2.2∧t.2.2≤281474976710656)
def rosterOk (l:List Dev):Bool:=chainOk devOk devLt none l
theorem tktOne_eq (t:Tkt):F_ticket_one t=some (tktOk t):=by
 unfold F_ticket_one tktOk
 by_cases a:t.1≥1<;>by_cases b:t.1≤281474976710656<;>by_cases c:t.2.1≥-1<;>by_cases d:t.2.1<16<;>by_cases e:t.2.2≥0<;>by_cases f:t.2.2≤281474976710656<;>simp[a,b,c,d,e,f]<;>omega
theorem refOne_eq (t:Tkt):F_batonref26_One t=some (tktOk t):=by
 unfold F_batonref26_One tktOk
 by_cases a:t.1≥1<;>by_cases b:t.1≤281474976710656<;>by_cases c:t.2.1≥-1<;>by_cases d:t.2.1≤15<;>by_cases e:t.2.2≥0<;>by_cases f:t.2.2≤281474976710656<;>simp[a,b,c,d,e,f]<;>omega
end Go.Ideal.Seat
set_option linter.unusedVariables false
set_option linter.unusedSimpArgs false
namespace Go.Ideal.Seat
open Go.Ideal.Plain
theorem mid_eq (a b:Nat) (h:a+b<2^62):IntKind.wrap .i64 (Int.fdiv (IntKind.wrap .u64 (IntKind.wrap .i64 ((a:Int)+(b:Int)))) (2^min (Int.toNat 1) (IntKind.bits .u64)))=(((a+b)/2:Nat):Int):=by
 have e1:min (Int.toNat 1) (IntKind.bits .u64)=1:=by decide
 have e2:(2:Int)^1=2:=by decide
 rw[e1,e2,w64 (x:=(a:Int)+b) (by omega) (by omega),Go.IntWalk.u64_in _ (by omega),Int.fdiv_eq_ediv_of_nonneg _ (by omega)]
 have:((a:Int)+b)/2=(((a+b)/2:Nat):Int):=by omega
 rw[this]
 exact w64 (by omega) (by omega)
theorem searchLoop {E Y X S:Type} {l:List E} (less:E→Bool) (hs:∀(i j:Nat) d e,i<j→l[i]? = some d→l[j]? = some e→less e=true→less d=true) (mk:Nat→Nat→S) (fin:Nat→X) {F:S→Option (S⊕X)} {G:X→Option Y} {r:Option Y}
 (h1:∀(lo hi:Nat) e,lo<hi→hi≤l.length→l[(lo+hi)/2]? = some e→F (mk lo hi)=some (.inl (if less e=true then mk ((lo+hi)/2+1) hi else mk lo ((lo+hi)/2))))
 (h2:∀k,k≤l.length→F (mk k k)=some (.inr (fin k))) (h3:∀k,k≤l.length→(∀(j:Nat) e,j<k→l[j]? = some e→less e=true)→(∀(j:Nat) e,k≤j→l[j]? = some e→less e=false)→G (fin k)=r):(iterL F (mk 0 l.length)).bind G=r:=by
 have key:∀(m lo hi:Nat),hi-lo=m→lo≤hi→hi≤l.length→(∀(j:Nat) e,j<lo→l[j]? = some e→less e=true)→(∀(j:Nat) e,hi≤j→l[j]? = some e→less e=false)→(iterL F (mk lo hi)).bind G=r:=by
  intro m
  induction m using Nat.strongRecOn with
  |ind m ih=>
   intro lo hi hm hle hn ha hb
   by_cases he:lo=hi
   ·subst he
    rw[iterL_inr (h2 lo hn)]
    exact h3 lo hn ha hb
   ·have hlt:(lo+hi)/2<l.length:=by omega
    have hg:=List.getElem?_eq_getElem hlt
    have hf:=h1 lo hi _ (by omega) hn hg
    rw[iterL_inl hf]
    by_cases hl:less l[(lo+hi)/2]=true
    ·rw[if_pos hl]
     refine ih (hi-((lo+hi)/2+1)) (by omega) _ hi rfl (by omega) hn (fun j e hj hje=>?_) hb
     by_cases hj2:j=(lo+hi)/2
     ·subst hj2;rw[hg]at hje;injection hje with hje;rw[←hje];exact hl
     ·exact hs j ((lo+hi)/2) e _ (by omega) hje hg hl
    ·rw[if_neg hl]
     refine ih ((lo+hi)/2-lo) (by omega) lo _ rfl (by omega) (by omega) ha (fun j e hj hje=>?_)
     cases hle':less e with
     |false=>rfl
     |true=>
      by_cases hj2:j=(lo+hi)/2
      ·subst hj2;rw[hg]at hje;injection hje with hje;rw[hje]at hl;exact(hl hle').elim
      ·exact(hl (hs ((lo+hi)/2) j _ e (by omega) hg hje hle')).elim
 exact key l.length 0 l.length (by omega) (by omega) (Nat.le_refl _) (by omega) (fun j e hj hje=>by have:=getE_bound hje;omega)
def findDev (l:List Dev) (id:Int):Option Dev:=l.find? fun d=>d.1==id
theorem roster_sorted {l:List Dev} (h:rosterOk l=true):∀(i j:Nat) (d e:Dev),i<j→l[i]? = some d→l[j]? = some e→d.1<e.1:=fun i j d e hij hd he=>by
 have hp:=(chain_pair (fun a b c h1 h2=>by unfold devLt at *;simp only[decide_eq_true_eq]at *;omega) h).2
 have hj:=getE_bound he
 rw[List.getElem?_eq_getElem (by omega)]at hd he
 injection hd with hd
 injection he with he
 have:=List.pairwise_iff_getElem.1 hp i j (by omega) hj hij
 rw[hd,he]at this
 unfold devLt at this
 simpa using this
theorem compare_eq (d:Dev) (id:Int):F_roster_place_1 (d,id)=some (if d.1<id then -1 else if d.1>id then 1 else 0):=by
 unfold F_roster_place_1 F_cmp_Compare_int F_cmp_isNaN_int
 simp only[bne_self_eq_false,Option.bind_some,cond_false]
 by_cases a:d.1<id
 ·simp[a]
 ·by_cases b:d.1>id
  ·simp only[a,b,decide_false,decide_true,cond_true,cond_false,Option.bind_some,if_false,if_true]
  ·simp only[a,b,decide_false,cond_false,Option.bind_some,if_false]
theorem find_at {l:List Dev} {id:Int} {k:Nat} (h1:∀(j:Nat) (e:Dev),j<k→l[j]? = some e→e.1<id) (h2:∀(j:Nat) (e:Dev),k≤j→l[j]? = some e→id≤e.1) (hs:∀(i j:Nat) (d e:Dev),i<j→l[i]? = some d→l[j]? = some e→d.1<e.1):
 findDev l id=match l[k]? with|some d=>if d.1=id then some d else none|none=>none:=by
 unfold findDev
 have hsplit:l=l.take k++l.drop k:=(List.take_append_drop k l).symm
 have hn:(l.take k).find? (fun d=>d.1==id)=none:=by
  rw[List.find?_eq_none]
  intro d hd
  obtain⟨j,hj⟩:=List.mem_iff_getElem?.1 hd
  have hjk:j<k:=by have:=getE_bound hj;simp at this;omega
  rw[List.getElem?_take_of_lt hjk]at hj
  have:=h1 j d hjk hj
  simp;omega
 conv=>lhs;rw[hsplit]
 rw[List.find?_append,hn,Option.none_or]
 cases hk:l[k]? with
 |none=>
  have:l.drop k=[]:=List.drop_eq_nil_iff.2 (by simpa using List.getElem?_eq_none_iff.1 hk)
  rw[this];rfl
 |some d=>
  have hlt:=getE_bound hk
  rw[List.drop_eq_getElem_cons hlt]
  rw[List.getElem?_eq_getElem hlt]at hk
  injection hk with hk
  rw[hk]
  by_cases hd:d.1=id
  ·simp[List.find?_cons,hd]
  ·have hb:(d.1==id)=false:=by simpa using hd
   simp only[List.find?_cons,hb,hd,if_false]
   rw[List.find?_eq_none]
   intro e he
   obtain⟨j,hj⟩:=List.mem_iff_getElem?.1 he
   rw[List.getElem?_drop]at hj
   have hdk:l[k]? = some d:=by rw[List.getElem?_eq_getElem hlt,hk]
   have:=hs k (k+1+j) d e (by omega) hdk hj
   have:=h2 k d (Nat.le_refl _) hdk
   simp;omega
theorem split_at {E:Type} (p:E→Bool):∀l:List E,∃k,k≤l.length∧(∀(j:Nat) e,j<k→l[j]? = some e→p e=true)∧(∀e,l[k]? = some e→p e=false)
 |[]=>⟨0,Nat.le_refl _,by simp,by simp⟩
 |a::l=>by
  cases ha:p a with
  |false=>exact⟨0,by simp,by omega,by simp[ha]⟩
  |true=>
   obtain⟨k,h1,h2,h3⟩:=split_at p l
   refine⟨k+1,by simp;omega,fun j e hj he=>?_,fun e he=>h3 e (by simpa using he)⟩
   cases j with
   |zero=>simp at he;rw[←he];exact ha
   |succ j=>exact h2 j e (by omega) (by simpa using he)
def placeOf (l:List Dev) (id:Int):Nat:=(l.takeWhile fun d=>decide (d.1<id)).length
theorem placeOf_eq {l:List Dev} {id:Int} {k:Nat} (hk:k≤l.length) (h1:∀(j:Nat) (e:Dev),j<k→l[j]? = some e→e.1<id) (h2:∀(j:Nat) (e:Dev),k≤j→l[j]? = some e→id≤e.1):placeOf l id=k:=by
 unfold placeOf
 have hsplit:l=l.take k++l.drop k:=(List.take_append_drop k l).symm
 have hp:∀d∈l.take k,decide (d.1<id)=true:=fun d hd=>by
  obtain⟨j,hj⟩:=List.mem_iff_getElem?.1 hd
  have hjk:j<k:=by have:=getE_bound hj;simp at this;omega
  rw[List.getElem?_take_of_lt hjk]at hj
  simpa using h1 j d hjk hj
 have hd:(l.drop k).takeWhile (fun d=>decide (d.1<id))=[]:=by
  cases hk:l.drop k with
  |nil=>rfl
  |cons d r=>
   have hg:l[k]? = some d:=by
    have:(l.drop k)[0]? = some d:=by rw[hk];rfl
    rwa [List.getElem?_drop,Nat.add_zero]at this
   have:=h2 k d (Nat.le_refl _) hg
   have hn:decide (d.1<id)=false:=by simp;omega
   simp[List.takeWhile_cons,hn]
 conv=>lhs;rw[hsplit]
 rw[List.takeWhile_append_of_pos hp,hd]
 simp;omega
theorem place_eq (l:List Dev) (id:Int) (hl:l.length≤2^36) (hs:∀(i j:Nat) (d e:Dev),i<j→l[i]? = some d→l[j]? = some e→d.1<e.1):
 F_roster_place (l,id)=some ((placeOf l id:Int),(findDev l id).isSome)∧placeOf l id≤l.length∧findDev l id=(match l[placeOf l id]? with|some d=>if d.1=id then some d else none|none=>none):=by
 have key:∀k,k≤l.length→(∀(j:Nat) (e:Dev),j<k→l[j]? = some e→e.1<id)→(∀(j:Nat) (e:Dev),k≤j→l[j]? = some e→id≤e.1)→placeOf l id≤l.length∧findDev l id=(match l[placeOf l id]? with|some d=>if d.1=id then some d else none|none=>none):=fun k hk h1 h2=>by
  rw[placeOf_eq hk h1 h2]
  exact⟨hk,find_at h1 h2 hs⟩
 have hex:placeOf l id≤l.length∧findDev l id=(match l[placeOf l id]? with|some d=>if d.1=id then some d else none|none=>none):=by
  obtain⟨k,hk,h1,h2⟩:=split_at (fun d:Dev=>decide (d.1<id)) l
  refine key k hk (fun j e hj he=>by simpa using h1 j e hj he) (fun j e hj he=>?_)
  have hj':=getE_bound he
  have hg:=List.getElem?_eq_getElem (show k<l.length by omega)
  have hn:=h2 _ hg
  simp only[decide_eq_false_iff_not]at hn
  by_cases hjk:j=k
  ·subst hjk;rw[hg]at he;injection he with he;rw[←he];omega
  ·have:=hs k j _ e (by omega) hg he
   omega
 refine⟨?_,hex⟩
 unfold F_roster_place
 refine searchLoop (l:=l) (fun d=>decide (d.1<id)) (fun i j d e hij hd he h=>by have:=hs i j d e hij hd he;simp at h ⊢;omega) (fun lo hi=>((lo:Int),(hi:Int))) (fun k=>((k:Int),(k:Int),false)) (fun lo hi e hlt hle he=>?_) (fun k hk=>?_) (fun k hk h1 h2=>?_)
 ·have hlt':(lo:Int)<(hi:Int):=by omega
  simp only[hlt',decide_true,cond_true,mid_eq lo hi (by omega),Int.natCast_nonneg,Int.toNat_natCast,he,Option.bind_some,compare_eq,wsucc (show (lo+hi)/2<2^62 by omega)]
  by_cases a:e.1<id
  ·simp[a]
  ·by_cases b:e.1>id<;>simp[a,b]
 ·have hlt':¬(k:Int)<(k:Int):=by omega
  simp only[hlt',decide_false,cond_false]
 ·have h1':∀(j:Nat) (e:Dev),j<k→l[j]? = some e→e.1<id:=fun j e hj he=>by simpa using h1 j e hj he
  have h2':∀(j:Nat) (e:Dev),k≤j→l[j]? = some e→id≤e.1:=fun j e hj he=>by have:=h2 j e hj he;simp at this;omega
  rw[placeOf_eq hk h1' h2',find_at h1' h2' hs]
  by_cases hlt:k<l.length
  ·have hlt':(k:Int)<(l.length:Int):=by omega
   have hg:=List.getElem?_eq_getElem hlt
   simp only[hlt',decide_true,beq_self_eq_true,cond_true,Int.natCast_nonneg,Int.toNat_natCast,hg,Option.bind_some,compare_eq]
   have:=h2' k _ (Nat.le_refl _) hg
   by_cases b:l[k].1=id
   ·simp[b]
   ·have c:l[k].1>id:=by omega
    have d:¬l[k].1<id:=by omega
    simp[b,c,d]
  ·have hlt':¬(k:Int)<(l.length:Int):=by omega
   have hg:l[k]? = none:=List.getElem?_eq_none (by omega)
   simp only[hlt',decide_false,Bool.false_beq,Bool.not_true,cond_false,hg]
   rfl
end Go.Ideal.Seat
set_option linter.unusedVariables false
set_option linter.unusedSimpArgs false
namespace Go.Ideal.Seat
open Go.Ideal.Plain
theorem find_eq (l:List Dev) (id:Int) (hl:l.length≤2^36) (hs:rosterOk l=true):F_roster_Find (l,id)=some (match findDev l id with|some d=>(d,true)|none=>((0,0,false,0),false)):=by
 unfold F_roster_Find
 obtain⟨h1,h2,h3⟩:=place_eq l id hl (roster_sorted hs)
 simp only[h1,Option.bind_some]
 cases hf:findDev l id with
 |none=>rfl
 |some d=>
  rw[hf]at h3
  have hg:l[placeOf l id]? = some d:=by
   cases hp:l[placeOf l id]? with
   |none=>rw[hp]at h3;cases h3
   |some e=>
    rw[hp]at h3
    simp only at h3
    split at h3
    ·injection h3 with h3;rw[h3]
    ·cases h3
  simp only[Option.isSome_some,Bool.not_true,cond_false,Int.natCast_nonneg,decide_true,cond_true,Int.toNat_natCast,hg,Option.bind_some]
theorem refThere_eq (l:List Dev) (id:Int) (hl:l.length≤2^36):F_batonref25_There (l,id)=some (match findDev l id with|some d=>if d.2.2.1=true then 15 else 0|none=>11):=by
 have hfind:F_batonref25_Find (l,id)=some (match l.findIdx? (fun d=>d.1==id)with|some i=>(i:Int)|none=>-1):=by
  unfold F_batonref25_Find
  rw[allIdx (l:=l) (fun d=>!(d.1==id)) (z:=((l.length:Int),false)) (fun i e he=>?_) (by simp)]
  ·cases hi:l.findIdx? (fun d=>d.1==id) with
   |none=>
    have:(l.all fun d=>!(d.1==id))=true:=by
     rw[List.findIdx?_eq_none_iff]at hi
     rw[List.all_eq_true]
     intro d hd
     simp[hi d hd]
    rw[if_pos this];rfl
   |some i=>
    have hne:¬(l.all fun d=>!(d.1==id))=true:=by
     rw[List.findIdx?_eq_some_iff_getElem]at hi
     obtain⟨h1,h2,h3⟩:=hi
     intro h
     rw[List.all_eq_true]at h
     have:=h _ (List.getElem_mem h1)
     simp[h2]at this
    rw[if_neg hne]
    have hx:l.findIdx (fun d=>!!(d.1==id))=i:=by
     simp only[Bool.not_not]
     rw[List.findIdx?_eq_some_iff_getElem]at hi
     obtain⟨h1,h2,h3⟩:=hi
     rw[List.findIdx_eq h1]
     exact⟨h2,fun j hj=>by have:=h3 j hj;simpa using this⟩
    simp only[hx]
    rfl
  ·have hi:=getE_bound he
   have hi':(i:Int)<(l.length:Int):=by omega
   simp only[hi',decide_true,cond_true,Int.natCast_nonneg,Int.toNat_natCast,he,Option.bind_some,wsucc (show i<2^62 by omega)]
   cases (e.1==id)<;>rfl
 unfold F_batonref25_There
 rw[hfind]
 simp only[Option.bind_some]
 unfold findDev
 cases hi:l.findIdx? (fun d=>d.1==id) with
 |none=>
  have:l.find? (fun d=>d.1==id)=none:=by
   rw[List.findIdx?_eq_none_iff]at hi
   rw[List.find?_eq_none]
   intro d hd
   simp[hi d hd]
  rw[this]
  rfl
 |some i=>
  rw[List.findIdx?_eq_some_iff_getElem]at hi
  obtain⟨h1,h2,h3⟩:=hi
  have hfd:l.find? (fun d=>d.1==id)=some l[i]:=by
   rw[List.find?_eq_some_iff_getElem]
   exact⟨h2,i,h1,rfl,fun j hj=>by have:=h3 j hj;simpa using this⟩
  have hg:=List.getElem?_eq_getElem h1
  have hn:¬((i:Int)<0):=by omega
  rw[hfd]
  simp only[hn,decide_false,cond_false,Int.natCast_nonneg,decide_true,cond_true,Int.toNat_natCast,hg,Option.bind_some]
  cases l[i].2.2.1<;>rfl
def fewS (s:Stt):Prop:=s.2.2.2.1.length≤2^36∧s.2.2.2.2.length≤2^36
theorem refRoster (l:List Dev) (h:l.length≤2^36):F_batonlaw25_Ref l=some l:=by
 unfold F_batonlaw25_Ref
 rw[foldLoop (l:=l) (fun(s:List Dev) i=>(s,i)) (fun s e=>s++[e]) (fun i s=>s.length≤i) (fin:=fun s=>(s,(l.length:Int),false)) (a:=[]) (by simp) (fun s i e he hi hv=>?_) (fun s hv=>by simp)]
 ·simp only[foldl_snoc,Option.bind_some,List.nil_append]
 ·have hi':(i:Int)<(l.length:Int):=by omega
  have hm:(s.length+1)*(32+1)≤most:=by unfold most;omega
  simp only[hi',decide_true,cond_true,Int.natCast_nonneg,Int.toNat_natCast,he,Option.bind_some,wsucc (show i<2^62 by omega),List.length_cons,List.length_nil,Nat.zero_add,hm]
  exact⟨trivial,by simp;omega⟩
theorem refTickets (l:List Tkt) (h:l.length≤2^36):F_batonlaw26_Ref l=some l:=by
 unfold F_batonlaw26_Ref
 rw[foldLoop (l:=l) (fun(s:List Tkt) i=>(s,i)) (fun s e=>s++[e]) (fun i s=>s.length≤i) (fin:=fun s=>(s,(l.length:Int),false)) (a:=[]) (by simp) (fun s i e he hi hv=>?_) (fun s hv=>by simp)]
 ·simp only[foldl_snoc,Option.bind_some,List.nil_append]
 ·have hi':(i:Int)<(l.length:Int):=by omega
  have hm:(s.length+1)*(24+1)≤most:=by unfold most;omega
  simp only[hi',decide_true,cond_true,Int.natCast_nonneg,Int.toNat_natCast,he,Option.bind_some,wsucc (show i<2^62 by omega),List.length_cons,List.length_nil,Nat.zero_add,hm]
  exact⟨trivial,by simp;omega⟩
theorem refState (s:Stt) (hf:fewS s):F_batonlaw27_Ref s=some s:=by
 unfold F_batonlaw27_Ref
 rw[refRoster _ hf.1,refTickets _ hf.2]
 rfl
end Go.Ideal.Seat
set_option linter.unusedVariables false
set_option linter.unusedSimpArgs false
namespace Go.Ideal.Seat
open Go.Ideal.Plain
end Go.Ideal.Seat
set_option linter.unusedVariables false
set_option linter.unusedSimpArgs false
namespace Go.Ideal.Seat
open Go.Ideal.Plain
theorem devs_same (l:List Dev) (h:l.length≤2^36):F_slices_Equal_roster_Device_roster_Device (l,l)=some true:=by
 unfold F_slices_Equal_roster_Device_roster_Device
 simp only[bne_self_eq_false,cond_false]
 rw[allLoop (l:=l) (fun _=>true) (z:=((l.length:Int),false)) (fun i e he=>?_) (by simp)]
 ·simp
 ·have hi:=getE_bound he
  have hi':(i:Int)<(l.length:Int):=by omega
  simp only[hi',decide_true,cond_true,Int.natCast_nonneg,Int.toNat_natCast,he,Option.bind_some,beq_self_eq_true,Bool.and_self,Bool.not_true,cond_false,if_true,wsucc (show i<2^62 by omega)]
theorem tkts_same (l:List Tkt) (h:l.length≤2^36):F_slices_Equal_ticket_Ticket_ticket_Ticket (l,l)=some true:=by
 unfold F_slices_Equal_ticket_Ticket_ticket_Ticket
 simp only[bne_self_eq_false,cond_false]
 rw[allLoop (l:=l) (fun _=>true) (z:=((l.length:Int),false)) (fun i e he=>?_) (by simp)]
 ·simp
 ·have hi:=getE_bound he
  have hi':(i:Int)<(l.length:Int):=by omega
  simp only[hi',decide_true,cond_true,Int.natCast_nonneg,Int.toNat_natCast,he,Option.bind_some,beq_self_eq_true,Bool.and_self,Bool.not_true,cond_false,if_true,wsucc (show i<2^62 by omega)]
theorem claimSame_refl (s:Stt) (hf:fewS s):F_claim_Same (s,s)=some true:=by
 unfold F_claim_Same
 simp only[beq_self_eq_true,cond_true,devs_same _ hf.1,tkts_same _ hf.2,Option.bind_some]
end Go.Ideal.Seat
set_option linter.unusedVariables false
set_option linter.unusedSimpArgs false
namespace Go.Ideal.Seat
open Go.Ideal.Plain
abbrev Opr:=Int×Int×Int×Int×Int×Int×Int
theorem cloneD_eq (l:List Dev) (h:l.length≤2^36):O_slices_Clone_roster_Device_roster_Device l=some l:=by
 unfold O_slices_Clone_roster_Device_roster_Device
 have hm:(([]:List Dev).length+l.length)*(32+1)≤most:=by unfold most;simp only[List.length_nil];omega
 rw[both_eq fun hc=>?_,@decide_eq_true _ _ hm]
 ·rfl
 ·rw[@decide_eq_true _ _ hm]
  have:l=[]:=List.eq_nil_of_length_eq_zero (by simpa using hc)
  rw[this];rfl
theorem cloneT_eq (l:List Tkt) (h:l.length≤2^36):O_slices_Clone_ticket_Ticket_ticket_Ticket l=some l:=by
 unfold O_slices_Clone_ticket_Ticket_ticket_Ticket
 have hm:(([]:List Tkt).length+l.length)*(24+1)≤most:=by unfold most;simp only[List.length_nil];omega
 rw[both_eq fun hc=>?_,@decide_eq_true _ _ hm]
 ·rfl
 ·rw[@decide_eq_true _ _ hm]
  have:l=[]:=List.eq_nil_of_length_eq_zero (by simpa using hc)
  rw[this];rfl
def enrolS (l:List Dev) (id:Int):List Dev×Int:=
 if id<0∨16≤id then (l,1) else match findDev l id with
  |none=>(l.take (placeOf l id)++[(id,1,false,0)]++l.drop (placeOf l id),0)
  |some d=>if d.2.2.1=false then (l,12) else if 1000≤d.2.1 then (l,16) else (l.set (placeOf l id) (id,d.2.1+1,false,0),0)
def thereS (l:List Dev) (id:Int):Int:=match findDev l id with
 |none=>11
 |some d=>if d.2.2.1=true then 15 else 0
def revokeS (l:List Dev) (id:Int):List Dev×Int:=match findDev l id with
 |none=>(l,11)
 |some d=>if d.2.2.1=true then (l,15) else (l.set (placeOf l id) (d.1,d.2.1,true,d.2.2.2),0)
def acceptS (l:List Dev) (id rq:Int):List Dev×Int:=match findDev l id with
 |none=>(l,11)
 |some d=>if d.2.2.1=true then (l,15) else if rq≤d.2.2.2∨281474976710656<rq then (l,20) else (l.set (placeOf l id) (d.1,d.2.1,d.2.2.1,rq),0)
theorem find_place {l:List Dev} {id:Int} (hl:l.length≤2^36) (hs:rosterOk l=true) {d:Dev} (h:findDev l id=some d):l[placeOf l id]? = some d∧d.1=id:=by
 obtain⟨_,_,h3⟩:=place_eq l id hl (roster_sorted hs)
 rw[h]at h3
 cases hp:l[placeOf l id]? with
 |none=>rw[hp]at h3;cases h3
 |some e=>
  rw[hp]at h3
  simp only at h3
  split at h3
  ·rename_i he;injection h3 with h3;rw[h3];exact⟨rfl,he⟩
  ·cases h3
theorem enrol_eq (l:List Dev) (id:Int) (hl:l.length≤2^36) (hs:rosterOk l=true):O_roster_Enrol (l,id)=some (enrolS l id):=by
 unfold O_roster_Enrol enrolS
 obtain⟨h1,h2,h3⟩:=place_eq l id hl (roster_sorted hs)
 simp only[cloneD_eq l hl,h1,Option.bind_some]
 by_cases hid:id<0
 ·simp[hid]
 ·by_cases hid2:16≤id
  ·simp[hid,hid2]
  ·have:¬(id<0∨16≤id):=by omega
   rw[if_neg this]
   simp only[hid,decide_false,beq_self_eq_true,cond_true,show ¬(id≥16) by omega,Option.bind_some,cond_false]
   cases hf:findDev l id with
   |none=>
    simp only[Option.isSome_none,Bool.not_false,cond_true]
    unfold O_slices_Insert_roster_Device_roster_Device insF
    have hm:(l.length+1)*(32+1)≤most:=by unfold most;omega
    have e1:decide (0≤((placeOf l id:Nat):Int))=true:=by simp
    have e2:decide (((placeOf l id:Nat):Int).toNat≤l.length)=true:=by simpa using h2
    have e3:decide ((l.length+([(id,1,false,0)]:List Dev).length)*(32+1)≤most)=true:=by simpa using hm
    simp only[e1,e2,e3,cut,cond_true,Option.bind_some,Int.toNat_natCast,List.length_cons,List.length_nil,Nat.zero_add,Nat.zero_lt_one,decide_true,h2,hm]
   |some d=>
    obtain⟨hg,hd⟩:=find_place hl hs hf
    have hp:=getE_bound hg
    have hin:=List.mem_of_getElem? hg
    have hok:=chain_mem hs d hin
    unfold devOk at hok
    rw[decide_eq_true_eq]at hok
    simp only[Option.isSome_some,Bool.not_true,cond_false,Int.natCast_nonneg,decide_true,cond_true,Int.toNat_natCast,hg,Option.bind_some,hp,show (2:Nat)^62=2^62 from rfl]
    cases hgone:d.2.2.1 with
    |false=>simp[hgone]
    |true=>
     simp only[hgone,Bool.not_true,cond_false,Bool.true_eq_false,if_false]
     by_cases ht:1000≤d.2.1
     ·simp[ht]
     ·rw[if_neg ht,w64 (by omega) (by omega)]
      simp[ht]
theorem rosterThere_eq (l:List Dev) (id:Int) (hl:l.length≤2^36) (hs:rosterOk l=true):F_roster_there (l,id)=some (match findDev l id with|none=>(0,11)|some d=>if d.2.2.1=true then (0,15) else ((placeOf l id:Int),0)):=by
 unfold F_roster_there
 obtain⟨h1,h2,h3⟩:=place_eq l id hl (roster_sorted hs)
 simp only[h1,Option.bind_some]
 cases hf:findDev l id with
 |none=>simp
 |some d=>
  obtain⟨hg,hd⟩:=find_place hl hs hf
  simp only[Option.isSome_some,Bool.not_true,cond_false,Int.natCast_nonneg,decide_true,cond_true,Int.toNat_natCast,hg,Option.bind_some]
  cases d.2.2.1<;>simp
theorem revoke_eq (l:List Dev) (id:Int) (hl:l.length≤2^36) (hs:rosterOk l=true):O_roster_Revoke (l,id)=some (revokeS l id):=by
 unfold O_roster_Revoke revokeS
 simp only[cloneD_eq l hl,rosterThere_eq l id hl hs,Option.bind_some]
 cases hf:findDev l id with
 |none=>simp
 |some d=>
  obtain⟨hg,hd⟩:=find_place hl hs hf
  have hp:=getE_bound hg
  have he:l[placeOf l id]=d:=(List.getElem?_eq_some_iff.1 hg).2
  cases hgone:d.2.2.1 with
  |true=>simp[hgone]
  |false=>simp[hg,hp,he,hgone]
theorem accept_eq (l:List Dev) (id rq:Int) (hl:l.length≤2^36) (hs:rosterOk l=true):O_roster_Accept (l,id,rq)=some (acceptS l id rq):=by
 unfold O_roster_Accept acceptS F_roster_May
 obtain⟨h1,h2,h3⟩:=place_eq l id hl (roster_sorted hs)
 simp only[cloneD_eq l hl,rosterThere_eq l id hl hs,h1,Option.bind_some]
 cases hf:findDev l id with
 |none=>simp
 |some d=>
  obtain⟨hg,hd⟩:=find_place hl hs hf
  have hp:=getE_bound hg
  have he:l[placeOf l id]=d:=(List.getElem?_eq_some_iff.1 hg).2
  cases hgone:d.2.2.1 with
  |true=>simp[hgone]
  |false=>
   by_cases h1:rq≤d.2.2.2
   ·simp[hg,hp,he,h1,hgone]
   ·by_cases h2:281474976710656<rq
    ·simp[hg,hp,he,h1,h2,hgone]
    ·simp[hg,hp,he,h1,h2,hgone]
def liveS (l:List Tkt) (now:Int):List Tkt:=l.filter fun t=>!decide (t.2.2<now)
theorem take_succ {α:Type} {l:List α} {j:Nat} {e:α} (h:l[j]? = some e):l.take (j+1)=l.take j++[e]:=by
 rw[List.take_add_one,h];rfl
theorem liveLoop (l:List Tkt) (now:Int) (hl:l.length≤2^36) {F:(List Tkt×Int×Int)→Option ((List Tkt×Int×Int)⊕(List Tkt×Int×Int×Bool))}
 (h1:∀(a:List Tkt) (i j:Nat) (e:Tkt),a[j]? = some e→i<j→j<l.length→a.length=l.length→F (a,(i:Int),(j:Int))=some (.inl (if e.2.2<now then (a,(i:Int),((j+1:Nat):Int)) else (a.set i e,((i+1:Nat):Int),((j+1:Nat):Int)))))
 (h2:∀(a:List Tkt) (i:Nat),a.length=l.length→F (a,(i:Int),(l.length:Int))=some (.inr (a,(i:Int),(l.length:Int),false))):
 ∀(n j i:Nat) (a:List Tkt),j+n=l.length→a.length=l.length→i<j→a.take i=(l.take j).filter (fun t=>!decide (t.2.2<now))→a.drop j=l.drop j→
  ∃a' i',iterL F (a,(i:Int),(j:Int))=some (a',((i':Nat):Int),(l.length:Int),false)∧a'.length=l.length∧i'≤l.length∧a'.take i'=liveS l now:=by
 intro n
 induction n with
 |zero=>
  intro j i a hj ha hij ht hd
  have:j=l.length:=by omega
  subst this
  rw[List.take_length]at ht
  exact⟨a,i,iterL_inr (h2 a i ha),ha,by omega,ht⟩
 |succ n ih=>
  intro j i a hj ha hij ht hd
  have hjl:j<l.length:=by omega
  have hlj:=List.getElem?_eq_getElem hjl
  have haj:a[j]? = some l[j]:=by
   have:(a.drop j)[0]? = (l.drop j)[0]?:=by rw[hd]
   rw[List.getElem?_drop,List.getElem?_drop,Nat.add_zero]at this
   rw[this];exact hlj
  have hf:=h1 a i j l[j] haj hij hjl ha
  have hd':a.drop (j+1)=l.drop (j+1):=by
   have:=congrArg (List.drop 1) hd
   rwa [List.drop_drop,List.drop_drop]at this
  by_cases hk:l[j].2.2<now
  ·rw[if_pos hk]at hf
   rw[iterL_inl hf]
   refine ih (j+1) i a (by omega) ha (by omega) ?_ hd'
   rw[take_succ hlj,List.filter_append,ht]
   simp[hk]
  ·rw[if_neg hk]at hf
   rw[iterL_inl hf]
   refine ih (j+1) (i+1) (a.set i l[j]) (by omega) (by simpa using ha) (by omega) ?_ ?_
   ·rw[take_succ (by rw[List.getElem?_set,if_pos rfl,if_pos (by omega)]:(a.set i l[j])[i]? = some l[j]),List.take_set_of_le (Nat.le_refl i),ht,take_succ hlj,List.filter_append]
    simp[hk]
   ·rw[List.drop_set_of_lt (by omega)];exact hd'
theorem liveLoopB {Y:Type} (l:List Tkt) (now:Int) (hl:l.length≤2^36) {F:(List Tkt×Int×Int)→Option ((List Tkt×Int×Int)⊕(List Tkt×Int×Int×Bool))} {G:(List Tkt×Int×Int×Bool)→Option Y} {r:Option Y}
 (h1:∀(a:List Tkt) (i j:Nat) (e:Tkt),a[j]? = some e→i<j→j<l.length→a.length=l.length→F (a,(i:Int),(j:Int))=some (.inl (if e.2.2<now then (a,(i:Int),((j+1:Nat):Int)) else (a.set i e,((i+1:Nat):Int),((j+1:Nat):Int)))))
 (h2:∀(a:List Tkt) (i:Nat),a.length=l.length→F (a,(i:Int),(l.length:Int))=some (.inr (a,(i:Int),(l.length:Int),false))) (k:Nat) (hlt:k<l.length)
 (hinit:l.take k=(l.take (k+1)).filter (fun t=>!decide (t.2.2<now))) (h3:∀a' i',a'.length=l.length→i'≤l.length→a'.take i'=liveS l now→G (a',((i':Nat):Int),(l.length:Int),false)=r):
 (iterL F (l,(k:Int),((k+1:Nat):Int))).bind G=r:=by
 obtain⟨a',i',q1,q2,q3,q4⟩:=liveLoop l now hl h1 h2 (l.length-(k+1)) (k+1) k l (by omega) rfl (by omega) hinit rfl
 rw[q1]
 exact h3 a' i' q2 q3 q4
theorem live_eq (l:List Tkt) (now:Int) (hl:l.length≤2^36):O_ticket_Live (l,now)=some (liveS l now):=by
 unfold O_ticket_Live
 simp only[cloneT_eq l hl,Option.bind_some]
 rw[allIdx (l:=l) (fun t=>!decide (t.2.2<now)) (z:=((l.length:Int),false)) (fun i e he=>?_) (by simp)]
 ·by_cases ha:(l.all fun t=>!decide (t.2.2<now))=true
  ·rw[if_pos ha]
   simp only[Option.bind_some,beq_self_eq_true,cond_true,liveS]
   rw[List.filter_eq_self.2 (by simpa using ha)]
  ·rw[if_neg ha]
   simp only[Option.bind_some,Bool.not_not]
   have hx:∃t∈l,decide (t.2.2<now)=true:=by
    simpa using ha
   have hlt:l.findIdx (fun t=>decide (t.2.2<now))<l.length:=List.findIdx_lt_length_of_exists hx
   generalize hk:l.findIdx (fun t=>decide (t.2.2<now))=k at hlt
   have hkeep:∀j (hj:j<l.length),j<k→decide (l[j].2.2<now)=false:=fun j hj hjk=>by
    have:=List.not_of_lt_findIdx (p:=fun t:Tkt=>decide (t.2.2<now)) (xs:=l) (i:=j) (by rw[hk];exact hjk)
    simpa using this
   have hdrop:decide (l[k].2.2<now)=true:=by
    have:=List.findIdx_getElem (p:=fun t:Tkt=>decide (t.2.2<now)) (xs:=l) (w:=by rw[hk];exact hlt)
    simp only[hk]at this;exact this
   have hne:((k:Int)== -1)=false:=by rw[beq_eq_false_iff_ne];omega
   simp only[hne,cond_false]
   have hinit:l.take k=(l.take (k+1)).filter (fun t=>!decide (t.2.2<now)):=by
    rw[take_succ (List.getElem?_eq_getElem hlt),List.filter_append,List.filter_eq_self.2 (fun t ht=>?_)]
    ·simp at hdrop;simp[hdrop]
    ·obtain⟨j,hj⟩:=List.mem_iff_getElem?.1 ht
     have hjk:j<k:=by have:=getE_bound hj;simp at this;omega
     rw[List.getElem?_take_of_lt hjk]at hj
     have hjl:=getE_bound hj
     rw[List.getElem?_eq_getElem hjl]at hj
     injection hj with hj
     rw[←hj,hkeep j hjl hjk];rfl
   rw[wsucc (show k<2^62 by omega)]
   refine liveLoopB l now hl (fun a i j e he hij hj ha=>?_) (fun a i ha=>?_) k hlt hinit fun a' i' q2 q3 q4=>?_
   ·have hj':(j:Int)<(a.length:Int):=by omega
    have hj2:j<a.length:=by omega
    have hi2:i<a.length:=by omega
    have hge:=List.getElem?_eq_getElem hi2
    simp only[hj',decide_true,cond_true,Int.natCast_nonneg,Int.toNat_natCast,hj2,he,Option.bind_some,hi2,hge,wsucc (show i<2^62 by omega),wsucc (show j<2^62 by omega)]
    by_cases hn:e.2.2<now<;>simp[hn]
   ·simp[ha]
   ·have e1:decide (i'≤a'.length∧a'.length≤a'.length)=true:=by simp;omega
    have e2:decide (i'+(a'.length-i')≤a'.length)=true:=by simp;omega
    simp only[Option.bind_some,Int.natCast_nonneg,Int.toNat_natCast,decide_true,cond_true,e1,e2,List.drop_zero,Nat.sub_zero]
    have e3:decide (0≤i'∧i'≤(a'.take i'++List.replicate (a'.length-i') (0,(0,0))++a'.drop (i'+(a'.length-i'))).length)=true:=by simp;omega
    rw[e3,cond_true,List.append_assoc,List.take_append_of_le_length (by simp;omega),List.take_take,Nat.min_self,q4]
 ·have hi:=getE_bound he
  have hi':(i:Int)<(l.length:Int):=by omega
  simp only[hi',decide_true,cond_true,Int.natCast_nonneg,Int.toNat_natCast,hi,he,Option.bind_some,wsucc (show i<2^62 by omega)]
  by_cases hn:e.2.2<now<;>simp[hn]
def issueT (l:List Tkt) (t:Tkt):List Tkt×Int:=
 if tktOk t=false then (l,1) else if (match l.getLast? with|some u=>decide (t.1≤u.1)|none=>false)=true then (l,20) else if 24≤l.length then (l,2) else (l++[t],0)
theorem issue_eq (l:List Tkt) (t:Tkt) (hl:l.length≤2^36):O_ticket_Issue (l,t)=some (issueT l t):=by
 unfold O_ticket_Issue issueT
 simp only[cloneT_eq l hl,tktOne_eq,Option.bind_some]
 cases hok:tktOk t with
 |false=>simp
 |true=>
  simp only[Bool.not_true,cond_false,Bool.true_eq_false,if_false]
  have hm:(l.length+1)*(24+1)≤most:=by unfold most;omega
  have fin:(bif (decide ((((l.length):Nat):Int)≥24)) then (some (l,(2:Int))) else (bif decide ((l.length+([t]:List Tkt).length)*(24+1)≤most) then (some ((l++([t]:List Tkt)),(0:Int))) else none))=some (if 24≤l.length then (l,2) else (l++[t],0)):=by
   by_cases h24:24≤l.length
   ·have:((l.length:Nat):Int)≥24:=by omega
    simp[h24,this]
   ·have:¬((l.length:Nat):Int)≥24:=by omega
    simp only[h24,this,decide_false,cond_false,List.length_cons,List.length_nil,Nat.zero_add,hm,decide_true,cond_true,if_false]
  cases hg:l.getLast? with
  |none=>
   have:l=[]:=List.getLast?_eq_none_iff.1 hg
   subst this
   simp only[List.length_nil,Int.natCast_zero,gt_iff_lt,Int.lt_irrefl,decide_false,Bool.false_beq,Bool.not_true,cond_false,Option.bind_some,Bool.false_eq_true,if_false]
   exact fin
  |some u=>
   have hpos:0<l.length:=by cases l with|nil=>simp at hg|cons _ _=>simp
   have h0:((l.length:Nat):Int)>0:=by omega
   have hw:IntKind.wrap .i64 (((l.length:Nat):Int)-1)=((l.length-1:Nat):Int):=by rw[w64 (by omega) (by omega)];omega
   have hgl:l[l.length-1]? = some u:=by rw[←hg,List.getLast?_eq_getElem?]
   simp only[h0,decide_true,beq_self_eq_true,cond_true,hw,Int.natCast_nonneg,Int.toNat_natCast,hgl,Option.bind_some]
   by_cases ht:t.1≤u.1
   ·simp[ht]
   ·simp only[ht,decide_false,cond_false,Bool.false_eq_true,if_false]
    exact fin
def useT (l:List Tkt) (no dev now:Int):Int:=match l.find? (fun t=>t.1==no) with
 |none=>13
 |some t=>if 0≤t.2.1∧t.2.1≠dev then 13 else if t.2.2<now then 14 else 0
theorem find_idx {α:Type} (p:α→Bool) {l:List α} (h:¬(l.all fun e=>!p e)=true):∃e,l[l.findIdx p]? = some e∧l.find? p=some e:=by
 have hx:∃t∈l,p t=true:=by simpa using h
 have hlt:l.findIdx p<l.length:=List.findIdx_lt_length_of_exists hx
 refine⟨l[l.findIdx p],List.getElem?_eq_getElem hlt,?_⟩
 rw[List.find?_eq_some_iff_getElem]
 exact⟨List.findIdx_getElem,_,hlt,rfl,fun j hj=>by have:=List.not_of_lt_findIdx hj;simpa using this⟩
theorem use_eq (l:List Tkt) (no dev now:Int) (hl:l.length≤2^36):O_ticket_Use (l,no,dev,now)=some (useT l no dev now):=by
 unfold O_ticket_Use useT
 simp only
 rw[allIdx (l:=l) (fun t=>!(t.1==no)) (z:=((l.length:Int),false)) (fun i e he=>?_) (by simp)]
 ·by_cases ha:(l.all fun t=>!(t.1==no))=true
  ·rw[if_pos ha]
   have:l.find? (fun t=>t.1==no)=none:=by
    rw[List.find?_eq_none]
    intro t ht
    rw[List.all_eq_true]at ha
    have:=ha t ht
    simpa using this
   rw[this]
   simp
  ·rw[if_neg ha]
   simp only[Option.bind_some,Bool.not_not]
   obtain⟨e,h1,h2⟩:=find_idx (fun t:Tkt=>t.1==no) ha
   rw[h2]
   have hn:¬((l.findIdx (fun t=>t.1==no):Nat):Int)<0:=by omega
   simp only[hn,decide_false,beq_self_eq_true,cond_true,Int.natCast_nonneg,decide_true,Int.toNat_natCast,h1,Option.bind_some]
   by_cases h3:0≤e.2.1
   ·by_cases h4:e.2.1=dev
    ·by_cases h5:e.2.2<now<;>simp[h3,h4,h5]
    ·have h4':(e.2.1 != dev)=true:=by simpa using h4
     simp[h3,h4,h4']
   ·by_cases h5:e.2.2<now<;>simp[h3,h5]
 ·have hi:=getE_bound he
  have hi':(i:Int)<(l.length:Int):=by omega
  simp only[hi',decide_true,cond_true,Int.natCast_nonneg,Int.toNat_natCast,he,Option.bind_some,wsucc (show i<2^62 by omega)]
  cases (e.1==no)<;>rfl
end Go.Ideal.Seat
set_option linter.unusedVariables false
set_option linter.unusedSimpArgs false
namespace Go.Ideal.Seat
open Go.Ideal.Plain
theorem chain_of {E:Type} {p:E→Bool} {f:E→E→Bool}:∀{l:List E} {a:Option E},(∀e∈l,p e=true)→(∀d,a=some d→∀e∈l,f d e=true)→(l.Pairwise fun d e=>f d e=true)→chainOk p f a l=true
 |[],_,_,_,_=>by simp[chainOk]
 |e::l,a,hp,ha,hw=>by
  rw[chain_cons,Bool.and_eq_true]
  rw[List.pairwise_cons]at hw
  refine⟨?_,chain_of (fun x hx=>hp x (List.mem_cons_of_mem _ hx)) (fun d hd x hx=>by injection hd with hd;rw[←hd];exact hw.1 x hx) hw.2⟩
  unfold okAt
  rw[hp e (List.mem_cons_self ..)]
  cases a with
  |none=>rfl
  |some d=>simpa using ha d rfl e (List.mem_cons_self ..)
theorem roster_iff (l:List Dev):rosterOk l=true↔(∀d∈l,devOk d=true)∧l.Pairwise fun d e=>d.1<e.1:=by
 constructor
 ·intro h
  refine⟨fun d hd=>chain_mem h d hd,?_⟩
  have:=(chain_pair (fun a b c h1 h2=>by unfold devLt at *;simp only[decide_eq_true_eq]at *;omega) h).2
  exact this.imp fun h=>by unfold devLt at h;simpa using h
 ·rintro⟨h1,h2⟩
  exact chain_of h1 (fun d hd=>by cases hd) (h2.imp fun h=>by unfold devLt;simpa using h)
theorem pair_ids {l m:List Dev} (h:l.map (·.1)=m.map (·.1)) (hp:l.Pairwise fun d e=>d.1<e.1):m.Pairwise fun d e=>d.1<e.1:=by
 have h1:(l.map (·.1)).Pairwise (· < ·):=List.pairwise_map.2 hp
 rw[h]at h1
 exact List.pairwise_map.1 h1
theorem set_ids {l:List Dev} {k:Nat} {d d':Dev} (hg:l[k]? = some d) (hd:d'.1=d.1):(l.set k d').map (·.1)=l.map (·.1):=by
 rw[List.map_set]
 apply List.ext_getElem?
 intro j
 rw[List.getElem?_set]
 split
 ·rename_i e;subst e
  rw[List.getElem?_map,hg]
  have:=getE_bound hg
  simp[this,hd]
 ·rfl
theorem roster_set {l:List Dev} {k:Nat} {d d':Dev} (hs:rosterOk l=true) (hg:l[k]? = some d) (hd:d'.1=d.1) (hok:devOk d'=true):rosterOk (l.set k d')=true:=by
 obtain⟨h1,h2⟩:=(roster_iff l).1 hs
 refine(roster_iff _).2 ⟨fun e he=>?_,pair_ids (set_ids hg hd).symm h2⟩
 rcases List.mem_or_eq_of_mem_set he with h|rfl
 ·exact h1 e h
 ·exact hok
theorem accept_ok {l:List Dev} {id rq:Int} (hl:l.length≤2^36) (hs:rosterOk l=true):rosterOk (acceptS l id rq).1=true∧(acceptS l id rq).1.length=l.length:=by
 unfold acceptS
 cases hf:findDev l id with
 |none=>exact⟨hs,rfl⟩
 |some d=>
  simp only
  obtain⟨hg,hd⟩:=find_place hl hs hf
  have hok:=chain_mem hs d (List.mem_of_getElem? hg)
  unfold devOk at hok
  rw[decide_eq_true_eq]at hok
  split
  ·exact⟨hs,rfl⟩
  ·split
   ·exact⟨hs,rfl⟩
   ·refine⟨roster_set hs hg rfl ?_,by simp⟩
    unfold devOk
    rw[decide_eq_true_eq]
    simp only
    omega
def moveS (s:Stt) (to:Int):Stt×Int:=if 1099511627776≤s.1 then (s,16) else ((s.1+1,to,s.2.2.1,s.2.2.2.1,[]),0)
def whomS (s:Stt) (id:Int):Int:=if id = -1 then 0 else if id<0∨16≤id then 1 else thereS s.2.2.2.1 id
def withR (s:Stt) (l:List Dev):Stt:=(s.1,s.2.1,s.2.2.1,l,s.2.2.2.2)
def issueS (s:Stt) (o:Opr):Stt×Int:=
 if s.2.1≠o.2.1 then (s,10) else if whomS s o.2.2.2.2.1≠0 then (s,whomS s o.2.2.2.2.1) else if 281474976710656≤s.2.2.1 then (s,16)
 else if (issueT (liveS s.2.2.2.2 o.2.2.2.2.2.2) (s.2.2.1,o.2.2.2.2.1,o.2.2.2.2.2.1)).2≠0 then (s,(issueT (liveS s.2.2.2.2 o.2.2.2.2.2.2) (s.2.2.1,o.2.2.2.2.1,o.2.2.2.2.2.1)).2)
 else ((s.1,s.2.1,s.2.2.1+1,s.2.2.2.1,(issueT (liveS s.2.2.2.2 o.2.2.2.2.2.2) (s.2.2.1,o.2.2.2.2.1,o.2.2.2.2.2.1)).1),0)
def revokeSt (s:Stt) (id:Int):Stt×Int:=
 if (revokeS s.2.2.2.1 id).2≠0 then (s,(revokeS s.2.2.2.1 id).2) else if s.2.1=id then moveS (withR s (revokeS s.2.2.2.1 id).1) (-1) else (withR s (revokeS s.2.2.2.1 id).1,0)
def askedS (s:Stt) (o:Opr):Stt×Int:=
 if (acceptS s.2.2.2.1 o.2.1 o.2.2.1).2≠0 then (s,(acceptS s.2.2.2.1 o.2.1 o.2.2.1).2) else if o.1=3 then issueS (withR s (acceptS s.2.2.2.1 o.2.1 o.2.2.1).1) o
 else if o.1=4∧useT s.2.2.2.2 o.2.2.2.1 o.2.1 o.2.2.2.2.2.2≠0 then (withR s (acceptS s.2.2.2.1 o.2.1 o.2.2.1).1,useT s.2.2.2.2 o.2.2.2.1 o.2.1 o.2.2.2.2.2.2) else moveS (withR s (acceptS s.2.2.2.1 o.2.1 o.2.2.1).1) o.2.1
def tryS (s:Stt) (o:Opr):Stt×Int:=
 if o.1=1 then (withR s (enrolS s.2.2.2.1 o.2.1).1,(enrolS s.2.2.2.1 o.2.1).2) else if o.1=2 then revokeSt s o.2.1 else if o.1=3∨o.1=4∨o.1=5 then askedS s o else if o.1=6 then moveS s (-1) else (s,7)
def doS (s:Stt) (o:Opr):Stt×Int:=if (tryS s o).2≠0 then (s,(tryS s o).2) else tryS s o
def fit (s:Stt):Prop:=rosterOk s.2.2.2.1=true∧s.2.2.2.1.length≤2^30∧s.2.2.2.2.length≤2^30∧(-1125899906842624≤s.1∧s.1≤1125899906842624)∧(-1125899906842624≤s.2.2.1∧s.2.2.1≤1125899906842624)
theorem move_eq (s:Stt) (to:Int) (h:-1125899906842624≤s.1∧s.1≤1125899906842624):O_claim_State_move (s,to)=some (moveS s to):=by
 unfold O_claim_State_move moveS
 by_cases h1:1099511627776≤s.1
 ·simp[h1]
 ·rw[if_neg h1,w64 (by simp only;omega) (by simp only;omega)]
  simp[h1]
theorem whom_eq (s:Stt) (id:Int) (hl:s.2.2.2.1.length≤2^36) (hs:rosterOk s.2.2.2.1=true):F_claim_State_whom (s,id)=some (whomS s id):=by
 unfold F_claim_State_whom whomS thereS
 by_cases h1:id = -1
 ·simp[h1]
 ·have h1':(id== -1)=false:=by simpa using h1
  simp only[h1',h1,if_false,cond_false]
  by_cases h2:id<0
  ·simp[h2]
  ·by_cases h3:16≤id
   ·simp[h2,h3]
   ·simp only[h2,h3,decide_false,beq_self_eq_true,cond_true,show ¬id≥16 from h3,Option.bind_some,cond_false,false_or,if_false,find_eq _ id hl hs]
    cases findDev s.2.2.2.1 id with
    |none=>rfl
    |some d=>cases hd:d.2.2.1<;>simp[hd]
theorem live_len (l:List Tkt) (now:Int):(liveS l now).length≤l.length:=List.length_filter_le ..
theorem issueSt_eq (s:Stt) (o:Opr) (h:fit s):O_claim_State_issue (s,o)=some (issueS s o):=by
 obtain⟨h1,h2,h3,h4,h5⟩:=h
 unfold O_claim_State_issue issueS
 by_cases c1:s.2.1=o.2.1
 ·have c1':(s.2.1 != o.2.1)=false:=by simpa using c1
  simp only[c1',c1,ne_eq,not_true,if_false,cond_false,whom_eq s o.2.2.2.2.1 (by omega) h1,Option.bind_some]
  by_cases c2:whomS s o.2.2.2.2.1=0
  ·simp only[c2,bne_self_eq_false,cond_false,not_true,if_false]
   by_cases c3:281474976710656≤s.2.2.1
   ·simp[c3]
   ·simp only[c3,decide_false,cond_false,if_false,show ¬s.2.2.1≥281474976710656 from c3,live_eq _ _ (show s.2.2.2.2.length≤2^36 by omega),Option.bind_some]
    rw[issue_eq _ _ (by have:=live_len s.2.2.2.2 o.2.2.2.2.2.2;omega)]
    simp only[Option.bind_some]
    rw[w64 (by omega) (by omega)]
    by_cases c4:(issueT (liveS s.2.2.2.2 o.2.2.2.2.2.2) (s.2.2.1,o.2.2.2.2.1,o.2.2.2.2.2.1)).2=0
    ·simp[c4,←c1]
    ·have:((issueT (liveS s.2.2.2.2 o.2.2.2.2.2.2) (s.2.2.1,o.2.2.2.2.1,o.2.2.2.2.2.1)).2 != 0)=true:=by simpa using c4
     simp[c4,this]
  ·have:(whomS s o.2.2.2.2.1 != 0)=true:=by simpa using c2
   simp[c2,this]
 ·have:(s.2.1 != o.2.1)=true:=by simpa using c1
  simp[c1,this]
theorem revokeSt_eq (s:Stt) (id:Int) (h:fit s):O_claim_State_revoke (s,id)=some (revokeSt s id):=by
 obtain⟨h1,h2,h3,h4,h5⟩:=h
 unfold O_claim_State_revoke revokeSt withR
 simp only[revoke_eq _ id (show s.2.2.2.1.length≤2^36 by omega) h1,Option.bind_some]
 by_cases c1:(revokeS s.2.2.2.1 id).2=0
 ·simp only[c1,bne_self_eq_false,cond_false,ne_eq,not_true,if_false]
  by_cases c2:s.2.1=id
  ·simp only[c2,beq_self_eq_true,cond_true,if_true]
   rw[move_eq _ _ (by exact h4)];rfl
  ·have:(s.2.1==id)=false:=by simpa using c2
   simp[c2,this]
 ·have:((revokeS s.2.2.2.1 id).2 != 0)=true:=by simpa using c1
  simp[c1,this]
theorem asked_eq (s:Stt) (o:Opr) (h:fit s):O_claim_State_asked (s,o)=some (askedS s o):=by
 obtain⟨h1,h2,h3,h4,h5⟩:=h
 unfold O_claim_State_asked askedS withR
 simp only[accept_eq _ o.2.1 o.2.2.1 (show s.2.2.2.1.length≤2^36 by omega) h1,Option.bind_some]
 obtain⟨a1,a2⟩:=accept_ok (id:=o.2.1) (rq:=o.2.2.1) (show s.2.2.2.1.length≤2^36 by omega) h1
 by_cases c1:(acceptS s.2.2.2.1 o.2.1 o.2.2.1).2=0
 ·simp only[c1,bne_self_eq_false,cond_false,ne_eq,not_true,if_false]
  by_cases c2:o.1=3
  ·simp only[c2,beq_self_eq_true,cond_true,if_true]
   rw[issueSt_eq _ _ (by exact⟨a1,by simp only;omega,h3,h4,h5⟩)]
   rfl
  ·have c2':(o.1==3)=false:=by simpa using c2
   simp only[c2',c2,cond_false,if_false]
   by_cases c3:o.1=4
   ·simp only[c3,beq_self_eq_true,cond_true,true_and,use_eq _ _ _ _ (show s.2.2.2.2.length≤2^36 by omega),Option.bind_some]
    by_cases c4:useT s.2.2.2.2 o.2.2.2.1 o.2.1 o.2.2.2.2.2.2=0
    ·simp only[c4,bne_self_eq_false,cond_false,not_true,if_false,Option.bind_some]
     rw[move_eq _ _ (by exact h4)];rfl
    ·have:(useT s.2.2.2.2 o.2.2.2.1 o.2.1 o.2.2.2.2.2.2 != 0)=true:=by simpa using c4
     simp[c4,this]
   ·have c3':(o.1==4)=false:=by simpa using c3
    simp only[c3',c3,cond_false,false_and,if_false,Option.bind_some]
    rw[move_eq _ _ (by exact h4)];rfl
 ·have:((acceptS s.2.2.2.1 o.2.1 o.2.2.1).2 != 0)=true:=by simpa using c1
  simp[c1,this]
end Go.Ideal.Seat
set_option linter.unusedVariables false
set_option linter.unusedSimpArgs false
namespace Go.Ideal.Seat
open Go.Ideal.Plain
theorem enrol_len (l:List Dev) (id:Int):(enrolS l id).1.length≤l.length+1:=by
 unfold enrolS
 split
 ·simp
 ·split
  ·simp;omega
  ·split
   ·simp
   ·split<;>simp
theorem accept_len (l:List Dev) (id rq:Int):(acceptS l id rq).1.length=l.length:=by
 unfold acceptS
 split
 ·rfl
 ·split
  ·rfl
  ·split<;>simp
theorem revoke_len (l:List Dev) (id:Int):(revokeS l id).1.length=l.length:=by
 unfold revokeS
 split
 ·rfl
 ·split<;>simp
theorem issueT_len (l:List Tkt) (t:Tkt):(issueT l t).1.length≤l.length+1:=by
 unfold issueT
 split
 ·simp
 ·cases l.getLast? with
  |none=>
   simp only[Bool.false_eq_true,if_false]
   split<;>simp
  |some u=>
   simp only[decide_eq_true_eq]
   split
   ·simp
   ·split<;>simp
structure Near (s t:Stt):Prop where
 r:t.2.2.2.1.length≤s.2.2.2.1.length+1
 k:t.2.2.2.2.length≤s.2.2.2.2.length+1
 e:t.1=s.1∨t.1=s.1+1∧s.1<1099511627776
 n:t.2.2.1=s.2.2.1∨t.2.2.1=s.2.2.1+1∧s.2.2.1<281474976710656
theorem Near.refl (s:Stt):Near s s:=⟨by omega,by omega,.inl rfl,.inl rfl⟩
theorem move_near (s:Stt) (l:List Dev) (to:Int) (h:l.length=s.2.2.2.1.length):Near s (moveS (withR s l) to).1:=by
 unfold moveS withR
 split
 ·exact⟨by simp only;omega,by simp,.inl rfl,.inl rfl⟩
 ·rename_i h1
  simp only at h1
  exact⟨by simp only;omega,by simp,.inr ⟨rfl,by omega⟩,.inl rfl⟩
theorem try_near (s:Stt) (o:Opr):Near s (tryS s o).1:=by
 unfold tryS
 split
 ·exact⟨by simp only[withR];exact enrol_len _ _,by simp[withR],.inl rfl,.inl rfl⟩
 ·split
  ·unfold revokeSt
   split
   ·exact .refl s
   ·split
    ·exact move_near s _ _ (revoke_len _ _)
    ·exact⟨by simp only[withR];rw[revoke_len];omega,by simp[withR],.inl rfl,.inl rfl⟩
  ·split
   ·unfold askedS
    split
    ·exact .refl s
    ·split
     ·unfold issueS
      split
      ·exact⟨by simp only[withR];rw[accept_len];omega,by simp[withR],.inl rfl,.inl rfl⟩
      ·split
       ·exact⟨by simp only[withR];rw[accept_len];omega,by simp[withR],.inl rfl,.inl rfl⟩
       ·split
        ·exact⟨by simp only[withR];rw[accept_len];omega,by simp[withR],.inl rfl,.inl rfl⟩
        ·split
         ·exact⟨by simp only[withR];rw[accept_len];omega,by simp[withR],.inl rfl,.inl rfl⟩
         ·rename_i h3 h4
          refine⟨by simp only[withR];rw[accept_len];omega,?_,.inl rfl,.inr ⟨rfl,by simp only[withR]at h3;omega⟩⟩
          simp only[withR]
          exact Nat.le_trans (issueT_len _ _) (Nat.succ_le_succ (live_len _ _))
     ·split
      ·exact⟨by simp only[withR];rw[accept_len];omega,by simp[withR],.inl rfl,.inl rfl⟩
      ·exact move_near s _ _ (accept_len _ _ _)
   ·split
    ·exact move_near s s.2.2.2.1 _ rfl
    ·exact .refl s
theorem do_near (s:Stt) (o:Opr):Near s (doS s o).1:=by
 unfold doS
 split
 ·exact .refl s
 ·exact try_near s o
theorem do_eq (s:Stt) (o:Opr) (h:fit s):O_claim_Do (s,o)=some (doS s o):=by
 have hn:=do_near s o
 have hf:=h
 obtain⟨h1,h2,h3,h4,h5⟩:=h
 have key:∀(r:Stt×Int),r=tryS s o→((bif (r.2 != 0) then (some s) else (some r.1)).bind fun v57=>((O_slices_Clone_roster_Device_roster_Device v57.2.2.2.1).bind fun r58=>((O_slices_Clone_ticket_Ticket_ticket_Ticket v57.2.2.2.2).bind fun r59=>(some ((v57.1,(v57.2.1,(v57.2.2.1,(r58,r59)))),r.2)))))=some (doS s o):=by
  rintro r rfl
  unfold doS at hn ⊢
  by_cases c:(tryS s o).2=0
  ·simp only[c,bne_self_eq_false,cond_false,ne_eq,not_true,if_false,Option.bind_some]at hn ⊢
   rw[cloneD_eq _ (by have:=hn.r;omega),Option.bind_some,cloneT_eq _ (by have:=hn.k;omega),Option.bind_some]
   rw[←c]
  ·have c':((tryS s o).2 != 0)=true:=by simpa using c
   simp only[c',cond_true,Option.bind_some]
   rw[if_pos c,cloneD_eq _ (by omega),Option.bind_some,cloneT_eq _ (by omega)]
   rfl
 unfold O_claim_Do
 have fin:∀{x:Option (Int×Int×Int×List Dev×List Tkt×Int)},x=some ((tryS s o).1.1,(tryS s o).1.2.1,(tryS s o).1.2.2.1,(tryS s o).1.2.2.2.1,(tryS s o).1.2.2.2.2,(tryS s o).2)→
  (x.bind fun v56=>((bif (v56.2.2.2.2.2 != 0) then (some s) else (some (v56.1,(v56.2.1,(v56.2.2.1,(v56.2.2.2.1,v56.2.2.2.2.1)))))).bind fun v57=>((O_slices_Clone_roster_Device_roster_Device v57.2.2.2.1).bind fun r58=>((O_slices_Clone_ticket_Ticket_ticket_Ticket v57.2.2.2.2).bind fun r59=>(some ((v57.1,(v57.2.1,(v57.2.2.1,(r58,r59)))),v56.2.2.2.2.2))))))=some (doS s o):=by
  rintro x rfl
  exact key (tryS s o) rfl
 refine fin ?_
 unfold tryS
 by_cases c1:o.1=1
 ·simp[c1,enrol_eq _ o.2.1 (show s.2.2.2.1.length≤2^36 by omega) h1,withR]
 ·have c1':(o.1==1)=false:=by simpa using c1
  simp only[c1',c1,cond_false,if_false]
  by_cases c2:o.1=2
  ·simp only[c2,beq_self_eq_true,cond_true,if_true,revokeSt_eq s o.2.1 hf,Option.bind_some]
  ·have c2':(o.1==2)=false:=by simpa using c2
   simp only[c2',c2,cond_false,if_false]
   by_cases c3:o.1=3
   ·simp only[c3,beq_self_eq_true,cond_true,true_or,if_true,asked_eq s o hf,Option.bind_some]
   ·have c3':(o.1==3)=false:=by simpa using c3
    simp only[c3',c3,cond_false,false_or]
    by_cases c4:o.1=4
    ·simp only[c4,beq_self_eq_true,cond_true,true_or,if_true,asked_eq s o hf,Option.bind_some]
    ·have c4':(o.1==4)=false:=by simpa using c4
     simp only[c4',c4,cond_false,false_or]
     by_cases c5:o.1=5
     ·simp only[c5,beq_self_eq_true,cond_true,if_true,asked_eq s o hf,Option.bind_some]
     ·have c5':(o.1==5)=false:=by simpa using c5
      simp only[c5',c5,cond_false,if_false,Option.bind_some]
      by_cases c6:o.1=6
      ·simp only[c6,beq_self_eq_true,cond_true,if_true,move_eq s (-1) h4,Option.bind_some]
      ·have c6':(o.1==6)=false:=by simpa using c6
       simp only[c6',c6,cond_false,if_false]
end Go.Ideal.Seat
set_option linter.unusedVariables false
set_option linter.unusedSimpArgs false
namespace Go.Ideal.Seat
open Go.Ideal.Plain
theorem enrol_ok {l:List Dev} {id:Int} (hl:l.length≤2^36) (hs:rosterOk l=true):rosterOk (enrolS l id).1=true:=by
 unfold enrolS
 split
 ·exact hs
 ·rename_i hid
  obtain⟨h1,h2⟩:=(roster_iff l).1 hs
  cases hf:findDev l id with
  |none=>
   simp only
   obtain⟨_,hk,h3⟩:=place_eq l id hl (roster_sorted hs)
   have ht:∀e∈l.take (placeOf l id),e.1<id:=fun e he=>by
    have:l.take (placeOf l id)=l.takeWhile fun d=>decide (d.1<id):=by
     unfold placeOf
     exact(List.prefix_iff_eq_take.1 (List.takeWhile_prefix _)).symm
    rw[this]at he
    simpa using List.all_eq_true.1 (List.all_takeWhile (p:=fun d:Dev=>decide (d.1<id)) (l:=l)) e he
   have hd:∀e∈l.drop (placeOf l id),id<e.1:=fun e he=>by
    have hne:∀d∈l,d.1≠id:=fun d hd=>by
     have:=List.find?_eq_none.1 hf d hd
     simpa using this
    obtain⟨j,hj⟩:=List.mem_iff_getElem?.1 he
    rw[List.getElem?_drop]at hj
    have hel:=List.mem_of_getElem? hj
    have hjl:=getE_bound hj
    have hpl:placeOf l id<l.length:=by omega
    have hg:=List.getElem?_eq_getElem hpl
    have hge:id≤l[placeOf l id].1:=by
     have hnot:¬(fun d:Dev=>decide (d.1<id)) l[placeOf l id]=true:=by
      intro hlt
      have hpre:(l.takeWhile fun d=>decide (d.1<id))++(l.dropWhile fun d=>decide (d.1<id))=l:=List.takeWhile_append_dropWhile
      have hdw:(l.dropWhile fun d=>decide (d.1<id))=l.drop (placeOf l id):=by
       have h9:=congrArg (List.drop (placeOf l id)) hpre
       rw[List.drop_append_of_le_length (by unfold placeOf;exact Nat.le_refl _)]at h9
       unfold placeOf at h9 ⊢
       rw[List.drop_length,List.nil_append]at h9
       exact h9
      have hh:=List.head?_dropWhile_not (p:=fun d:Dev=>decide (d.1<id)) (l:=l)
      rw[hdw,List.head?_drop,hg]at hh
      simp only at hh
      have hlt':decide (l[placeOf l id].1<id)=true:=hlt
      rw[hlt']at hh;cases hh
     simpa using hnot
    by_cases hj0:j=0
    ·subst hj0
     rw[Nat.add_zero,hg]at hj;injection hj with hj
     have:=hne e hel
     rw[hj]at hge;omega
    ·have:=roster_sorted hs (placeOf l id) (placeOf l id+j) _ e (by omega) hg hj
     omega
   refine(roster_iff _).2 ⟨fun e he=>?_,?_⟩
   ·simp only[List.mem_append,List.mem_singleton]at he
    rcases he with (he|he)|he
    ·exact h1 e (List.mem_of_mem_take he)
    ·subst he
     unfold devOk
     rw[decide_eq_true_eq]
     simp only
     omega
    ·exact h1 e (List.mem_of_mem_drop he)
   ·rw[List.append_assoc,List.pairwise_append]
    refine⟨h2.sublist (List.take_sublist _ _),?_,fun a ha b hb=>?_⟩
    ·rw[List.singleton_append,List.pairwise_cons]
     exact⟨fun e he=>hd e he,h2.sublist (List.drop_sublist _ _)⟩
    ·simp only[List.singleton_append,List.mem_cons]at hb
     rcases hb with rfl|hb
     ·exact ht a ha
     ·have:=ht a ha;have:=hd b hb;omega
  |some d=>
   simp only
   obtain⟨hg,hd⟩:=find_place hl hs hf
   have hok:=chain_mem hs d (List.mem_of_getElem? hg)
   unfold devOk at hok
   rw[decide_eq_true_eq]at hok
   split
   ·exact hs
   ·split
    ·exact hs
    ·refine roster_set hs hg hd.symm ?_
     unfold devOk
     rw[decide_eq_true_eq]
     simp only
     omega
theorem revoke_ok {l:List Dev} {id:Int} (hl:l.length≤2^36) (hs:rosterOk l=true):rosterOk (revokeS l id).1=true:=by
 unfold revokeS
 cases hf:findDev l id with
 |none=>exact hs
 |some d=>
  simp only
  obtain⟨hg,hd⟩:=find_place hl hs hf
  have hok:=chain_mem hs d (List.mem_of_getElem? hg)
  split
  ·exact hs
  ·exact roster_set hs hg rfl hok
structure Kept (s t:Stt):Prop where
 r:rosterOk t.2.2.2.1=true
 k:∀x∈t.2.2.2.2,x∈s.2.2.2.2∨x.1=s.2.2.1
 n:s.2.2.1≤t.2.2.1
theorem Kept.refl {s:Stt} (h:rosterOk s.2.2.2.1=true):Kept s s:=⟨h,fun x hx=>.inl hx,Int.le_refl _⟩
end Go.Ideal.Seat
set_option linter.unusedVariables false
set_option linter.unusedSimpArgs false
namespace Go.Ideal.Seat
open Go.Ideal.Plain
theorem place_split (l:List Dev) (id:Int):l.take (placeOf l id)=(l.takeWhile fun d=>decide (d.1<id))∧l.drop (placeOf l id)=l.dropWhile fun d=>decide (d.1<id):=by
 have hpre:(l.takeWhile fun d=>decide (d.1<id))++(l.dropWhile fun d=>decide (d.1<id))=l:=List.takeWhile_append_dropWhile
 refine⟨(List.prefix_iff_eq_take.1 (List.takeWhile_prefix _)).symm,?_⟩
 have h9:=congrArg (List.drop (placeOf l id)) hpre
 rw[List.drop_append_of_le_length (by unfold placeOf;exact Nat.le_refl _)]at h9
 unfold placeOf at h9 ⊢
 rw[List.drop_length,List.nil_append]at h9
 exact h9.symm
def stepW (d:Dev) (a:List Dev×Bool) (e:Dev):List Dev×Bool:=
 if (!a.2&&decide (e.1≥d.1))=true then (if e.1=d.1 then (a.1++[d],true) else (a.1++[d]++[e],true)) else (if e.1=d.1 then a else (a.1++[e],a.2))
theorem stepW_lt (d:Dev):∀(l:List Dev) (o:List Dev),(∀e∈l,e.1<d.1)→l.foldl (stepW d) (o,false)=(o++l,false)
 |[],o,_=>by simp
 |e::l,o,h=>by
  have h1:=h e (List.mem_cons_self ..)
  rw[List.foldl_cons,show stepW d (o,false) e=(o++[e],false) by
   unfold stepW
   have:¬e.1≥d.1:=by omega
   have h2:¬e.1=d.1:=by omega
   simp[this,h2],stepW_lt d l _ fun x hx=>h x (List.mem_cons_of_mem _ hx)]
  simp
theorem stepW_true (d:Dev):∀(l:List Dev) (o:List Dev),l.foldl (stepW d) (o,true)=(o++l.filter (fun e=>!decide (e.1=d.1)),true)
 |[],o=>by simp
 |e::l,o=>by
  rw[List.foldl_cons]
  by_cases h:e.1=d.1
  ·rw[show stepW d (o,true) e=(o,true) by unfold stepW;simp[h],stepW_true d l]
   simp[h]
  ·rw[show stepW d (o,true) e=(o++[e],true) by unfold stepW;simp[h],stepW_true d l]
   simp[h]
def withS (l:List Dev) (d:Dev):List Dev:=l.take (placeOf l d.1)++[d]++(l.drop (placeOf l d.1)).filter fun e=>!decide (e.1=d.1)
theorem room33 {n:Nat} (h:n≤2^37):(n+1)*(32+1)≤most∧(n+1+1)*(32+1)≤most:=by
 unfold most;omega
theorem with_eq (l:List Dev) (d:Dev) (hl:l.length≤2^36):F_batonref25_with (l,d)=some (withS l d):=by
 unfold F_batonref25_with
 rw[foldLoop (l:=l) (fun(a:List Dev×Bool) i=>(a.1,a.2,i)) (stepW d) (fun i a=>a.1.length≤i+a.2.toNat) (fin:=fun a=>(a.1,a.2,(l.length:Int),false)) (a:=([],false)) (by simp) (fun a i e he hi hv=>?_) (fun a hv=>by simp)]
 ·obtain⟨h1,h2⟩:=place_split l d.1
  have hsplit:l=l.take (placeOf l d.1)++l.drop (placeOf l d.1):=(List.take_append_drop _ _).symm
  have hlt:∀e∈l.take (placeOf l d.1),e.1<d.1:=fun e he=>by
   rw[h1]at he
   simpa using List.all_eq_true.1 (List.all_takeWhile (p:=fun x:Dev=>decide (x.1<d.1)) (l:=l)) e he
  have hfold:l.foldl (stepW d) ([],false)=(l.drop (placeOf l d.1)).foldl (stepW d) (l.take (placeOf l d.1),false):=by
   conv=>lhs;rw[hsplit]
   rw[List.foldl_append,stepW_lt d _ _ hlt,List.nil_append]
  rw[hfold]
  have hk:placeOf l d.1≤l.length:=by
   unfold placeOf
   exact(List.takeWhile_prefix _).length_le
  have hm:(l.length+1)*(32+1)≤most:=by unfold most;omega
  cases hd:l.drop (placeOf l d.1) with
  |nil=>
   unfold withS
   rw[hd]
   have hkl:l.length≤placeOf l d.1:=List.drop_eq_nil_iff.1 hd
   rw[List.take_of_length_le hkl]
   simp only[List.foldl_nil,Option.bind_some,Bool.not_false,cond_true,List.length_cons,List.length_nil,Nat.zero_add,hm,decide_true,List.filter_nil,List.append_nil]
  |cons e r=>
   have hge:e.1≥d.1:=by
    have hh:=List.head?_dropWhile_not (p:=fun x:Dev=>decide (x.1<d.1)) (l:=l)
    rw[←h2,hd]at hh
    simp only[List.head?_cons]at hh
    simp at hh
    omega
   unfold withS
   rw[hd,List.foldl_cons]
   by_cases heq:e.1=d.1
   ·rw[show stepW d (l.take (placeOf l d.1),false) e=(l.take (placeOf l d.1)++[d],true) by unfold stepW;simp[heq],stepW_true]
    simp[heq]
   ·rw[show stepW d (l.take (placeOf l d.1),false) e=(l.take (placeOf l d.1)++[d]++[e],true) by unfold stepW;simp[heq,hge],stepW_true]
    simp[heq]
 ·have hi':(i:Int)<(l.length:Int):=by omega
  obtain⟨hm1,hm2⟩:=room33 (n:=a.1.length) (show a.1.length≤2^37 by have:=Bool.toNat_le a.2;omega)
  obtain⟨o,b⟩:=a
  simp only at hm1 hm2 hv
  generalize most=M at hm1 hm2 ⊢
  simp only[hi',decide_true,cond_true,Int.natCast_nonneg,Int.toNat_natCast,he,Option.bind_some,wsucc (show i<2^62 by omega)]
  unfold stepW
  cases b with
  |true=>
   simp only[Bool.toNat_true]at hv
   by_cases h1:e.1=d.1
   ·have h1':(e.1 != d.1)=false:=by simpa using h1
    simp[h1,h1'];omega
   ·have h1':(e.1 != d.1)=true:=by simpa using h1
    simp[h1,h1',hm1];omega
  |false=>
   simp only[Bool.toNat_false,Nat.add_zero]at hv
   by_cases h2:e.1≥d.1
   ·by_cases h1:e.1=d.1
    ·have h1':(e.1 != d.1)=false:=by simpa using h1
     simp[h1,h1',hm1,h2];omega
    ·have h1':(e.1 != d.1)=true:=by simpa using h1
     simp[h1,h1',hm1,hm2,h2]
     omega
   ·have h1:¬e.1=d.1:=by omega
    have h1':(e.1 != d.1)=true:=by simpa using h1
    simp[h1,h1',hm1,h2];omega
theorem with_new {l:List Dev} {d:Dev} (hf:findDev l d.1=none):withS l d=l.take (placeOf l d.1)++[d]++l.drop (placeOf l d.1):=by
 unfold withS
 rw[List.filter_eq_self.2 fun e he=>?_]
 have:=List.find?_eq_none.1 hf e (List.mem_of_mem_drop he)
 simpa using this
theorem with_old {l:List Dev} {d e:Dev} (hl:l.length≤2^36) (hs:rosterOk l=true) (hf:findDev l d.1=some e):withS l d=l.set (placeOf l d.1) d:=by
 obtain⟨hg,hd⟩:=find_place hl hs hf
 have hlt:=getE_bound hg
 have he:l[placeOf l d.1]=e:=(List.getElem?_eq_some_iff.1 hg).2
 unfold withS
 rw[List.set_eq_take_append_cons_drop,if_pos hlt,List.drop_eq_getElem_cons hlt,he,List.filter_cons]
 simp only[hd,decide_true,Bool.not_true,Bool.false_eq_true,if_false,List.append_assoc,List.singleton_append]
 rw[List.filter_eq_self.2 fun x hx=>?_]
 obtain⟨j,hj⟩:=List.mem_iff_getElem?.1 hx
 rw[List.getElem?_drop]at hj
 have:=roster_sorted hs (placeOf l d.1) (placeOf l d.1+1+j) e x (by omega) hg hj
 simp;omega
theorem refFind_eq (l:List Dev) (id:Int) (hl:l.length≤2^36) (hs:rosterOk l=true):F_batonref25_Find (l,id)=some (match findDev l id with|some _=>((placeOf l id:Nat):Int)|none=>-1):=by
 unfold F_batonref25_Find
 rw[allIdx (l:=l) (fun d=>!(d.1==id)) (z:=((l.length:Int),false)) (fun i e he=>?_) (by simp)]
 ·cases hf:findDev l id with
  |none=>
   have:(l.all fun d=>!(d.1==id))=true:=by
    rw[List.all_eq_true]
    intro d hd
    have:=List.find?_eq_none.1 hf d hd
    simpa using this
   rw[if_pos this];rfl
  |some d=>
   obtain⟨hg,hd⟩:=find_place hl hs hf
   have hlt:=getE_bound hg
   have he:l[placeOf l id]=d:=(List.getElem?_eq_some_iff.1 hg).2
   have hne:¬(l.all fun d=>!(d.1==id))=true:=by
    intro h
    rw[List.all_eq_true]at h
    have:=h d (List.mem_of_getElem? hg)
    simp[hd]at this
   rw[if_neg hne]
   have hx:l.findIdx (fun d=>!!(d.1==id))=placeOf l id:=by
    simp only[Bool.not_not]
    rw[List.findIdx_eq hlt]
    refine⟨by rw[he];simp[hd],fun j hj=>?_⟩
    have:=roster_sorted hs j (placeOf l id) _ d hj (List.getElem?_eq_getElem (by omega)) hg
    simp;omega
   simp only[hx]
   rfl
 ·have hi:=getE_bound he
  have hi':(i:Int)<(l.length:Int):=by omega
  simp only[hi',decide_true,cond_true,Int.natCast_nonneg,Int.toNat_natCast,he,Option.bind_some,wsucc (show i<2^62 by omega)]
  cases (e.1==id)<;>rfl
theorem refEnrol_eq (l:List Dev) (id:Int) (hl:l.length≤2^36) (hs:rosterOk l=true):O_batonref25_Enrol (l,id)=some (enrolS l id):=by
 unfold O_batonref25_Enrol enrolS
 simp only[refFind_eq l id hl hs,with_eq l _ hl]
 by_cases hid:id<0
 ·simp[hid]
 ·by_cases hid2:16≤id
  ·have:id>15:=by omega
   simp[hid,hid2,this]
  ·have h15:¬id>15:=by omega
   have:¬(id<0∨16≤id):=by omega
   rw[if_neg this]
   simp only[hid,h15,decide_false,beq_self_eq_true,cond_true,Option.bind_some,cond_false]
   cases hf:findDev l id with
   |none=>
    simp only[show decide ((-1:Int)<0)=true from rfl,cond_true]
    rw[with_new (d:=(id,1,false,0)) hf]
   |some d=>
    obtain⟨hg,hd⟩:=find_place hl hs hf
    have hlt:=getE_bound hg
    have he:l[placeOf l id]=d:=(List.getElem?_eq_some_iff.1 hg).2
    have hok:=chain_mem hs d (List.mem_of_getElem? hg)
    unfold devOk at hok
    rw[decide_eq_true_eq]at hok
    have hn:¬((placeOf l id:Nat):Int)<0:=by omega
    simp only[hn,decide_false,cond_false,Int.natCast_nonneg,decide_true,cond_true,Int.toNat_natCast,hg,Option.bind_some]
    cases hgone:d.2.2.1 with
    |false=>simp[hgone]
    |true=>
     simp only[hgone,Bool.not_true,cond_false,Bool.true_eq_false,if_false]
     by_cases ht:d.2.1=1000
     ·simp[ht]
     ·have ht':(d.2.1==1000)=false:=by simpa using ht
      have ht2:¬1000≤d.2.1:=by omega
      rw[ht',cond_false,if_neg ht2,w64 (by omega) (by omega),with_old (d:=(id,d.2.1+1,false,0)) hl hs hf]
theorem refRevoke_eq (l:List Dev) (id:Int) (hl:l.length≤2^36) (hs:rosterOk l=true):O_batonref25_Revoke (l,id)=some (revokeS l id):=by
 unfold O_batonref25_Revoke revokeS
 simp only[refThere_eq l id hl,refFind_eq l id hl hs,with_eq l _ hl,Option.bind_some]
 cases hf:findDev l id with
 |none=>simp
 |some d=>
  obtain⟨hg,hd⟩:=find_place hl hs hf
  have hlt:=getE_bound hg
  cases hgone:d.2.2.1 with
  |true=>simp[hgone]
  |false=>
   simp only[Bool.false_eq_true,if_false,hgone,bne_self_eq_false,cond_false,Int.natCast_nonneg,decide_true,cond_true,Int.toNat_natCast,hg,Option.bind_some]
   have hf':findDev l d.1=some d:=by rw[hd];exact hf
   rw[with_old (d:=(d.1,d.2.1,true,d.2.2.2)) hl hs hf']
   simp only[hd]
theorem refAccept_eq (l:List Dev) (id rq:Int) (hl:l.length≤2^36) (hs:rosterOk l=true):O_batonref25_Accept (l,id,rq)=some (acceptS l id rq):=by
 unfold O_batonref25_Accept acceptS
 simp only[refThere_eq l id hl,refFind_eq l id hl hs,with_eq l _ hl,Option.bind_some]
 cases hf:findDev l id with
 |none=>simp
 |some d=>
  obtain⟨hg,hd⟩:=find_place hl hs hf
  have hlt:=getE_bound hg
  cases hgone:d.2.2.1 with
  |true=>simp[hgone]
  |false=>
   simp only[Bool.false_eq_true,if_false,hgone,bne_self_eq_false,cond_false,Int.natCast_nonneg,decide_true,cond_true,Int.toNat_natCast,hg,Option.bind_some]
   by_cases h1:rq≤d.2.2.2
   ·simp[h1]
   ·by_cases h2:281474976710656<rq
    ·simp[h1,h2]
    ·have hf':findDev l d.1=some d:=by rw[hd];exact hf
     rw[with_old (d:=(d.1,d.2.1,false,rq)) hl hs hf']
     simp[h1,h2,hd]
theorem foldl_filter {α:Type} (p:α→Bool):∀(l o:List α),l.foldl (fun o e=>if p e=true then o++[e] else o) o=o++l.filter p
 |[],o=>by simp
 |e::l,o=>by
  rw[List.foldl_cons,foldl_filter p l]
  by_cases h:p e=true<;>simp[h]
theorem refLive_eq (l:List Tkt) (now:Int) (hl:l.length≤2^36):F_batonref26_Live (l,now)=some (liveS l now):=by
 unfold F_batonref26_Live
 rw[foldLoop (l:=l) (fun(o:List Tkt) i=>(o,i)) (fun o e=>if (!decide (e.2.2<now))=true then o++[e] else o) (fun i o=>o.length≤i) (fin:=fun o=>(o,(l.length:Int),false)) (a:=[]) (by simp) (fun o i e he hi hv=>?_) (fun o hv=>by simp)]
 ·rw[foldl_filter];simp[liveS]
 ·have hi':(i:Int)<(l.length:Int):=by omega
  have hm:(o.length+1)*(24+1)≤most:=by unfold most;omega
  simp only[hi',decide_true,cond_true,Int.natCast_nonneg,Int.toNat_natCast,he,Option.bind_some,wsucc (show i<2^62 by omega),List.length_cons,List.length_nil,Nat.zero_add,hm]
  by_cases h:e.2.2<now
  ·have:¬e.2.2≥now:=by omega
   simp[h,this];omega
  ·have:e.2.2≥now:=by omega
   simp[h,this];omega
def tSorted (l:List Tkt):Prop:=l.Pairwise fun s t=>s.1<t.1
theorem last_ge {l:List Tkt} (hs:tSorted l) {u:Tkt} (hu:l.getLast? = some u):∀t∈l,t.1≤u.1:=fun t ht=>by
 obtain⟨j,hj⟩:=List.mem_iff_getElem?.1 ht
 have hjl:=getE_bound hj
 rw[List.getLast?_eq_getElem?]at hu
 by_cases hjj:j=l.length-1
 ·subst hjj;rw[hj]at hu;injection hu with hu;rw[hu];omega
 ·have hgl:=getE_bound hu
  rw[List.getElem?_eq_getElem hjl]at hj
  rw[List.getElem?_eq_getElem hgl]at hu
  injection hj with hj;injection hu with hu
  have:=List.pairwise_iff_getElem.1 hs j _ hjl hgl (by omega)
  rw[hj,hu]at this;omega
theorem allOut {E Y X:Type} {l:List E} (p:E→Bool) (y:Y) {F:Int→Option (Int⊕(Y⊕X))} {z:X} (h1:∀(i:Nat) e,l[i]? = some e→F i=some (if p e=true then .inl ((i+1:Nat):Int) else .inr (.inl y)))
 (h2:F (l.length:Int)=some (.inr (.inr z))):iterL F 0=some (if l.all p=true then .inr z else .inl y):=by
 have key:∀(n i:Nat),i+n=l.length→iterL F (i:Int)=some (if (l.drop i).all p=true then .inr z else .inl y):=by
  intro n
  induction n with
  |zero=>
   intro i hi
   have:i=l.length:=by omega
   subst this
   rw[iterL_inr h2];simp
  |succ n ih=>
   intro i hi
   have hlt:i<l.length:=by omega
   have hf:=h1 i _ (List.getElem?_eq_getElem hlt)
   rw[List.drop_eq_getElem_cons hlt,List.all_cons]
   by_cases hp:p l[i]=true
   ·rw[if_pos hp]at hf
    rw[iterL_inl hf,hp,Bool.true_and]
    exact ih (i+1) (by omega)
   ·rw[if_neg hp]at hf
    rw[iterL_inr hf,(Bool.not_eq_true _).mp hp];simp
 have:=key l.length 0 (by omega)
 simpa using this
theorem refIssue_eq (l:List Tkt) (t:Tkt) (hl:l.length≤24) (hs:tSorted l):F_batonref26_Issue (l,t)=some (issueT l t):=by
 unfold F_batonref26_Issue issueT
 simp only[refOne_eq,Option.bind_some]
 cases hok:tktOk t with
 |false=>simp
 |true=>
  simp only[Bool.not_true,cond_false,Bool.true_eq_false,if_false]
  rw[allOut (l:=l) (fun u=>!decide (u.1≥t.1)) (l,(20:Int)) (z:=((l.length:Int),false)) (fun i e he=>?_) (by simp)]
  ·have hm:(0+l.length)*(24+1)≤most:=by unfold most;omega
   have hm2:(l.length+1)*(24+1)≤most:=by unfold most;omega
   have fin:(bif ((((l.length):Nat):Int)==24) then (some (l,(2:Int))) else (bif decide ((([]:List Tkt).length+l.length)*(24+1)≤most) then (bif decide (((([]:List Tkt)++l).length+([t]:List Tkt).length)*(24+1)≤most) then (some (((([]:List Tkt)++l)++([t]:List Tkt)),(0:Int))) else none) else none))=some (if 24≤l.length then (l,2) else (l++[t],0)):=by
    by_cases h24:24≤l.length
    ·have:(((l.length:Nat):Int)==24)=true:=by rw[beq_iff_eq];omega
     simp[h24,this]
    ·have:(((l.length:Nat):Int)==24)=false:=by rw[beq_eq_false_iff_ne];omega
     simp only[h24,this,cond_false,List.length_nil,List.nil_append,List.length_cons,Nat.zero_add,if_false]
     rw[Nat.zero_add]at hm
     rw[@decide_eq_true _ _ hm,@decide_eq_true _ _ hm2];rfl
   cases hg:l.getLast? with
   |none=>
    have:l=[]:=List.getLast?_eq_none_iff.1 hg
    subst this
    simp only[List.all_nil,if_true,Option.bind_some,Bool.false_eq_true,if_false]
    exact fin
   |some u=>
    by_cases hu:t.1≤u.1
    ·have hne:¬(l.all fun u=>!decide (u.1≥t.1))=true:=by
      intro h
      rw[List.all_eq_true]at h
      have:=h u (List.mem_of_getLast? hg)
      simp at this;omega
     rw[if_neg hne]
     simp[hu]
    ·have ha:(l.all fun u=>!decide (u.1≥t.1))=true:=by
      rw[List.all_eq_true]
      intro x hx
      have:=last_ge hs hg x hx
      simp;omega
     rw[if_pos ha]
     simp only[hu,decide_false,Bool.false_eq_true,if_false,Option.bind_some]
     exact fin
  ·have hi:=getE_bound he
   have hi':(i:Int)<(l.length:Int):=by omega
   simp only[hi',decide_true,cond_true,Int.natCast_nonneg,Int.toNat_natCast,he,Option.bind_some,wsucc (show i<2^62 by omega)]
   by_cases h:e.1≥t.1<;>simp[h]
theorem runFirst {E X:Type} {l:List E} (p:E→Bool) (v:E→Int) {F:Int→Option (Int⊕(Int⊕X))} {z:X} (h1:∀(i:Nat) e,l[i]? = some e→F i=some (if p e=true then .inr (.inl (v e)) else .inl ((i+1:Nat):Int)))
 (h2:F (l.length:Int)=some (.inr (.inr z))):iterL F 0=some (match l.find? p with|some e=>.inl (v e)|none=>.inr z):=by
 have key:∀(n i:Nat),i+n=l.length→iterL F (i:Int)=some (match (l.drop i).find? p with|some e=>.inl (v e)|none=>.inr z):=by
  intro n
  induction n with
  |zero=>
   intro i hi
   have:i=l.length:=by omega
   subst this
   rw[iterL_inr h2];simp
  |succ n ih=>
   intro i hi
   have hlt:i<l.length:=by omega
   have hf:=h1 i _ (List.getElem?_eq_getElem hlt)
   rw[List.drop_eq_getElem_cons hlt,List.find?_cons]
   by_cases hp:p l[i]=true
   ·rw[if_pos hp]at hf
    rw[iterL_inr hf,hp]
   ·rw[if_neg hp]at hf
    rw[iterL_inl hf,(Bool.not_eq_true _).mp hp]
    exact ih (i+1) (by omega)
 have:=key l.length 0 (by omega)
 simpa using this
theorem find_uniq {l:List Tkt} (hs:tSorted l) {t u:Tkt} (ht:t∈l) (hu:u∈l) (h:t.1=u.1):t=u:=by
 obtain⟨i,hi⟩:=List.mem_iff_getElem?.1 ht
 obtain⟨j,hj⟩:=List.mem_iff_getElem?.1 hu
 have hil:=getE_bound hi
 have hjl:=getE_bound hj
 rw[List.getElem?_eq_getElem hil]at hi
 rw[List.getElem?_eq_getElem hjl]at hj
 injection hi with hi;injection hj with hj
 rcases Nat.lt_trichotomy i j with h1|h1|h1
 ·have:=List.pairwise_iff_getElem.1 hs i j hil hjl h1;rw[hi,hj]at this;omega
 ·subst h1;rw[←hi,←hj]
 ·have:=List.pairwise_iff_getElem.1 hs j i hjl hil h1;rw[hi,hj]at this;omega
theorem refUse_eq (l:List Tkt) (no dev now:Int) (hl:l.length≤2^36) (hs:tSorted l) (ho:∀t∈l,tktOk t=true):F_batonref26_Use (l,no,dev,now)=some (useT l no dev now):=by
 unfold F_batonref26_Use useT
 simp only
 rw[runFirst (l:=l) (fun t=>decide (t.1=no)&&(decide (t.2.1 = -1)||decide (t.2.1=dev))) (fun t=>if t.2.2<now then 14 else 0) (z:=((l.length:Int),false)) (fun i e he=>?_) (by simp)]
 ·cases hf:l.find? (fun t=>t.1==no) with
  |none=>
   have:l.find? (fun t=>decide (t.1=no)&&(decide (t.2.1 = -1)||decide (t.2.1=dev)))=none:=by
    rw[List.find?_eq_none]
    intro t ht
    have:=List.find?_eq_none.1 hf t ht
    simp at this
    simp[this]
   rw[this];rfl
  |some t=>
   have htl:=List.mem_of_find?_eq_some hf
   have htn:=List.find?_some hf
   simp only[beq_iff_eq]at htn
   have hok:=ho t htl
   unfold tktOk at hok
   rw[decide_eq_true_eq]at hok
   by_cases hd:0≤t.2.1∧t.2.1≠dev
   ·have:l.find? (fun t=>decide (t.1=no)&&(decide (t.2.1 = -1)||decide (t.2.1=dev)))=none:=by
     rw[List.find?_eq_none]
     intro x hx
     simp only[Bool.and_eq_true,decide_eq_true_eq,Bool.or_eq_true,not_and]
     intro hxn
     have:=find_uniq hs hx htl (by omega)
     subst this
     omega
    rw[this]
    simp only[Option.bind_some]
    rw[if_pos hd]
   ·have hx:∃e,l.find? (fun t=>decide (t.1=no)&&(decide (t.2.1 = -1)||decide (t.2.1=dev)))=some e:=by
     rw[←Option.isSome_iff_exists,List.find?_isSome]
     refine⟨t,htl,?_⟩
     simp only[Bool.and_eq_true,decide_eq_true_eq,Bool.or_eq_true]
     exact⟨htn,by omega⟩
    obtain⟨e,hx⟩:=hx
    have hxs:=List.find?_some hx
    simp only[Bool.and_eq_true,decide_eq_true_eq]at hxs
    have:e=t:=find_uniq hs (List.mem_of_find?_eq_some hx) htl (by omega)
    rw[hx,this]
    simp only[Option.bind_some]
    rw[if_neg hd]
 ·have hi:=getE_bound he
  have hi':(i:Int)<(l.length:Int):=by omega
  simp only[hi',decide_true,cond_true,Int.natCast_nonneg,Int.toNat_natCast,he,Option.bind_some,wsucc (show i<2^62 by omega)]
  by_cases h1:e.1=no
  ·have h1':(e.1 != no)=false:=by simpa using h1
   by_cases h2:e.2.1 = -1
   ·have h2':(e.2.1 != -1)=false:=by simpa using h2
    by_cases h3:e.2.2<now<;>simp[h1,h1',h2,h2',h3]
   ·have h2':(e.2.1 != -1)=true:=by simpa using h2
    by_cases h4:e.2.1=dev
    ·have h4':(e.2.1 != dev)=false:=by simpa using h4
     by_cases h3:e.2.2<now<;>simp[h1,h1',h2,h2',h3,h4,h4']
    ·have h4':(e.2.1 != dev)=true:=by simpa using h4
     simp[h1,h1',h2,h2',h4,h4']
  ·have h1':(e.1 != no)=true:=by simpa using h1
   simp[h1,h1']
end Go.Ideal.Seat
