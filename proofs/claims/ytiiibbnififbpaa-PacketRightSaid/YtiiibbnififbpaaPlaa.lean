/- Loops and numbers: plain facts. -/
import Derived.Test.YtiiibbnififbpaaJc
import Derived.Test.YtiiibbnififbpaaSa
set_option linter.unusedVariables false
set_option linter.unusedSimpArgs false
set_option maxRecDepth 100000
namespace Go.Ideal.Plain
theorem w64 {x:Int} (h1:-9223372036854775808≤x) (h2:x≤9223372036854775807):IntKind.wrap .i64 x=x:=Go.IntWalk.i64_in _ ⟨h1,h2⟩
section
variable {S X A E:Type}
theorem allLoop {X:Type} {l:List E} (p:E->Bool) {F:Int->Option (Int⊕(Bool⊕X))} {z:X} (h1:∀(i:Nat) e,l[i]? = some e->F i=some (if p e=true then .inl ((i+1:Nat):Int) else .inr (.inl false)))
 (h2:F (l.length:Int)=some (.inr (.inr z))):cL F 0=some (if l.all p=true then .inr z else .inl false):=by
 rw[uC (l:=l) (mk:=fun(_:Unit) i=>i) (step:=fun _ _ e=>if p e=true then some (.inl ()) else some (.inr (.inl false))) (fin:=fun _=>some (.inr z)) (fun _ _=>True) ?_ (fun _ _ _ _ _ _ _=>trivial) ?_ trivial]
 ·have key:∀(r:List E) (i:Nat),sS (A:=Unit) (X:=Bool⊕X) (fun _ _ e=>if p e=true then some (.inl ()) else some (.inr (.inl false))) (fun _=>some (.inr z)) i () r=some (if r.all p=true then .inr z else .inl false):=by
   intro r
   induction r with
   |nil=>intro i;rfl
   |cons c r ih=>
    intro i
    simp only[sS]
    by_cases hc:p c=true
    ·have:(c::r).all p=r.all p:=by rw[gD,hc];rfl
     rw[if_pos hc,this]
     exact ih (i+1)
    ·have:(c::r).all p=false:=by rw[gD,(dT _).mp hc];rfl
     rw[if_neg hc,this];rfl
  exact key l 0
 ·intro _ i c hc _
  rw[h1 i c hc]
  by_cases hk:p c=true
  ·rw[if_pos hk,if_pos hk];rfl
  ·rw[if_neg hk,if_neg hk];rfl
 ·intro _ _;rw[h2];rfl
theorem sameLoop {X:Type} {l m:List E} (hl:l.length=m.length) (p:E->E->Bool) {F:Int->Option (Int⊕(Bool⊕X))} {z:X} (h1:∀(i:Nat) d e,l[i]? = some d->m[i]? = some e->F i=some (if p d e=true then .inl ((i+1:Nat):Int) else .inr (.inl false)))
 (h2:F (l.length:Int)=some (.inr (.inr z))):cL F 0=some (if (l.zip m).all (fun x=>p x.1 x.2)=true then .inr z else .inl false):=by
 refine allLoop (l:=l.zip m) (fun x=>p x.1 x.2) (fun i e he=>?_) ?_
 ·rw[Yu]at he
  exact h1 i e.1 e.2 he.1 he.2
 ·rw[List.length_zip,<-hl,Nat.min_self];exact h2
theorem zip_all_eq {l m:List E} (hl:l.length=m.length) {p:E×E->Bool} (hp:∀x,p x=true↔x.1=x.2):((l.zip m).all p=true)↔l=m:=by
 induction l generalizing m with
 |nil=>cases m<;>simp_all
 |cons a l ih=>
  cases m with
  |nil=>simp at hl
  |cons b m=>
   simp only[List.zip_cons_cons,gD,aF,hp,List.cons.injEq]
   rw[ih (by simpa using hl)]
end
end Go.Ideal.Plain
namespace Go.Ideal.Seat
open Go.Ideal.Plain
theorem condSome {α:Type} (c:Bool) (x y:α):(bif c then some x else some y)=some (bif c then x else y):=by cases c<;>rfl
theorem anyLoop {X E:Type} {l:List E} (p:E->Bool) {F:Int->Option (Int⊕(Bool⊕X))} {z:X} (h1:∀(i:Nat) e,l[i]? = some e->F i=some (if p e=true then .inr (.inl true) else .inl ((i+1:Nat):Int)))
 (h2:F (l.length:Int)=some (.inr (.inr z))):cL F 0=some (if l.any p=true then .inl true else .inr z):=by
 have key:∀(k i:Nat),i+k=l.length->cL F (i:Int)=some (if (l.drop i).any p=true then .inl true else .inr z):=by
  intro k
  induction k with
  |zero=>
   intro i hi
   have:i=l.length:=by omega
   subst this
   rw[fU h2];simp
  |succ k ih=>
   intro i hi
   have hlt:i<l.length:=by omega
   have hh:=h1 i _ (aG hlt)
   have hd:l.drop i=l[i]::l.drop (i+1):=gO hlt
   rw[hd,List.any_cons]
   by_cases hp:p l[i]=true
   ·rw[if_pos hp]at hh
    rw[fU hh,hp];rfl
   ·rw[if_neg hp]at hh
    rw[iN hh,ih (i+1) (by omega),(dT _).mp hp,lA]
 have:=key l.length 0 (by omega)
 simpa using this
theorem bdI (a b:Int):(a==b)=decide (a=b):=rfl
theorem pk_control (k:Int):F_packet_Control k=some (decide (7≤k/\k≤9)):=by
 unfold F_packet_Control
 by_cases h1:k≥7<;>by_cases h2:k≤9<;>simp[h1,h2]<;>omega
theorem pk_up (k:Int):F_packet_Up k=some (decide (k=1\/k=2\/k=5\/k=6\/k=7\/k=8)):=by
 unfold F_packet_Up
 by_cases h1:1≤k
 ·by_cases h2:k≤9
  ·have:k=1\/k=2\/k=3\/k=4\/k=5\/k=6\/k=7\/k=8\/k=9:=by omega
   rcases this with rfl|rfl|rfl|rfl|rfl|rfl|rfl|rfl|rfl<;>decide
  ·have:decide (k=1\/k=2\/k=5\/k=6\/k=7\/k=8)=false:=by simp;omega
   rw[this];simp[h1,h2]
 ·have:decide (k=1\/k=2\/k=5\/k=6\/k=7\/k=8)=false:=by simp;omega
  rw[this];simp[h1]
theorem pk_has (l:List Int) (f:Int) (h:l.length<100):F_batonref19_has (l,f)=some (l.any (· ==f)):=by
 unfold F_batonref19_has
 simp only[]
 rw[anyLoop (l:=l) (· ==f) (z:=((l.length:Int),false)) (fun i e he=>?_) ?_]
 ·by_cases hl:l.any (· ==f)=true
  ·rw[if_pos hl];simp[hl]
  ·rw[if_neg hl];simp[(dT _).mp hl]
 ·simp
 ·have hi:=gU he
  have w:IntKind.wrap .i64 ((i:Int)+1)=((i+1:Nat):Int):=by rw[w64 (by omega) (by omega)];omega
  have d1:decide ((i:Int)<(l.length:Int))=true:=by simp;omega
  have d2:decide ((0:Int)≤(i:Int))=true:=by simp
  simp only[d1,d2,cond_true,aP,he,aB,w]
  by_cases hp:(e==f)=true
  ·simp[hp]
  ·simp[hp]
def fieldsOf (x:Int):List Int:=
 bif x==1 then [0,1,2,3,100,4] else bif x==2 then [0,1,2,4] else bif x==3 then [0,1,2,5,6,100,7] else bif x==4 then [0,1,2,7] else bif x==5 then [0,1,2,8,9,10,4] else bif x==6 then [0,1,2,11,12,13] else bif x==7 then [0,1,2,11,14,101,9,10] else bif x==8 then [0,1,2,11,9,10] else bif x==9 then [0,1,2,11,15,16,14,101] else []
theorem pk_fields (x:Int):F_batonref19_Fields x=some (fieldsOf x):=by
 unfold F_batonref19_Fields fieldsOf
 simp only[condSome]
theorem fieldsOf_len (x:Int):(fieldsOf x).length<100:=by
 unfold fieldsOf
 simp only[qI]
 repeat' split
 all_goals decide
def leastOf (k f:Int):Int:=if (f=1/\k<7)\/f=2\/f=6\/f=8\/f=9\/f=10\/f=11\/(f=14/\k=7) then 1 else if f=12 then -1 else 0
theorem pk_least (k f:Int):F_batonref19_least (k,f)=some (leastOf k f):=by
 unfold F_batonref19_least leastOf
 by_cases f1:f=1
 ·subst f1;rcases Int.lt_or_le k 7 with k7|k7
  ·have k9:¬7≤k:=Int.not_le.mpr k7
   have k8:¬k=7:=by omega
   simp[bdI,k7,k8,k9]
  ·have k9:¬k<7:=Int.not_lt.mpr k7
   by_cases k8:k=7
   ·subst k8;rfl
   ·simp[bdI,k7,k8,k9]
 by_cases f2:f=2
 ·subst f2;rcases Int.lt_or_le k 7 with k7|k7
  ·have k9:¬7≤k:=Int.not_le.mpr k7
   have k8:¬k=7:=by omega
   simp[bdI,k7,k8,k9]
  ·have k9:¬k<7:=Int.not_lt.mpr k7
   by_cases k8:k=7
   ·subst k8;rfl
   ·simp[bdI,k7,k8,k9]
 by_cases f6:f=6
 ·subst f6;rcases Int.lt_or_le k 7 with k7|k7
  ·have k9:¬7≤k:=Int.not_le.mpr k7
   have k8:¬k=7:=by omega
   simp[bdI,k7,k8,k9]
  ·have k9:¬k<7:=Int.not_lt.mpr k7
   by_cases k8:k=7
   ·subst k8;rfl
   ·simp[bdI,k7,k8,k9]
 by_cases f8:f=8
 ·subst f8;rcases Int.lt_or_le k 7 with k7|k7
  ·have k9:¬7≤k:=Int.not_le.mpr k7
   have k8:¬k=7:=by omega
   simp[bdI,k7,k8,k9]
  ·have k9:¬k<7:=Int.not_lt.mpr k7
   by_cases k8:k=7
   ·subst k8;rfl
   ·simp[bdI,k7,k8,k9]
 by_cases f9:f=9
 ·subst f9;rcases Int.lt_or_le k 7 with k7|k7
  ·have k9:¬7≤k:=Int.not_le.mpr k7
   have k8:¬k=7:=by omega
   simp[bdI,k7,k8,k9]
  ·have k9:¬k<7:=Int.not_lt.mpr k7
   by_cases k8:k=7
   ·subst k8;rfl
   ·simp[bdI,k7,k8,k9]
 by_cases f10:f=10
 ·subst f10;rcases Int.lt_or_le k 7 with k7|k7
  ·have k9:¬7≤k:=Int.not_le.mpr k7
   have k8:¬k=7:=by omega
   simp[bdI,k7,k8,k9]
  ·have k9:¬k<7:=Int.not_lt.mpr k7
   by_cases k8:k=7
   ·subst k8;rfl
   ·simp[bdI,k7,k8,k9]
 by_cases f11:f=11
 ·subst f11;rcases Int.lt_or_le k 7 with k7|k7
  ·have k9:¬7≤k:=Int.not_le.mpr k7
   have k8:¬k=7:=by omega
   simp[bdI,k7,k8,k9]
  ·have k9:¬k<7:=Int.not_lt.mpr k7
   by_cases k8:k=7
   ·subst k8;rfl
   ·simp[bdI,k7,k8,k9]
 by_cases f14:f=14
 ·subst f14;rcases Int.lt_or_le k 7 with k7|k7
  ·have k9:¬7≤k:=Int.not_le.mpr k7
   have k8:¬k=7:=by omega
   simp[bdI,k7,k8,k9]
  ·have k9:¬k<7:=Int.not_lt.mpr k7
   by_cases k8:k=7
   ·subst k8;rfl
   ·simp[bdI,k7,k8,k9]
 by_cases f12:f=12
 ·subst f12;rcases Int.lt_or_le k 7 with k7|k7
  ·have k9:¬7≤k:=Int.not_le.mpr k7
   have k8:¬k=7:=by omega
   simp[bdI,k7,k8,k9]
  ·have k9:¬k<7:=Int.not_lt.mpr k7
   by_cases k8:k=7
   ·subst k8;rfl
   ·simp[bdI,k7,k8,k9]
 simp[bdI,f1,f2,f6,f8,f9,f10,f11,f14,f12]
def mostOf (k f:Int):Int:=if f=0\/f=12 then 15 else if f=1/\k≥7 then 0 else if f=1\/f=16 then 1099511627776 else if f=9 then 60 else if f=10 then 132 else if f=15 then 63 else 281474976710656
theorem pk_most (k f:Int):F_batonref19_most (k,f)=some (mostOf k f):=by
 unfold F_batonref19_most mostOf
 by_cases f0:f=0
 ·subst f0;rcases Int.lt_or_le k 7 with k7|k7
  ·have k9:¬7≤k:=Int.not_le.mpr k7
   have k8:¬k=7:=by omega
   simp[bdI,k7,k8,k9]
  ·have k9:¬k<7:=Int.not_lt.mpr k7
   by_cases k8:k=7
   ·subst k8;rfl
   ·simp[bdI,k7,k8,k9]
 by_cases f1:f=1
 ·subst f1;rcases Int.lt_or_le k 7 with k7|k7
  ·have k9:¬7≤k:=Int.not_le.mpr k7
   have k8:¬k=7:=by omega
   simp[bdI,k7,k8,k9]
  ·have k9:¬k<7:=Int.not_lt.mpr k7
   by_cases k8:k=7
   ·subst k8;rfl
   ·simp[bdI,k7,k8,k9]
 by_cases f9:f=9
 ·subst f9;rcases Int.lt_or_le k 7 with k7|k7
  ·have k9:¬7≤k:=Int.not_le.mpr k7
   have k8:¬k=7:=by omega
   simp[bdI,k7,k8,k9]
  ·have k9:¬k<7:=Int.not_lt.mpr k7
   by_cases k8:k=7
   ·subst k8;rfl
   ·simp[bdI,k7,k8,k9]
 by_cases f10:f=10
 ·subst f10;rcases Int.lt_or_le k 7 with k7|k7
  ·have k9:¬7≤k:=Int.not_le.mpr k7
   have k8:¬k=7:=by omega
   simp[bdI,k7,k8,k9]
  ·have k9:¬k<7:=Int.not_lt.mpr k7
   by_cases k8:k=7
   ·subst k8;rfl
   ·simp[bdI,k7,k8,k9]
 by_cases f12:f=12
 ·subst f12;rcases Int.lt_or_le k 7 with k7|k7
  ·have k9:¬7≤k:=Int.not_le.mpr k7
   have k8:¬k=7:=by omega
   simp[bdI,k7,k8,k9]
  ·have k9:¬k<7:=Int.not_lt.mpr k7
   by_cases k8:k=7
   ·subst k8;rfl
   ·simp[bdI,k7,k8,k9]
 by_cases f15:f=15
 ·subst f15;rcases Int.lt_or_le k 7 with k7|k7
  ·have k9:¬7≤k:=Int.not_le.mpr k7
   have k8:¬k=7:=by omega
   simp[bdI,k7,k8,k9]
  ·have k9:¬k<7:=Int.not_lt.mpr k7
   by_cases k8:k=7
   ·subst k8;rfl
   ·simp[bdI,k7,k8,k9]
 by_cases f16:f=16
 ·subst f16;rcases Int.lt_or_le k 7 with k7|k7
  ·have k9:¬7≤k:=Int.not_le.mpr k7
   have k8:¬k=7:=by omega
   simp[bdI,k7,k8,k9]
  ·have k9:¬k<7:=Int.not_lt.mpr k7
   by_cases k8:k=7
   ·subst k8;rfl
   ·simp[bdI,k7,k8,k9]
 simp[bdI,f0,f1,f9,f10,f12,f15,f16]
def zeros32:List Int:=[0,0,0,0,0,0,0,0,0,0,0,0,0,0,0,0,0,0,0,0,0,0,0,0,0,0,0,0,0,0,0,0]
def xJ (k:Int) (nums:List Int) (f:Nat):Bool:=
 if (fieldsOf k).any (· ==(f:Int))=true then decide (leastOf k f≤nums.getD f 0)&&decide (nums.getD f 0≤mostOf k f) else nums.getD f 0==0
def rightOf (k:Int) (nums data id:List Int):Bool:=
 !(fieldsOf k).isEmpty&&((List.range 18).all (xJ k nums)&&(((fieldsOf k).any (· ==101)||id==zeros32)&&
   (if k=1 then decide (1≤data.length)&&decide (data.length≤16) else if k=3 then decide (data.length≤131072) else data.isEmpty)))
theorem tail (k:Int) (data:List Int):(bif k==1 then (bif ((decide (((data.length:Nat):Int)≥1))==true) then (some (decide (((data.length:Nat):Int)≤16))) else (some false)) else (bif k==3 then (some (decide (((data.length:Nat):Int)≤131072))) else (some (((data.length:Nat):Int)==0)))) =
 some (true&&(true&&(if k=1 then decide (1≤data.length)&&decide (data.length≤16) else if k=3 then decide (data.length≤131072) else data.isEmpty))):=by
 simp only[Bool.true_and]
 by_cases k1:k=1
 ·subst k1
  have e1:(decide (((data.length:Nat):Int)≥1))=decide (1≤data.length):=by rw[decide_eq_decide];omega
  have e2:(decide (((data.length:Nat):Int)≤16))=decide (data.length≤16):=by rw[decide_eq_decide];omega
  rw[e1,e2]
  cases decide (1≤data.length)<;>rfl
 ·by_cases k3:k=3
  ·subst k3
   have e2:(decide (((data.length:Nat):Int)≤131072))=decide (data.length≤131072):=by rw[decide_eq_decide];omega
   rw[e2];rfl
  ·have e1:(k==1)=false:=by simpa using k1
   have e2:(k==3)=false:=by simpa using k3
   rw[e1,e2,if_neg k1,if_neg k3]
   cases data with
   |nil=>rfl
   |cons c l=>simp;omega
theorem fieldStep {X:Type} (b:Bool) (n L M z:Int):((bif (!b)==true then (bif (n != 0)==false then (bif b==true then (bif decide (n<L)==false then some (decide (n>M)) else some true) else some false) else some true) else (bif b==true then (bif decide (n<L)==false then some (decide (n>M)) else some true) else some false)).bind
 fun v=>bif v then some (Sum.inr (Sum.inl false)) else some (Sum.inl z))=(some (if (if b=true then decide (L≤n)&&decide (n≤M) else n==0)=true then Sum.inl z else Sum.inr (Sum.inl false)):Option (Int⊕(Bool⊕X))):=by
 cases b
 ·by_cases a1:n=0
  ·subst a1;rfl
  ·have a2:(n==0)=false:=by simpa using a1
   have a3:(n != 0)=true:=by simpa using a1
   simp[a2,a3]
 ·rcases Int.lt_or_le n L with a1|a1
  ·have a2:¬L≤n:=Int.not_le.mpr a1
   simp[a1,a2]
  ·have a2:¬n<L:=Int.not_lt.mpr a1
   rcases Int.lt_or_le M n with a3|a3
   ·have a4:¬n≤M:=Int.not_le.mpr a3
    simp[a1,a2,a3,a4]
   ·have a4:¬M<n:=Int.not_lt.mpr a3
    simp[a1,a2,a3,a4]
theorem pk_refRight (k:Int) (nums data id:List Int) (hn:nums.length=18):F_batonref19_Right (k,nums,data,id)=some (rightOf k nums data id):=by
 unfold F_batonref19_Right rightOf
 simp only[pk_fields,aB]
 by_cases he:(fieldsOf k).isEmpty=true
 ·have:fieldsOf k=[]:=by simpa using he
  simp[this]
 have hne:(((fieldsOf k).length:Int)==0)=false:=by
  simp only[Rq]at he
  simp[he]
 rw[hne,(dT _).mp he]
 simp only[cond_false,eP,Bool.true_and]
 rw[allLoop (l:=List.range 18) (xJ k nums) (z:=(18,false)) (fun i e hi=>?_) ?_]
 ·simp only[aB]
  by_cases ha:(List.range 18).all (xJ k nums)=true
  ·rw[if_pos ha,ha]
   simp only[pk_has _ _ (fieldsOf_len k),aB,Bool.true_and]
   by_cases h1:(fieldsOf k).any (· ==101)=true
   ·rw[h1]
    exact tail k data
   ·rw[(dT _).mp h1]
    by_cases h2:id=zeros32
    ·have h3:(id==zeros32)=true:=by simpa using h2
     have h4:(id==[0,0,0,0,0,0,0,0,0,0,0,0,0,0,0,0,0,0,0,0,0,0,0,0,0,0,0,0,0,0,0,0])=true:=h3
     rw[h3,h4]
     exact tail k data
    ·have h3:(id==zeros32)=false:=by simpa using h2
     have h5:(id==[0,0,0,0,0,0,0,0,0,0,0,0,0,0,0,0,0,0,0,0,0,0,0,0,0,0,0,0,0,0,0,0])=false:=h3
     rw[h3,h5]
     rfl
  ·rw[if_neg ha,(dT _).mp ha];rfl
 ·simp
 ·have hi2:=gU hi
  simp only[List.length_range]at hi2
  have:e=i:=by simpa [List.getElem?_range hi2]using hi.symm
  subst this
  have w:IntKind.wrap .i64 ((e:Int)+1)=((e+1:Nat):Int):=by rw[w64 (by omega) (by omega)];omega
  have d1:decide ((e:Int)<18)=true:=by simp;omega
  have d2:decide ((0:Int)≤(e:Int))=true:=by simp
  have d3:decide ((e:Int).toNat<18)=true:=by simp;omega
  have d4:nums[e]? = some (nums.getD e 0):=by
   rw[aX,aG (by omega)];rfl
  have d5:decide (e<18)=true:=by simp;omega
  simp only[d1,d2,d3,d5,cond_true,aP,d4,aB,pk_has _ _ (fieldsOf_len k),pk_least,pk_most,w,xJ]
  exact fieldStep _ _ _ _ _
end Go.Ideal.Seat
namespace Go.Ideal.Seat
open Go.Ideal.Plain
theorem condAnd (c x:Bool):(bif c==true then some x else some false)=some (c&&x):=by cases c<;>rfl
theorem condNot (c x:Bool):(bif !c then some false else some x)=some (c&&x):=by cases c<;>rfl
def u8s (l:List Int):List UInt8:=l.map fun n=>UInt8.ofNat (Int.toNat n)
theorem pk_same (k k':Int) (dev ep no fi se ba to ta ch ro co rq fo un ti cd gr:Int) (da id:List Int) (dev' ep' no' fi' se' ba' to' ta' ch' ro' co' rq' fo' un' ti' cd' gr':Int) (da' id':List Int):F_packet_Same ((k,dev,ep,no,fi,da,se,ba,to,ta,ch,ro,co,rq,fo,un,ti,id,cd,gr),(k',dev',ep',no',fi',da',se',ba',to',ta',ch',ro',co',rq',fo',un',ti',id',cd',gr')) =
 some (decide (u8s da=u8s da'/\k=k'/\dev=dev'/\ep=ep'/\no=no'/\fi=fi'/\se=se'/\ba=ba'/\to=to'/\ta=ta'/\ch=ch'/\ro=ro'/\co=co'/\rq=rq'/\fo=fo'/\un=un'/\ti=ti'/\id=id'/\cd=cd'/\gr=gr')):=by
 unfold F_packet_Same F_packet_alike
 simp only[condAnd,aB,aD]
 rw[Bool.eq_iff_iff]
 simp only[aF,beq_iff_eq,decide_eq_true_eq,and_true,Hm,u8s]
 exact decide_eq_true_iff.symm
theorem u8s_nil (l:List Int):(u8s l=u8s [])↔l.length=0:=by
 cases l<;>simp[u8s]
theorem range18 (p:Nat->Bool):(List.range 18).all p=(p 0&&(p 1&&(p 2&&(p 3&&(p 4&&(p 5&&(p 6&&(p 7&&(p 8&&(p 9&&(p 10&&(p 11&&(p 12&&(p 13&&(p 14&&(p 15&&(p 16&&p 17))))))))))))))))):=by
 show (p 0&&(p 1&&(p 2&&(p 3&&(p 4&&(p 5&&(p 6&&(p 7&&(p 8&&(p 9&&(p 10&&(p 11&&(p 12&&(p 13&&(p 14&&(p 15&&(p 16&&(p 17&&true))))))))))))))))))=_
 rw[Hm]
theorem pk_right1 (dev ep no fi se ba to ta ch ro co rq fo un ti cd gr:Int) (da id:List Int):F_packet_Right (1,dev,ep,no,fi,da,se,ba,to,ta,ch,ro,co,rq,fo,un,ti,id,cd,gr)=some (rightOf 1 [dev,ep,no,fi,se,ba,to,ta,ch,ro,co,rq,fo,un,ti,cd,gr,0] da id):=by
 have e:(List.range 18).all (xJ 1 [dev,ep,no,fi,se,ba,to,ta,ch,ro,co,rq,fo,un,ti,cd,gr,0])=((decide ((0:Int)≤dev)&&decide (dev≤15))&&((decide ((1:Int)≤ep)&&decide (ep≤1099511627776))&&((decide ((1:Int)≤no)&&decide (no≤281474976710656))&&((decide ((0:Int)≤fi)&&decide (fi≤281474976710656))&&((decide ((0:Int)≤se)&&decide (se≤281474976710656))&&((ba==(0:Int))&&((to==(0:Int))&&((ta==(0:Int))&&((ch==(0:Int))&&((ro==(0:Int))&&((co==(0:Int))&&((rq==(0:Int))&&((fo==(0:Int))&&((un==(0:Int))&&((ti==(0:Int))&&((cd==(0:Int))&&((gr==(0:Int))&&(((0:Int)==0))))))))))))))))))):=by rw[range18];rfl
 unfold F_packet_Right rightOf
 rw[e]
 have e2:(!(fieldsOf 1).isEmpty)=true:=rfl
 have e3:(fieldsOf 1).any (· ==101)=false:=rfl
 have ek:F_packet_kept (1,(dev,ep,no,fi,da,se,ba,to,ta,ch,ro,co,rq,fo,un,ti,id,cd,gr))=some (1,dev,ep,no,fi,da,se,0,0,0,0,0,0,0,0,0,0,zeros32,0,0):=rfl
 have ec:F_packet_Control 1=some false:=rfl
 rw[e2,e3]
 simp only[Int.reduceBEq,beq_self_eq_true,cond_true,cond_false,decide_true,ec,ek,aB,pk_same,condAnd,condNot,aD]
 rw[Bool.eq_iff_iff]
 simp only[aF,cV,beq_iff_eq,decide_eq_true_eq,u8s_nil,List.isEmpty_iff_length_eq_zero,qI,Int.reduceLE,Int.reduceEq,and_self,and_false,false_and,if_true,if_false,decide_true,decide_false,aR,true_and,and_true,false_or,true_or,ge_iff_le]
 by_cases hz:id=zeros32
 ·have hz:(id=zeros32)=True:=eq_true hz
  simp only[hz,and_true,true_and]
  constructor
  ·intro h;omega
  ·intro h;omega
 ·have hz:(id=zeros32)=False:=eq_false hz
  simp only[hz,and_false,false_and]
theorem pk_right2 (dev ep no fi se ba to ta ch ro co rq fo un ti cd gr:Int) (da id:List Int):F_packet_Right (2,dev,ep,no,fi,da,se,ba,to,ta,ch,ro,co,rq,fo,un,ti,id,cd,gr)=some (rightOf 2 [dev,ep,no,fi,se,ba,to,ta,ch,ro,co,rq,fo,un,ti,cd,gr,0] da id):=by
 have e:(List.range 18).all (xJ 2 [dev,ep,no,fi,se,ba,to,ta,ch,ro,co,rq,fo,un,ti,cd,gr,0])=((decide ((0:Int)≤dev)&&decide (dev≤15))&&((decide ((1:Int)≤ep)&&decide (ep≤1099511627776))&&((decide ((1:Int)≤no)&&decide (no≤281474976710656))&&((fi==(0:Int))&&((decide ((0:Int)≤se)&&decide (se≤281474976710656))&&((ba==(0:Int))&&((to==(0:Int))&&((ta==(0:Int))&&((ch==(0:Int))&&((ro==(0:Int))&&((co==(0:Int))&&((rq==(0:Int))&&((fo==(0:Int))&&((un==(0:Int))&&((ti==(0:Int))&&((cd==(0:Int))&&((gr==(0:Int))&&(((0:Int)==0))))))))))))))))))):=by rw[range18];rfl
 unfold F_packet_Right rightOf
 rw[e]
 have e2:(!(fieldsOf 2).isEmpty)=true:=rfl
 have e3:(fieldsOf 2).any (· ==101)=false:=rfl
 have ek:F_packet_kept (2,(dev,ep,no,fi,da,se,ba,to,ta,ch,ro,co,rq,fo,un,ti,id,cd,gr))=some (2,dev,ep,no,0,[],se,0,0,0,0,0,0,0,0,0,0,zeros32,0,0):=rfl
 have ec:F_packet_Control 2=some false:=rfl
 rw[e2,e3]
 simp only[Int.reduceBEq,beq_self_eq_true,cond_true,cond_false,decide_true,ec,ek,aB,pk_same,condAnd,condNot,aD]
 rw[Bool.eq_iff_iff]
 simp only[aF,cV,beq_iff_eq,decide_eq_true_eq,u8s_nil,List.isEmpty_iff_length_eq_zero,qI,Int.reduceLE,Int.reduceEq,and_self,and_false,false_and,if_true,if_false,decide_true,decide_false,aR,true_and,and_true,false_or,true_or,ge_iff_le]
 by_cases hz:id=zeros32
 ·have hz:(id=zeros32)=True:=eq_true hz
  simp only[hz,and_true,true_and]
  constructor
  ·intro h;omega
  ·intro h;omega
 ·have hz:(id=zeros32)=False:=eq_false hz
  simp only[hz,and_false,false_and]
theorem pk_right3 (dev ep no fi se ba to ta ch ro co rq fo un ti cd gr:Int) (da id:List Int):F_packet_Right (3,dev,ep,no,fi,da,se,ba,to,ta,ch,ro,co,rq,fo,un,ti,id,cd,gr)=some (rightOf 3 [dev,ep,no,fi,se,ba,to,ta,ch,ro,co,rq,fo,un,ti,cd,gr,0] da id):=by
 have e:(List.range 18).all (xJ 3 [dev,ep,no,fi,se,ba,to,ta,ch,ro,co,rq,fo,un,ti,cd,gr,0])=((decide ((0:Int)≤dev)&&decide (dev≤15))&&((decide ((1:Int)≤ep)&&decide (ep≤1099511627776))&&((decide ((1:Int)≤no)&&decide (no≤281474976710656))&&((fi==(0:Int))&&((se==(0:Int))&&((decide ((0:Int)≤ba)&&decide (ba≤281474976710656))&&((decide ((1:Int)≤to)&&decide (to≤281474976710656))&&((decide ((0:Int)≤ta)&&decide (ta≤281474976710656))&&((ch==(0:Int))&&((ro==(0:Int))&&((co==(0:Int))&&((rq==(0:Int))&&((fo==(0:Int))&&((un==(0:Int))&&((ti==(0:Int))&&((cd==(0:Int))&&((gr==(0:Int))&&(((0:Int)==0))))))))))))))))))):=by rw[range18];rfl
 unfold F_packet_Right rightOf
 rw[e]
 have e2:(!(fieldsOf 3).isEmpty)=true:=rfl
 have e3:(fieldsOf 3).any (· ==101)=false:=rfl
 have ek:F_packet_kept (3,(dev,ep,no,fi,da,se,ba,to,ta,ch,ro,co,rq,fo,un,ti,id,cd,gr))=some (3,dev,ep,no,0,da,0,ba,to,ta,0,0,0,0,0,0,0,zeros32,0,0):=rfl
 have ec:F_packet_Control 3=some false:=rfl
 rw[e2,e3]
 simp only[Int.reduceBEq,beq_self_eq_true,cond_true,cond_false,decide_true,ec,ek,aB,pk_same,condAnd,condNot,aD]
 rw[Bool.eq_iff_iff]
 simp only[aF,cV,beq_iff_eq,decide_eq_true_eq,u8s_nil,List.isEmpty_iff_length_eq_zero,qI,Int.reduceLE,Int.reduceEq,and_self,and_false,false_and,if_true,if_false,decide_true,decide_false,aR,true_and,and_true,false_or,true_or,ge_iff_le]
 by_cases hz:id=zeros32
 ·have hz:(id=zeros32)=True:=eq_true hz
  simp only[hz,and_true,true_and]
  constructor
  ·intro h;omega
  ·intro h;omega
 ·have hz:(id=zeros32)=False:=eq_false hz
  simp only[hz,and_false,false_and]
theorem pk_right4 (dev ep no fi se ba to ta ch ro co rq fo un ti cd gr:Int) (da id:List Int):F_packet_Right (4,dev,ep,no,fi,da,se,ba,to,ta,ch,ro,co,rq,fo,un,ti,id,cd,gr)=some (rightOf 4 [dev,ep,no,fi,se,ba,to,ta,ch,ro,co,rq,fo,un,ti,cd,gr,0] da id):=by
 have e:(List.range 18).all (xJ 4 [dev,ep,no,fi,se,ba,to,ta,ch,ro,co,rq,fo,un,ti,cd,gr,0])=((decide ((0:Int)≤dev)&&decide (dev≤15))&&((decide ((1:Int)≤ep)&&decide (ep≤1099511627776))&&((decide ((1:Int)≤no)&&decide (no≤281474976710656))&&((fi==(0:Int))&&((se==(0:Int))&&((ba==(0:Int))&&((to==(0:Int))&&((decide ((0:Int)≤ta)&&decide (ta≤281474976710656))&&((ch==(0:Int))&&((ro==(0:Int))&&((co==(0:Int))&&((rq==(0:Int))&&((fo==(0:Int))&&((un==(0:Int))&&((ti==(0:Int))&&((cd==(0:Int))&&((gr==(0:Int))&&(((0:Int)==0))))))))))))))))))):=by rw[range18];rfl
 unfold F_packet_Right rightOf
 rw[e]
 have e2:(!(fieldsOf 4).isEmpty)=true:=rfl
 have e3:(fieldsOf 4).any (· ==101)=false:=rfl
 have ek:F_packet_kept (4,(dev,ep,no,fi,da,se,ba,to,ta,ch,ro,co,rq,fo,un,ti,id,cd,gr))=some (4,dev,ep,no,0,[],0,0,0,ta,0,0,0,0,0,0,0,zeros32,0,0):=rfl
 have ec:F_packet_Control 4=some false:=rfl
 rw[e2,e3]
 simp only[Int.reduceBEq,beq_self_eq_true,cond_true,cond_false,decide_true,ec,ek,aB,pk_same,condAnd,condNot,aD]
 rw[Bool.eq_iff_iff]
 simp only[aF,cV,beq_iff_eq,decide_eq_true_eq,u8s_nil,List.isEmpty_iff_length_eq_zero,qI,Int.reduceLE,Int.reduceEq,and_self,and_false,false_and,if_true,if_false,decide_true,decide_false,aR,true_and,and_true,false_or,true_or,ge_iff_le]
 by_cases hz:id=zeros32
 ·have hz:(id=zeros32)=True:=eq_true hz
  simp only[hz,and_true,true_and]
  constructor
  ·intro h;omega
  ·intro h;omega
 ·have hz:(id=zeros32)=False:=eq_false hz
  simp only[hz,and_false,false_and]
theorem pk_right5 (dev ep no fi se ba to ta ch ro co rq fo un ti cd gr:Int) (da id:List Int):F_packet_Right (5,dev,ep,no,fi,da,se,ba,to,ta,ch,ro,co,rq,fo,un,ti,id,cd,gr)=some (rightOf 5 [dev,ep,no,fi,se,ba,to,ta,ch,ro,co,rq,fo,un,ti,cd,gr,0] da id):=by
 have e:(List.range 18).all (xJ 5 [dev,ep,no,fi,se,ba,to,ta,ch,ro,co,rq,fo,un,ti,cd,gr,0])=((decide ((0:Int)≤dev)&&decide (dev≤15))&&((decide ((1:Int)≤ep)&&decide (ep≤1099511627776))&&((decide ((1:Int)≤no)&&decide (no≤281474976710656))&&((fi==(0:Int))&&((decide ((0:Int)≤se)&&decide (se≤281474976710656))&&((ba==(0:Int))&&((to==(0:Int))&&((ta==(0:Int))&&((decide ((1:Int)≤ch)&&decide (ch≤281474976710656))&&((decide ((1:Int)≤ro)&&decide (ro≤60))&&((decide ((1:Int)≤co)&&decide (co≤132))&&((rq==(0:Int))&&((fo==(0:Int))&&((un==(0:Int))&&((ti==(0:Int))&&((cd==(0:Int))&&((gr==(0:Int))&&(((0:Int)==0))))))))))))))))))):=by rw[range18];rfl
 unfold F_packet_Right rightOf
 rw[e]
 have e2:(!(fieldsOf 5).isEmpty)=true:=rfl
 have e3:(fieldsOf 5).any (· ==101)=false:=rfl
 have ek:F_packet_kept (5,(dev,ep,no,fi,da,se,ba,to,ta,ch,ro,co,rq,fo,un,ti,id,cd,gr))=some (5,dev,ep,no,0,[],se,0,0,0,ch,ro,co,0,0,0,0,zeros32,0,0):=rfl
 have ec:F_packet_Control 5=some false:=rfl
 rw[e2,e3]
 simp only[Int.reduceBEq,beq_self_eq_true,cond_true,cond_false,decide_true,ec,ek,aB,pk_same,condAnd,condNot,aD]
 rw[Bool.eq_iff_iff]
 simp only[aF,cV,beq_iff_eq,decide_eq_true_eq,u8s_nil,List.isEmpty_iff_length_eq_zero,qI,Int.reduceLE,Int.reduceEq,and_self,and_false,false_and,if_true,if_false,decide_true,decide_false,aR,true_and,and_true,false_or,true_or,ge_iff_le]
 by_cases hz:id=zeros32
 ·have hz:(id=zeros32)=True:=eq_true hz
  simp only[hz,and_true,true_and]
  constructor
  ·intro h;omega
  ·intro h;omega
 ·have hz:(id=zeros32)=False:=eq_false hz
  simp only[hz,and_false,false_and]
theorem pk_right6 (dev ep no fi se ba to ta ch ro co rq fo un ti cd gr:Int) (da id:List Int):F_packet_Right (6,dev,ep,no,fi,da,se,ba,to,ta,ch,ro,co,rq,fo,un,ti,id,cd,gr)=some (rightOf 6 [dev,ep,no,fi,se,ba,to,ta,ch,ro,co,rq,fo,un,ti,cd,gr,0] da id):=by
 have e:(List.range 18).all (xJ 6 [dev,ep,no,fi,se,ba,to,ta,ch,ro,co,rq,fo,un,ti,cd,gr,0])=((decide ((0:Int)≤dev)&&decide (dev≤15))&&((decide ((1:Int)≤ep)&&decide (ep≤1099511627776))&&((decide ((1:Int)≤no)&&decide (no≤281474976710656))&&((fi==(0:Int))&&((se==(0:Int))&&((ba==(0:Int))&&((to==(0:Int))&&((ta==(0:Int))&&((ch==(0:Int))&&((ro==(0:Int))&&((co==(0:Int))&&((decide ((1:Int)≤rq)&&decide (rq≤281474976710656))&&((decide ((-1:Int)≤fo)&&decide (fo≤15))&&((decide ((0:Int)≤un)&&decide (un≤281474976710656))&&((ti==(0:Int))&&((cd==(0:Int))&&((gr==(0:Int))&&(((0:Int)==0))))))))))))))))))):=by rw[range18];rfl
 unfold F_packet_Right rightOf
 rw[e]
 have e2:(!(fieldsOf 6).isEmpty)=true:=rfl
 have e3:(fieldsOf 6).any (· ==101)=false:=rfl
 have ek:F_packet_kept (6,(dev,ep,no,fi,da,se,ba,to,ta,ch,ro,co,rq,fo,un,ti,id,cd,gr))=some (6,dev,ep,no,0,[],0,0,0,0,0,0,0,rq,fo,un,0,zeros32,0,0):=rfl
 have ec:F_packet_Control 6=some false:=rfl
 rw[e2,e3]
 simp only[Int.reduceBEq,beq_self_eq_true,cond_true,cond_false,decide_true,ec,ek,aB,pk_same,condAnd,condNot,aD]
 rw[Bool.eq_iff_iff]
 simp only[aF,cV,beq_iff_eq,decide_eq_true_eq,u8s_nil,List.isEmpty_iff_length_eq_zero,qI,Int.reduceLE,Int.reduceEq,and_self,and_false,false_and,if_true,if_false,decide_true,decide_false,aR,true_and,and_true,false_or,true_or,ge_iff_le]
 by_cases hz:id=zeros32
 ·have hz:(id=zeros32)=True:=eq_true hz
  simp only[hz,and_true,true_and]
  constructor
  ·intro h;omega
  ·intro h;omega
 ·have hz:(id=zeros32)=False:=eq_false hz
  simp only[hz,and_false,false_and]
theorem pk_right7 (dev ep no fi se ba to ta ch ro co rq fo un ti cd gr:Int) (da id:List Int):F_packet_Right (7,dev,ep,no,fi,da,se,ba,to,ta,ch,ro,co,rq,fo,un,ti,id,cd,gr)=some (rightOf 7 [dev,ep,no,fi,se,ba,to,ta,ch,ro,co,rq,fo,un,ti,cd,gr,0] da id):=by
 have e:(List.range 18).all (xJ 7 [dev,ep,no,fi,se,ba,to,ta,ch,ro,co,rq,fo,un,ti,cd,gr,0])=((decide ((0:Int)≤dev)&&decide (dev≤15))&&((decide ((0:Int)≤ep)&&decide (ep≤0))&&((decide ((1:Int)≤no)&&decide (no≤281474976710656))&&((fi==(0:Int))&&((se==(0:Int))&&((ba==(0:Int))&&((to==(0:Int))&&((ta==(0:Int))&&((ch==(0:Int))&&((decide ((1:Int)≤ro)&&decide (ro≤60))&&((decide ((1:Int)≤co)&&decide (co≤132))&&((decide ((1:Int)≤rq)&&decide (rq≤281474976710656))&&((fo==(0:Int))&&((un==(0:Int))&&((decide ((1:Int)≤ti)&&decide (ti≤281474976710656))&&((cd==(0:Int))&&((gr==(0:Int))&&(((0:Int)==0))))))))))))))))))):=by rw[range18];rfl
 unfold F_packet_Right rightOf
 rw[e]
 have e2:(!(fieldsOf 7).isEmpty)=true:=rfl
 have e3:(fieldsOf 7).any (· ==101)=true:=rfl
 have ek:F_packet_kept (7,(dev,ep,no,fi,da,se,ba,to,ta,ch,ro,co,rq,fo,un,ti,id,cd,gr))=some (7,dev,ep,no,0,[],0,0,0,0,0,ro,co,rq,0,0,ti,id,0,0):=rfl
 have ec:F_packet_Control 7=some true:=rfl
 rw[e2,e3]
 simp only[Int.reduceBEq,beq_self_eq_true,cond_true,cond_false,decide_true,ec,ek,aB,pk_same,condAnd,condNot,aD]
 rw[Bool.eq_iff_iff]
 simp only[aF,cV,beq_iff_eq,decide_eq_true_eq,u8s_nil,List.isEmpty_iff_length_eq_zero,qI,Int.reduceLE,Int.reduceEq,and_self,and_false,false_and,if_true,if_false,decide_true,decide_false,aR,true_and,and_true,false_or,true_or,ge_iff_le]
 constructor
 ·intro h;omega
 ·intro h;omega
theorem pk_right8 (dev ep no fi se ba to ta ch ro co rq fo un ti cd gr:Int) (da id:List Int):F_packet_Right (8,dev,ep,no,fi,da,se,ba,to,ta,ch,ro,co,rq,fo,un,ti,id,cd,gr)=some (rightOf 8 [dev,ep,no,fi,se,ba,to,ta,ch,ro,co,rq,fo,un,ti,cd,gr,0] da id):=by
 have e:(List.range 18).all (xJ 8 [dev,ep,no,fi,se,ba,to,ta,ch,ro,co,rq,fo,un,ti,cd,gr,0])=((decide ((0:Int)≤dev)&&decide (dev≤15))&&((decide ((0:Int)≤ep)&&decide (ep≤0))&&((decide ((1:Int)≤no)&&decide (no≤281474976710656))&&((fi==(0:Int))&&((se==(0:Int))&&((ba==(0:Int))&&((to==(0:Int))&&((ta==(0:Int))&&((ch==(0:Int))&&((decide ((1:Int)≤ro)&&decide (ro≤60))&&((decide ((1:Int)≤co)&&decide (co≤132))&&((decide ((1:Int)≤rq)&&decide (rq≤281474976710656))&&((fo==(0:Int))&&((un==(0:Int))&&((ti==(0:Int))&&((cd==(0:Int))&&((gr==(0:Int))&&(((0:Int)==0))))))))))))))))))):=by rw[range18];rfl
 unfold F_packet_Right rightOf
 rw[e]
 have e2:(!(fieldsOf 8).isEmpty)=true:=rfl
 have e3:(fieldsOf 8).any (· ==101)=false:=rfl
 have ek:F_packet_kept (8,(dev,ep,no,fi,da,se,ba,to,ta,ch,ro,co,rq,fo,un,ti,id,cd,gr))=some (8,dev,ep,no,0,[],0,0,0,0,0,ro,co,rq,0,0,0,zeros32,0,0):=rfl
 have ec:F_packet_Control 8=some true:=rfl
 rw[e2,e3]
 simp only[Int.reduceBEq,beq_self_eq_true,cond_true,cond_false,decide_true,ec,ek,aB,pk_same,condAnd,condNot,aD]
 rw[Bool.eq_iff_iff]
 simp only[aF,cV,beq_iff_eq,decide_eq_true_eq,u8s_nil,List.isEmpty_iff_length_eq_zero,qI,Int.reduceLE,Int.reduceEq,and_self,and_false,false_and,if_true,if_false,decide_true,decide_false,aR,true_and,and_true,false_or,true_or,ge_iff_le]
 by_cases hz:id=zeros32
 ·have hz:(id=zeros32)=True:=eq_true hz
  simp only[hz,and_true,true_and]
  constructor
  ·intro h;omega
  ·intro h;omega
 ·have hz:(id=zeros32)=False:=eq_false hz
  simp only[hz,and_false,false_and]
theorem pk_right9 (dev ep no fi se ba to ta ch ro co rq fo un ti cd gr:Int) (da id:List Int):F_packet_Right (9,dev,ep,no,fi,da,se,ba,to,ta,ch,ro,co,rq,fo,un,ti,id,cd,gr)=some (rightOf 9 [dev,ep,no,fi,se,ba,to,ta,ch,ro,co,rq,fo,un,ti,cd,gr,0] da id):=by
 have e:(List.range 18).all (xJ 9 [dev,ep,no,fi,se,ba,to,ta,ch,ro,co,rq,fo,un,ti,cd,gr,0])=((decide ((0:Int)≤dev)&&decide (dev≤15))&&((decide ((0:Int)≤ep)&&decide (ep≤0))&&((decide ((1:Int)≤no)&&decide (no≤281474976710656))&&((fi==(0:Int))&&((se==(0:Int))&&((ba==(0:Int))&&((to==(0:Int))&&((ta==(0:Int))&&((ch==(0:Int))&&((ro==(0:Int))&&((co==(0:Int))&&((decide ((1:Int)≤rq)&&decide (rq≤281474976710656))&&((fo==(0:Int))&&((un==(0:Int))&&((decide ((0:Int)≤ti)&&decide (ti≤281474976710656))&&((decide ((0:Int)≤cd)&&decide (cd≤63))&&((decide ((0:Int)≤gr)&&decide (gr≤1099511627776))&&(((0:Int)==0))))))))))))))))))):=by rw[range18];rfl
 unfold F_packet_Right rightOf
 rw[e]
 have e2:(!(fieldsOf 9).isEmpty)=true:=rfl
 have e3:(fieldsOf 9).any (· ==101)=true:=rfl
 have ek:F_packet_kept (9,(dev,ep,no,fi,da,se,ba,to,ta,ch,ro,co,rq,fo,un,ti,id,cd,gr))=some (9,dev,ep,no,0,[],0,0,0,0,0,0,0,rq,0,0,ti,id,cd,gr):=rfl
 have ec:F_packet_Control 9=some true:=rfl
 rw[e2,e3]
 simp only[Int.reduceBEq,beq_self_eq_true,cond_true,cond_false,decide_true,ec,ek,aB,pk_same,condAnd,condNot,aD]
 rw[Bool.eq_iff_iff]
 simp only[aF,cV,beq_iff_eq,decide_eq_true_eq,u8s_nil,List.isEmpty_iff_length_eq_zero,qI,Int.reduceLE,Int.reduceEq,and_self,and_false,false_and,if_true,if_false,decide_true,decide_false,aR,true_and,and_true,false_or,true_or,ge_iff_le]
 constructor
 ·intro h;omega
 ·intro h;omega
end Go.Ideal.Seat
namespace Go.Ideal.Seat
open Go.Ideal.Plain
theorem pk_none (k:Int) (dev ep no fi se ba to ta ch ro co rq fo un ti cd gr:Int) (da id:List Int) (h:¬(1≤k/\k≤9)):F_packet_Right (k,dev,ep,no,fi,da,se,ba,to,ta,ch,ro,co,rq,fo,un,ti,id,cd,gr)=some false:=by
 unfold F_packet_Right
 have e1:(k==1)=false:=by simp;omega
 have e2:(k==2)=false:=by simp;omega
 have e3:(k==3)=false:=by simp;omega
 have e4:(k==4)=false:=by simp;omega
 have e5:(k==5)=false:=by simp;omega
 have e6:(k==6)=false:=by simp;omega
 have e7:(k==7)=false:=by simp;omega
 have e8:(k==8)=false:=by simp;omega
 have e9:(k==9)=false:=by simp;omega
 simp only[e1,e2,e3,e4,e5,e6,e7,e8,e9,cond_false]
theorem pk_right (k:Int) (dev ep no fi se ba to ta ch ro co rq fo un ti cd gr:Int) (da id:List Int):F_packet_Right (k,dev,ep,no,fi,da,se,ba,to,ta,ch,ro,co,rq,fo,un,ti,id,cd,gr)=some (rightOf k [dev,ep,no,fi,se,ba,to,ta,ch,ro,co,rq,fo,un,ti,cd,gr,0] da id):=by
 by_cases h:1≤k/\k≤9
 ·have:k=1\/k=2\/k=3\/k=4\/k=5\/k=6\/k=7\/k=8\/k=9:=by omega
  rcases this with rfl|rfl|rfl|rfl|rfl|rfl|rfl|rfl|rfl
  ·exact pk_right1 dev ep no fi se ba to ta ch ro co rq fo un ti cd gr da id
  ·exact pk_right2 dev ep no fi se ba to ta ch ro co rq fo un ti cd gr da id
  ·exact pk_right3 dev ep no fi se ba to ta ch ro co rq fo un ti cd gr da id
  ·exact pk_right4 dev ep no fi se ba to ta ch ro co rq fo un ti cd gr da id
  ·exact pk_right5 dev ep no fi se ba to ta ch ro co rq fo un ti cd gr da id
  ·exact pk_right6 dev ep no fi se ba to ta ch ro co rq fo un ti cd gr da id
  ·exact pk_right7 dev ep no fi se ba to ta ch ro co rq fo un ti cd gr da id
  ·exact pk_right8 dev ep no fi se ba to ta ch ro co rq fo un ti cd gr da id
  ·exact pk_right9 dev ep no fi se ba to ta ch ro co rq fo un ti cd gr da id
 ·rw[pk_none k dev ep no fi se ba to ta ch ro co rq fo un ti cd gr da id h]
  have e:fieldsOf k=[]:=by
   unfold fieldsOf
   have e1:(k==1)=false:=by simp;omega
   have e2:(k==2)=false:=by simp;omega
   have e3:(k==3)=false:=by simp;omega
   have e4:(k==4)=false:=by simp;omega
   have e5:(k==5)=false:=by simp;omega
   have e6:(k==6)=false:=by simp;omega
   have e7:(k==7)=false:=by simp;omega
   have e8:(k==8)=false:=by simp;omega
   have e9:(k==9)=false:=by simp;omega
   simp only[e1,e2,e3,e4,e5,e6,e7,e8,e9,cond_false]
  unfold rightOf
  rw[e];rfl
theorem pk_ref (k:Int) (dev ep no fi se ba to ta ch ro co rq fo un ti cd gr:Int) (da id:List Int):F_batonlaw19_Ref (k,dev,ep,no,fi,da,se,ba,to,ta,ch,ro,co,rq,fo,un,ti,id,cd,gr)=some (k,[dev,ep,no,fi,se,ba,to,ta,ch,ro,co,rq,fo,un,ti,cd,gr,0],da,id):=rfl
theorem pk_refSame (k k':Int) (nu nu' da da' id id':List Int) (hl:da.length<2^60):F_batonref19_Same ((k,nu,da,id),(k',nu',da',id'))=some (decide (k=k'/\nu=nu'/\id=id'/\da=da')):=by
 unfold F_batonref19_Same
 simp only[]
 by_cases h1:¬k=k'
 ·have:(k != k')=true:=by simpa using h1
  rw[this];simp[h1]
 have h1:=Classical.not_not.1 h1
 by_cases h2:¬nu=nu'
 ·have e1:(k != k')=false:=by simpa using h1
  have e2:(nu==nu')=false:=by simpa using h2
  rw[e1,e2];simp[h2]
 have h2:=Classical.not_not.1 h2
 by_cases h3:¬id=id'
 ·have e1:(k != k')=false:=by simpa using h1
  have e2:(nu==nu')=true:=by simpa using h2
  have e3:(id==id')=false:=by simpa using h3
  rw[e1,e2,e3];simp[h3]
 have h3:=Classical.not_not.1 h3
 by_cases h4:¬da.length=da'.length
 ·have e1:(k != k')=false:=by simpa using h1
  have e2:(nu==nu')=true:=by simpa using h2
  have e3:(id==id')=true:=by simpa using h3
  have e4:((da.length:Int) != (da'.length:Int))=true:=by simp;omega
  have h5:¬da=da':=fun h=>h4 (by rw[h])
  rw[e1,e2,e3,e4];simp[h5]
 have h4:=Classical.not_not.1 h4
 have e1:(k != k')=false:=by simpa using h1
 have e2:(nu==nu')=true:=by simpa using h2
 have e3:(id==id')=true:=by simpa using h3
 have e4:((da.length:Int) != (da'.length:Int))=false:=by simp;omega
 rw[e1,e2,e3,e4]
 simp only[beq_self_eq_true,cond_true,Hm,cP,aB,cond_false]
 rw[sameLoop (l:=da) (m:=da') h4 (fun a b=>a==b) (z:=()) (fun i d e hd he=>?_) ?_]
 ·by_cases h5:da=da'
  ·rw[if_pos ((zip_all_eq h4 (fun x=>by simp)).2 h5)]
   simp[h1,h2,h3,h5]
  ·rw[if_neg (fun h=>h5 ((zip_all_eq h4 (fun x=>by simp)).1 h))]
   simp[h1,h2,h3,h5]
 ·simp
 ·have hi:=gU hd
  have d1:decide ((i:Int)<(da.length:Int))=true:=by simp;omega
  have d2:decide ((0:Int)≤(i:Int))=true:=by simp
  have w:IntKind.wrap .i64 ((i:Int)+1)=((i+1:Nat):Int):=by rw[w64 (by omega) (by omega)];omega
  simp only[d1,d2,cond_true,aP,hd,he,aB,w]
  by_cases hp:d=e
  ·subst hp;simp
  ·have:(d != e)=true:=by simpa using hp
   rw[this];simp[hp]
theorem u8s_inj {l m:List Int} (hl:∀c∈l,0≤c/\c≤255) (hm:∀c∈m,0≤c/\c≤255):u8s l=u8s m↔l=m:=by
 constructor
 ·intro h
  induction l generalizing m with
  |nil=>cases m with
   |nil=>rfl
   |cons c m=>simp[u8s]at h
  |cons a l ih=>
   cases m with
   |nil=>simp[u8s]at h
   |cons b m=>
    simp only[u8s,eZ,List.cons.injEq]at h
    have h1:=hl a (cE ..)
    have h2:=hm b (cE ..)
    have h3:=congrArg UInt8.toNat h.1
    simp only[UInt8.toNat_ofNat']at h3
    have h4:a=b:=by omega
    rw[h4,ih (fun c hc=>hl c (bT _ hc)) (fun c hc=>hm c (bT _ hc)) h.2]
 ·intro h;rw[h]
theorem pk_awake:F_batonlaw19_awake ()=some true:=rfl
theorem pk_law (k k':Int) (dev ep no fi se ba to ta ch ro co rq fo un ti cd gr:Int) (da id:List Int) (dev' ep' no' fi' se' ba' to' ta' ch' ro' co' rq' fo' un' ti' cd' gr':Int) (da' id':List Int) (hd:∀c∈da,0≤c/\c≤255) (hd':∀c∈da',0≤c/\c≤255):
 F_batonlaw19_PacketRight ((k,dev,ep,no,fi,da,se,ba,to,ta,ch,ro,co,rq,fo,un,ti,id,cd,gr),(k',dev',ep',no',fi',da',se',ba',to',ta',ch',ro',co',rq',fo',un',ti',id',cd',gr'))=some true:=by
 unfold F_batonlaw19_PacketRight
 simp only[pk_awake,aB,cP,cond_false]
 by_cases hg:da.length>140000\/da'.length>140000
 ·have:(bif decide ((da.length:Int)>140000)==false then some (decide ((da'.length:Int)>140000)) else some true)=some true:=by
   by_cases h1:da.length>140000
   ·have:decide ((da.length:Int)>140000)=true:=by simp;omega
    rw[this];rfl
   ·have e1:decide ((da.length:Int)>140000)=false:=by simp;omega
    have e2:decide ((da'.length:Int)>140000)=true:=by simp;omega
    rw[e1,e2];rfl
  rw[this];rfl
 ·have:(bif decide ((da.length:Int)>140000)==false then some (decide ((da'.length:Int)>140000)) else some true)=some false:=by
   have e1:decide ((da.length:Int)>140000)=false:=by simp;omega
   have e2:decide ((da'.length:Int)>140000)=false:=by simp;omega
   rw[e1,e2];rfl
  rw[this]
  simp only[aB,cond_false,pk_right,pk_ref,pk_refRight _ _ _ _ (show [dev,ep,no,fi,se,ba,to,ta,ch,ro,co,rq,fo,un,ti,cd,gr,0].length=18 from rfl),beq_self_eq_true,cond_true,pk_same,pk_up,pk_control,pk_refSame _ _ _ _ _ _ _ _ (show da.length<2^60 by omega)]
  have es:decide (u8s da=u8s da'/\k=k'/\dev=dev'/\ep=ep'/\no=no'/\fi=fi'/\se=se'/\ba=ba'/\to=to'/\ta=ta'/\ch=ch'/\ro=ro'/\co=co'/\rq=rq'/\fo=fo'/\un=un'/\ti=ti'/\id=id'/\cd=cd'/\gr=gr')=decide (k=k'/\[dev,ep,no,fi,se,ba,to,ta,ch,ro,co,rq,fo,un,ti,cd,gr,0]=[dev',ep',no',fi',se',ba',to',ta',ch',ro',co',rq',fo',un',ti',cd',gr',0]/\id=id'/\da=da'):=by
   rw[decide_eq_decide,u8s_inj hd hd']
   simp only[List.cons.injEq,and_true]
   constructor
   ·rintro⟨h0,h1,h2,h3,h4,h5,h6,h7,h8,h9,h10,h11,h12,h13,h14,h15,h16,h17,h18,h19⟩
    exact⟨h1,⟨h2,h3,h4,h5,h6,h7,h8,h9,h10,h11,h12,h13,h14,h15,h16,h18,h19⟩,h17,h0⟩
   ·rintro⟨h1,⟨h2,h3,h4,h5,h6,h7,h8,h9,h10,h11,h12,h13,h14,h15,h16,h18,h19⟩,h17,h0⟩
    exact⟨h0,h1,h2,h3,h4,h5,h6,h7,h8,h9,h10,h11,h12,h13,h14,h15,h16,h17,h18,h19⟩
  rw[es]
  simp only[beq_self_eq_true,cond_true]
  by_cases k1:k=1
  ·subst k1;rfl
  by_cases k2:k=2
  ·subst k2;rfl
  by_cases k5:k=5
  ·subst k5;rfl
  by_cases k6:k=6
  ·subst k6;rfl
  by_cases k7:k=7
  ·subst k7;rfl
  by_cases k8:k=8
  ·subst k8;rfl
  by_cases k9:k=9
  ·subst k9;rfl
  have b (c:Int) (h:¬k=c):(k==c)=false:=by simpa using h
  have c1:decide (k=1\/k=2\/k=5\/k=6\/k=7\/k=8)=false:=by simp;omega
  have c2:decide (7≤k/\k≤9)=false:=by simp;omega
  simp only[b _ k1,b _ k2,b _ k5,b _ k6,b _ k7,b _ k8,b _ k9,c1,c2,beq_self_eq_true,cond_true,cond_false,aB]
theorem pk_law_x (x:(Int×Int×Int×Int×Int×List Int×Int×Int×Int×Int×Int×Int×Int×Int×Int×Int×Int×List Int×Int×Int)×(Int×Int×Int×Int×Int×List Int×Int×Int×Int×Int×Int×Int×Int×Int×Int×Int×Int×List Int×Int×Int)) (h1:∀c∈x.1.2.2.2.2.2.1,IntKind.min .u8≤c/\c≤IntKind.max .u8) (h2:∀c∈x.2.2.2.2.2.2.1,IntKind.min .u8≤c/\c≤IntKind.max .u8):F_batonlaw19_PacketRight x=some true:=by
 obtain⟨⟨k,dev,ep,no,fi,da,se,ba,to,ta,ch,ro,co,rq,fo,un,ti,id,cd,gr⟩,⟨k',dev',ep',no',fi',da',se',ba',to',ta',ch',ro',co',rq',fo',un',ti',id',cd',gr'⟩⟩:=x
 exact pk_law k k' dev ep no fi se ba to ta ch ro co rq fo un ti cd gr da id dev' ep' no' fi' se' ba' to' ta' ch' ro' co' rq' fo' un' ti' cd' gr' da' id' (fun c hc=>h1 c hc) (fun c hc=>h2 c hc)
end Go.Ideal.Seat
