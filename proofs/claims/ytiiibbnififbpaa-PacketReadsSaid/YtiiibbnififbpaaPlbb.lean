/- Packets' bytes: the program's Read. -/
import Derived.Test.YtiiibbnififbpaaPlba
set_option linter.unusedVariables false
set_option linter.unusedSimpArgs false
set_option maxRecDepth 100000
namespace Go.Ideal.Seat
open Go.Ideal.Plain
abbrev Pk:=List Int×List Int×List Int
def unsg (x:Int):Int:=bif ((Int.tmod x 2)==1) then (IntKind.wrap .i64 ((IntKind.wrap .i64 (0-(IntKind.wrap .i64 (Int.tdiv x 2))))-1)) else (IntKind.wrap .i64 (Int.tdiv x 2))
theorem unsg_ref (x:Int):F_batonref19_Unsigned x=some (unsg x):=by
 unfold F_batonref19_Unsigned unsg
 cases (Int.tmod x 2)==1<;>rfl
theorem signed_eq (s:List Int×Int):O_codec_Reader_Signed s=(O_codec_Reader_Number s).bind fun r=>some (r.1,unsg r.2):=by
 unfold O_codec_Reader_Signed unsg
 congr 1;funext r
 cases (Int.tmod r.2 2)==1<;>rfl
theorem runs_signed:Runs O_codec_Reader_Signed (rNum.then fun x l=>.ok (unsg x,l)):=runs_map runs_num signed_eq
def rKey:Rd (List Int):=fun l=>if 32≤l.length then .ok (l.take 32,l.drop 32) else .error 4
theorem runs_key:Runs O_codec_Reader_Key rKey where
 ok b hb p h:=by
  unfold rKey at h
  split at h
  ·rename_i c
   injection h with h
   unfold O_codec_Reader_Key
   have t:=take_eq b 32
   simp only[if_pos c]at t
   have t':O_codec_Reader_take ((b,0),32)=some ((b.drop 32,0),b.take 32,true):=t
   rw[t',<-h]
   have hm:min b.length 32=32:=by omega
   have e32:List.take 32 (List.take 32 b)=List.take 32 b:=by rw[oX];rfl
   simp[hm,e32]
  ·cases h
 error b hb e h:=by
  unfold rKey at h
  split at h
  ·cases h
  ·rename_i c
   injection h with h
   unfold O_codec_Reader_Key
   have t:=take_eq b 32
   simp only[if_neg c]at t
   have t':O_codec_Reader_take ((b,0),32)=some ((b,4),[],false):=t
   rw[t',<-h]
   exact⟨by decide,b,_,rfl⟩
 bad b e he:=by
  unfold O_codec_Reader_Key
  rw[take_bad b e 32 he]
  exact⟨_,rfl⟩
theorem key_short:∀l p,bytesIn l->rKey l = .ok p->∃a,l=a++p.2:=fun l p hl h=>by
 unfold rKey at h
 split at h
 ·injection h with h;rw[<-h];exact⟨l.take 32,by simp⟩
 ·cases h
theorem text_short (m:Nat):∀l p,bytesIn l->rText m l = .ok p->∃a,l=a++p.2:=fun l p hl h=>by
 unfold rText at h
 obtain⟨q,h1,h2⟩:=Rd.then_eq_ok h
 obtain⟨a,e1,_⟩:=rNum_short l q hl h1
 split at h2
 ·cases h2
 ·split at h2
  ·cases h2
  ·injection h2 with h2
   rw[<-h2]
   exact⟨a++q.2.take q.1.toNat,by rw[e1,bQ,gR]⟩
def setK (P:Pk) (f v:Int):Pk:=(P.1.set f.toNat v,P.2)
def rField (f:Int) (P:Pk):Rd Pk:=
 bif f==100 then (rText 131072).then fun t l=>.ok ((P.1,t,P.2.2),l)
 else bif f==101 then rKey.then fun t l=>.ok ((P.1,P.2.1,t),l)
 else bif f==12 then (rNum.then fun x l=>.ok (unsg x,l)).then fun n l=>.ok (setK P f n,l)
 else rNum.then fun n l=>.ok (setK P f n,l)
def rFields:List Int->Pk->Rd Pk
 |[],P=>fun l=>.ok (P,l)
 |f::fs,P=>(rField f P).then fun P'=>rFields fs P'
section
variable {Y:Type}
noncomputable def progC:List Int->List Int×Int->Pk->(List Int×Int->Pk->Option Y)->Option Y
 |[],s,P,K=>K s P
 |f::fs,s,P,K=>
  bif f==100 then (O_codec_Reader_Text (s,131072)).bind fun r=>progC fs r.1 (P.1,r.2,P.2.2) K
  else bif f==101 then (O_codec_Reader_Key s).bind fun r=>progC fs r.1 (P.1,P.2.1,r.2) K
  else bif f==12 then (O_codec_Reader_Signed s).bind fun r=>progC fs r.1 (setK P f r.2) K
  else (O_codec_Reader_Number s).bind fun r=>progC fs r.1 (setK P f r.2) K
theorem progC_bad (K:List Int×Int->Pk->Option Y):∀(fs:List Int) (b:List Int) (e:Int) (P:Pk),e≠0->∃b' P',progC fs (b,e) P K=K (b',e) P'
 |[],b,e,P,he=>⟨b,P,rfl⟩
 |f::fs,b,e,P,he=>by
  unfold progC
  by_cases h1:(f==100)=true
  ·rw[h1,cond_true]
   obtain⟨v,hv⟩:=(runs_text 131072 (by decide)).bad b e he
   have hv':O_codec_Reader_Text ((b,e),131072)=some ((b,e),v):=hv
   rw[hv'];exact progC_bad K fs _ _ _ he
  ·rw[(dT _).mp h1,cond_false]
   by_cases h2:(f==101)=true
   ·rw[h2,cond_true]
    obtain⟨v,hv⟩:=runs_key.bad b e he
    rw[hv];exact progC_bad K fs _ _ _ he
   ·rw[(dT _).mp h2,cond_false]
    by_cases h3:(f==12)=true
    ·rw[h3,cond_true]
     obtain⟨v,hv⟩:=runs_signed.bad b e he
     rw[hv];exact progC_bad K fs _ _ _ he
    ·rw[(dT _).mp h3,cond_false]
     obtain⟨v,hv⟩:=runs_num.bad b e he
     rw[hv];exact progC_bad K fs _ _ _ he
theorem progS {α:Type} {O:List Int×Int->Option ((List Int×Int)×α)} {m:Rd α} (hr:Runs O m) (hs:∀l p,bytesIn l->m l = .ok p->∃a,l=a++p.2) (K:List Int×Int->Pk->Option Y) (fs:List Int) (g:α->Pk) {b:List Int} (hb:bytesIn b)
 (ih:∀(P:Pk) (r:List Int),bytesIn r->(∀q,rFields fs P r = .ok q->bytesIn q.2/\progC fs (r,0) P K=K (q.2,0) q.1)/\(∀e,rFields fs P r = .error e->e≠0/\∃b' P',progC fs (r,0) P K=K (b',e) P')):
 (∀q,((m.then fun x l=>.ok (g x,l)).then fun P'=>rFields fs P') b = .ok q->bytesIn q.2/\((O (b,0)).bind fun r=>progC fs r.1 (g r.2) K)=K (q.2,0) q.1)/\
 (∀e,((m.then fun x l=>.ok (g x,l)).then fun P'=>rFields fs P') b = .error e->e≠0/\∃b' P',((O (b,0)).bind fun r=>progC fs r.1 (g r.2) K)=K (b',e) P'):=by
 cases hm:m b with
 |ok p=>
  have e1:(m.then fun x l=>.ok (g x,l)) b = .ok (g p.1,p.2):=Rd.then_ok hm
  rw[Rd.then_ok e1,hr.ok b hb p hm]
  obtain⟨a,ha⟩:=hs b p hb hm
  exact ih (g p.1) p.2 (bytesIn_right (ha▸hb))
 |error e=>
  have e1:(m.then fun x l=>.ok (g x,l)) b = .error e:=Rd.then_error hm
  rw[Rd.then_error e1]
  obtain⟨he,b',v,hv⟩:=hr.error b hb e hm
  rw[hv]
  refine⟨fun q hq=>by(cases hq),fun e' h=>?_⟩
  injection h with h;subst h
  obtain⟨b2,P2,h2⟩:=progC_bad K fs b' e (g v) he
  exact⟨he,b2,P2,h2⟩
theorem num_short:∀l p,bytesIn l->rNum l = .ok p->∃a,l=a++p.2:=fun l p hl h=>let ⟨a,h1,_⟩:=rNum_short l p hl h;⟨a,h1⟩
theorem sgn_short:∀l p,bytesIn l->(rNum.then fun x l=>.ok (unsg x,l)) l = .ok p->∃a,l=a++p.2:=fun l p hl h=>by
 obtain⟨q,h1,h2⟩:=Rd.then_eq_ok h
 injection h2 with h2
 obtain⟨a,e1⟩:=num_short l q hl h1
 exact⟨a,by rw[e1,<-h2]⟩
theorem progC_eq (K:List Int×Int->Pk->Option Y):∀(fs:List Int) (P:Pk) (b:List Int),bytesIn b->
 (∀q,rFields fs P b = .ok q->bytesIn q.2/\progC fs (b,0) P K=K (q.2,0) q.1)/\(∀e,rFields fs P b = .error e->e≠0/\∃b' P',progC fs (b,0) P K=K (b',e) P')
 |[],P,b,hb=>⟨fun q h=>by injection h with h;rw[<-h];exact⟨hb,rfl⟩,fun e h=>by cases h⟩
 |f::fs,P,b,hb=>by
  have ih:=fun P r hr=>progC_eq K fs P r hr
  unfold progC rFields rField
  by_cases h1:(f==100)=true
  ·rw[h1,cond_true,cond_true]
   exact progS (runs_text 131072 (by decide)) (text_short 131072) K fs (fun t=>(P.1,t,P.2.2)) hb ih
  ·rw[(dT _).mp h1,cond_false,cond_false]
   by_cases h2:(f==101)=true
   ·rw[h2,cond_true,cond_true]
    exact progS runs_key key_short K fs (fun t=>(P.1,P.2.1,t)) hb ih
   ·rw[(dT _).mp h2,cond_false,cond_false]
    by_cases h3:(f==12)=true
    ·rw[h3,cond_true,cond_true]
     exact progS runs_signed sgn_short K fs (fun n=>setK P f n) hb ih
    ·rw[(dT _).mp h3,cond_false,cond_false]
     exact progS runs_num num_short K fs (fun n=>setK P f n) hb ih
end
theorem rdN_zero:∀(k i:Nat) (acc:Int) (l:List Int),(rdN k i acc l).2.1≠0->(rdN k i acc l).2.2=0
 |0,_,_,_,h=>rfl
 |_+1,_,_,[],h=>rfl
 |k+1,i,acc,x::r,h=>by
  simp only[rdN]at h |-
  split
  ·rfl
  ·rename_i c
   rw[if_neg c]at h
   split
   ·rename_i c2
    rw[if_pos c2]at h
    exact absurd rfl h
   ·rename_i c2
    rw[if_neg c2]at h
    exact rdN_zero k (i+1) _ r h
theorem num_error0 {b:List Int} (hb:bytesIn b) {e:Int} (h:rNum b = .error e):e≠0/\∃b',O_codec_Reader_Number (b,0)=some ((b',e),0):=by
 rw[rNum_eq _ hb]
 unfold rNum at h
 split at h
 ·cases h
 ·rename_i h0
  injection h with h
  unfold pNum
  simp only[if_true,h]
  rw[rdN_zero 8 0 0 b h0]
  exact⟨by rw[<-h];exact h0,_,rfl⟩
theorem kind_ok {b l:List Int} {n:Int} (hb:bytesIn b) (h:rNum b = .ok (n,l)):O_packet_kind (b,0)=some (if 1≤n/\n≤9 then ((l,0),n) else ((l,7),n)):=by
 unfold O_packet_kind
 rw[runs_num.ok b hb _ h]
 simp only[aB,O_codec_Reader_Err,beq_self_eq_true,cond_true]
 by_cases h1:n<1
 ·have:¬(1≤n/\n≤9):=by omega
  rw[if_neg this]
  simp only[h1,decide_true,Bool.true_beq,cond_false,aB,cond_true,fail_ok]
 ·by_cases h2:n>9
  ·have:¬(1≤n/\n≤9):=by omega
   rw[if_neg this]
   simp only[h1,h2,decide_true,decide_false,beq_self_eq_true,cond_true,aB,fail_ok]
  ·have:1≤n/\n≤9:=by omega
   rw[if_pos this]
   simp only[h1,h2,decide_false,beq_self_eq_true,cond_true,aB,cond_false]
theorem kind_error {b:List Int} {e:Int} (hb:bytesIn b) (h:rNum b = .error e):e≠0/\∃b',O_packet_kind (b,0)=some ((b',e),0):=by
 obtain⟨he,b',h1⟩:=num_error0 hb h
 refine⟨he,b',?_⟩
 have e1:(e==0)=false:=by simpa using he
 unfold O_packet_kind
 rw[h1]
 simp only[aB,O_codec_Reader_Err,e1,Bool.false_beq,cP,cond_false]
end Go.Ideal.Seat
namespace Go.Ideal.Seat
open Go.Ideal.Plain
def zer18:List Int:=[0,0,0,0,0,0,0,0,0,0,0,0,0,0,0,0,0,0]
def noPk:Pk:=(zer18,[],zeros32)
abbrev RefPk:=Int×List Int×List Int×List Int
def readOf (b:List Int):RefPk×Int:=match rNum b with
 |.error e=>((0,noPk),e)
 |.ok (k,l)=>if fieldsOf k=[] then ((0,noPk),7) else match rFields (fieldsOf k) noPk l with
  |.error e=>((0,noPk),e)
  |.ok (P,r)=>if r=[] then (if rightOf k P.1 P.2.1 P.2.2=true then ((k,P),0) else ((0,noPk),6)) else ((0,noPk),5)
abbrev FullPk:=Int×Int×Int×Int×Int×List Int×Int×Int×Int×Int×Int×Int×Int×Int×Int×Int×Int×List Int×Int×Int
def unRef (k:Int) (P:Pk):FullPk:=(k,P.1.getD 0 0,P.1.getD 1 0,P.1.getD 2 0,P.1.getD 3 0,P.2.1,P.1.getD 4 0,P.1.getD 5 0,P.1.getD 6 0,P.1.getD 7 0,P.1.getD 8 0,P.1.getD 9 0,P.1.getD 10 0,P.1.getD 11 0,P.1.getD 12 0,P.1.getD 13 0,P.1.getD 14 0,P.2.2,P.1.getD 15 0,P.1.getD 16 0)
def noFull:FullPk:=(0,0,0,0,0,[],0,0,0,0,0,0,0,0,0,0,0,zeros32,0,0)
noncomputable def finishK (k:Int) (s:List Int×Int) (P:Pk):Option (FullPk×Int):=
 (O_codec_Reader_Done s).bind fun r=>bif r.2 != 0 then some (noFull,r.2) else (F_packet_Right (unRef k P)).bind fun r'=>bif !r' then some (noFull,6) else some (unRef k P,0)
theorem finish_bad (k:Int) (b:List Int) (e:Int) (P:Pk) (he:e≠0):finishK k (b,e) P=some (noFull,e):=by
 unfold finishK
 rw[done_eq,if_neg he]
 have:(e != 0)=true:=by simpa using he
 simp only[aB,this,cond_true]
def nums17 (P:Pk):Prop:=P.1.length=18/\P.1.getD 17 0=0
theorem list18 {l:List Int} (h:l.length=18):l=[l.getD 0 0,l.getD 1 0,l.getD 2 0,l.getD 3 0,l.getD 4 0,l.getD 5 0,l.getD 6 0,l.getD 7 0,l.getD 8 0,l.getD 9 0,l.getD 10 0,l.getD 11 0,l.getD 12 0,l.getD 13 0,l.getD 14 0,l.getD 15 0,l.getD 16 0,l.getD 17 0]:=by
 match l,h with
 |[a0,a1,a2,a3,a4,a5,a6,a7,a8,a9,a10,a11,a12,a13,a14,a15,a16,a17],_=>rfl
theorem ref_unRef (k:Int) (P:Pk) (h:nums17 P):F_batonlaw19_Ref (unRef k P)=some (k,P):=by
 obtain⟨n,d,i⟩:=P
 obtain⟨h1,h2⟩:=h
 have h1:n.length=18:=h1
 have h2:n.getD 17 0=0:=h2
 have e:=list18 h1
 rw[h2]at e
 rw[show F_batonlaw19_Ref (unRef k (n,d,i))=some (k,[n.getD 0 0,n.getD 1 0,n.getD 2 0,n.getD 3 0,n.getD 4 0,n.getD 5 0,n.getD 6 0,n.getD 7 0,n.getD 8 0,n.getD 9 0,n.getD 10 0,n.getD 11 0,n.getD 12 0,n.getD 13 0,n.getD 14 0,n.getD 15 0,n.getD 16 0,0],d,i) from rfl,<-e]
theorem right_unRef (k:Int) (P:Pk) (h:nums17 P):F_packet_Right (unRef k P)=some (rightOf k P.1 P.2.1 P.2.2):=by
 obtain⟨n,d,i⟩:=P
 obtain⟨h1,h2⟩:=h
 have h1:n.length=18:=h1
 have h2:n.getD 17 0=0:=h2
 have e:=list18 h1
 rw[h2]at e
 unfold unRef
 rw[pk_right]
 dsimp only
 rw[<-e]
theorem finish_ok (k:Int) (r:List Int) (P:Pk) (h:nums17 P):finishK k (r,0) P=some (if r=[] then (if rightOf k P.1 P.2.1 P.2.2=true then (unRef k P,0) else (noFull,6)) else (noFull,5)):=by
 unfold finishK
 rw[done_eq,if_pos rfl]
 by_cases hr:r=[]
 ·rw[if_pos hr,if_pos hr]
  simp only[aB,bne_self_eq_false,cond_false,right_unRef k P h]
  cases rightOf k P.1 P.2.1 P.2.2<;>rfl
 ·rw[if_neg hr,if_neg hr];rfl
theorem setK_17 {P:Pk} (h:nums17 P) {f:Int} (hf:f.toNat≠17) (v:Int):nums17 (setK P f v):=by
 refine⟨by unfold setK;simpa using h.1,?_⟩
 unfold setK
 have:=h.2
 simp only[aX]at this |-
 rw[List.getElem?_set_ne hf];exact this
theorem rFields_17:∀(fs:List Int) (P:Pk) (b:List Int) (q:Pk×List Int),(∀f∈fs,f.toNat≠17)->nums17 P->rFields fs P b = .ok q->nums17 q.1
 |[],P,b,q,hf,hp,h=>by injection h with h;rw[<-h];exact hp
 |f::fs,P,b,q,hf,hp,h=>by
  obtain⟨p,h1,h2⟩:=Rd.then_eq_ok h
  refine rFields_17 fs p.1 p.2 q (fun g hg=>hf g (by simp[hg])) ?_ h2
  have hf0:=hf f (by simp)
  unfold rField at h1
  by_cases c1:(f==100)=true
  ·rw[c1,cond_true]at h1
   obtain⟨p',_,h4⟩:=Rd.then_eq_ok h1
   injection h4 with h4;rw[<-h4];exact hp
  ·rw[(dT _).mp c1,cond_false]at h1
   by_cases c2:(f==101)=true
   ·rw[c2,cond_true]at h1
    obtain⟨p',_,h4⟩:=Rd.then_eq_ok h1
    injection h4 with h4;rw[<-h4];exact hp
   ·rw[(dT _).mp c2,cond_false]at h1
    by_cases c3:(f==12)=true
    ·rw[c3,cond_true]at h1
     obtain⟨p',_,h4⟩:=Rd.then_eq_ok h1
     injection h4 with h4;rw[<-h4];exact setK_17 hp hf0 _
    ·rw[(dT _).mp c3,cond_false]at h1
     obtain⟨p',_,h4⟩:=Rd.then_eq_ok h1
     injection h4 with h4;rw[<-h4];exact setK_17 hp hf0 _
theorem fields_17 (k:Int):∀f∈fieldsOf k,f.toNat≠17:=by
 unfold fieldsOf
 simp only[qI]
 repeat' split
 all_goals decide
theorem noPk_17:nums17 noPk:=⟨rfl,rfl⟩
theorem kind_read {k:Int} {l:List Int} (hl:bytesIn l):∃p,progC (fieldsOf k) (l,0) noPk (finishK k)=some (p,(match rFields (fieldsOf k) noPk l with
 |.error e=>(((0,noPk),e):RefPk×Int)
 |.ok (P,r)=>if r=[] then (if rightOf k P.1 P.2.1 P.2.2=true then ((k,P),0) else ((0,noPk),6)) else ((0,noPk),5)).2)/\
 F_batonlaw19_Ref p=some (match rFields (fieldsOf k) noPk l with
  |.error e=>(((0,noPk),e):RefPk×Int)
  |.ok (P,r)=>if r=[] then (if rightOf k P.1 P.2.1 P.2.2=true then ((k,P),0) else ((0,noPk),6)) else ((0,noPk),5)).1:=by
 obtain⟨h1,h2⟩:=progC_eq (finishK k) (fieldsOf k) noPk l hl
 cases hm:rFields (fieldsOf k) noPk l with
 |error e=>
  obtain⟨he,b',P',h3⟩:=h2 e hm
  exact⟨noFull,by rw[h3,finish_bad k b' e P' he],rfl⟩
 |ok q=>
  obtain⟨P,r⟩:=q
  have hp:=rFields_17 _ _ _ _ (fields_17 k) noPk_17 hm
  have h3:=(h1 _ hm).2
  rw[h3,finish_ok k r P hp]
  dsimp only
  by_cases c1:r=[]
  ·rw[if_pos c1,if_pos c1]
   by_cases c2:rightOf k P.1 P.2.1 P.2.2=true
   ·rw[if_pos c2,if_pos c2];exact⟨_,rfl,ref_unRef k P hp⟩
   ·rw[if_neg c2,if_neg c2];exact⟨_,rfl,rfl⟩
  ·rw[if_neg c1,if_neg c1];exact⟨_,rfl,rfl⟩
theorem fields_none {k:Int} (h:¬(1≤k/\k≤9)):fieldsOf k=[]:=by
 unfold fieldsOf
 have e1:(k==1)=false:=by simp;omega
 have e2:(k==2)=false:=by simp;omega
 have e3:(k==3)=false:=by simp;omega
 have e4:(k==4)=false:=by simp;omega
 have e5:(k==5)=false:=by simp;omega
 have e6:(k==6)=false:=by simp;omega
 have e7:(k==7)=false:=by simp;omega
 have e8:(k==8)=false:=by simp;omega
 have e9:(k==9)=false:=by simp;omega
 simp only[e1,e2,e3,e4,e5,e6,e7,e8,e9,cond_false]
theorem read_none (b:List Int) (e k:Int) (he:e≠0) (h:¬(1≤k/\k≤9)) (x:List Int) (hx:O_codec_NewReader x=some (x,0)) (hk:O_packet_kind (x,0)=some ((b,e),k)):F_packet_Read x=some (noFull,e):=by
 unfold F_packet_Read
 rw[hx,aB,hk,aB]
 have e1:(k==1)=false:=by simp;omega
 have e2:(k==2)=false:=by simp;omega
 have e3:(k==3)=false:=by simp;omega
 have e4:(k==4)=false:=by simp;omega
 have e5:(k==5)=false:=by simp;omega
 have e6:(k==6)=false:=by simp;omega
 have e7:(k==7)=false:=by simp;omega
 have e8:(k==8)=false:=by simp;omega
 have e9:(k==9)=false:=by simp;omega
 dsimp only
 rw[e1,cond_false,e2,cond_false,e3,cond_false,e4,cond_false,e5,cond_false,e6,cond_false,e7,cond_false,e8,cond_false,e9,cond_false]
 rw[pk_control,aB]
 have eb:∀(c:Bool) (u v:Int×Int),((bif c then some u else some v):Option (Int×Int))=some (bif c then u else v):=fun c u v=>by cases c<;>rfl
 rw[eb,aB]
 show progC [0,1,2] (b,e) noPk (finishK k)=_
 obtain⟨b',P',h3⟩:=progC_bad (finishK k) [0,1,2] b e noPk he
 rw[h3,finish_bad k b' e P' he]
theorem read_eq (x:List Int) (hb:bytesIn x) (hn:x.length≤2^36):∃p,F_packet_Read x=some (p,(readOf x).2)/\F_batonlaw19_Ref p=some (readOf x).1:=by
 have hx:=newReader_eq x hn
 unfold readOf
 cases hm:rNum x with
 |error e=>
  obtain⟨he,b',h1⟩:=kind_error hb hm
  exact⟨noFull,read_none b' e 0 he (by decide) x hx h1,rfl⟩
 |ok q=>
  obtain⟨k,l⟩:=q
  have hk:=kind_ok hb hm
  obtain⟨a,ha⟩:=num_short x _ hb hm
  have hl:bytesIn l:=bytesIn_right (ha▸hb)
  by_cases c:1≤k/\k≤9
  ·rw[if_pos c]at hk
   have kr:=kind_read (k:=k) hl
   have hne:fieldsOf k≠[]:=by
    have:k=1\/k=2\/k=3\/k=4\/k=5\/k=6\/k=7\/k=8\/k=9:=by omega
    rcases this with rfl|rfl|rfl|rfl|rfl|rfl|rfl|rfl|rfl<;>decide
   dsimp only
   rw[if_neg hne]
   have e:F_packet_Read x=progC (fieldsOf k) (l,0) noPk (finishK k):=by
    unfold F_packet_Read
    rw[hx,aB,hk,aB]
    have:k=1\/k=2\/k=3\/k=4\/k=5\/k=6\/k=7\/k=8\/k=9:=by omega
    rcases this with rfl|rfl|rfl|rfl|rfl|rfl|rfl|rfl|rfl<;>rfl
   rw[e]
   exact kr
  ·rw[if_neg c]at hk
   dsimp only
   rw[if_pos (fields_none c)]
   exact⟨noFull,read_none l 7 k (by decide) c x hx hk,rfl⟩
end Go.Ideal.Seat
namespace Go.Ideal.Seat
open Go.Ideal.Plain
theorem rField_rest {f:Int} {P:Pk} {l:List Int} {q:Pk×List Int} (hl:bytesIn l) (h:rField f P l = .ok q):∃a,l=a++q.2:=by
 unfold rField at h
 by_cases c1:(f==100)=true
 ·rw[c1,cond_true]at h
  obtain⟨p',h3,h4⟩:=Rd.then_eq_ok h
  injection h4 with h4;rw[<-h4];exact text_short _ _ _ hl h3
 ·rw[(dT _).mp c1,cond_false]at h
  by_cases c2:(f==101)=true
  ·rw[c2,cond_true]at h
   obtain⟨p',h3,h4⟩:=Rd.then_eq_ok h
   injection h4 with h4;rw[<-h4];exact key_short _ _ hl h3
  ·rw[(dT _).mp c2,cond_false]at h
   by_cases c3:(f==12)=true
   ·rw[c3,cond_true]at h
    obtain⟨p',h3,h4⟩:=Rd.then_eq_ok h
    injection h4 with h4;rw[<-h4];exact sgn_short _ _ hl h3
   ·rw[(dT _).mp c3,cond_false]at h
    obtain⟨p',h3,h4⟩:=Rd.then_eq_ok h
    injection h4 with h4;rw[<-h4];exact num_short _ _ hl h3
def sized (P:Pk):Prop:=P.1.length=18/\P.2.2.length=32
theorem rField_sized {f:Int} {P:Pk} {l:List Int} {q:Pk×List Int} (hp:sized P) (h:rField f P l = .ok q):sized q.1:=by
 unfold rField at h
 by_cases c1:(f==100)=true
 ·rw[c1,cond_true]at h
  obtain⟨p',h3,h4⟩:=Rd.then_eq_ok h
  injection h4 with h4;rw[<-h4];exact hp
 ·rw[(dT _).mp c1,cond_false]at h
  by_cases c2:(f==101)=true
  ·rw[c2,cond_true]at h
   obtain⟨p',h3,h4⟩:=Rd.then_eq_ok h
   injection h4 with h4;rw[<-h4]
   refine⟨hp.1,?_⟩
   unfold rKey at h3
   split at h3
   ·rename_i c
    injection h3 with h3;rw[<-h3];simp;omega
   ·cases h3
  ·rw[(dT _).mp c2,cond_false]at h
   by_cases c3:(f==12)=true
   ·rw[c3,cond_true]at h
    obtain⟨p',h3,h4⟩:=Rd.then_eq_ok h
    injection h4 with h4;rw[<-h4];exact⟨by unfold setK;simpa using hp.1,hp.2⟩
   ·rw[(dT _).mp c3,cond_false]at h
    obtain⟨p',h3,h4⟩:=Rd.then_eq_ok h
    injection h4 with h4;rw[<-h4];exact⟨by unfold setK;simpa using hp.1,hp.2⟩
theorem rFields_rest:∀(fs:List Int) (P:Pk) (l:List Int) (q:Pk×List Int),bytesIn l->rFields fs P l = .ok q->∃a,l=a++q.2
 |[],P,l,q,hl,h=>by injection h with h;rw[<-h];exact⟨[],rfl⟩
 |f::fs,P,l,q,hl,h=>by
  obtain⟨p,h1,h2⟩:=Rd.then_eq_ok h
  obtain⟨a,ha⟩:=rField_rest hl h1
  obtain⟨c,hc⟩:=rFields_rest fs p.1 p.2 q (bytesIn_right (ha▸hl)) h2
  exact⟨a++c,by rw[ha,hc,bQ]⟩
theorem fieldsLoop {S X:Type} (b:List Int) (hb:bytesIn b) (fs:List Int) (mk:Int->Pk->Int->S) (er:Int->X) (fin:Int->Pk->X) {F:S->Option (S⊕X)}
 (h1:∀(i k:Nat) (f:Int) (P:Pk),fs[i]? = some f->k≤b.length->sized P->F (mk k P i)=some (match rField f P (b.drop k)with | .ok (P',r)=>.inl (mk ((b.length-r.length:Nat):Int) P' ((i+1:Nat):Int)) | .error e=>.inr (er e)))
 (h2:∀(k:Nat) (P:Pk),F (mk k P fs.length)=some (.inr (fin k P))) {k:Nat} {P:Pk} (hk:k≤b.length) (hp:sized P):
 cL F (mk k P 0)=some (match rFields fs P (b.drop k)with | .ok (P',r)=>fin ((b.length-r.length:Nat):Int) P' | .error e=>er e):=by
 have key:∀(n i k:Nat) (P:Pk),i+n=fs.length->k≤b.length->sized P->cL F (mk k P i)=some (match rFields (fs.drop i) P (b.drop k)with | .ok (P',r)=>fin ((b.length-r.length:Nat):Int) P' | .error e=>er e):=by
  intro n
  induction n with
  |zero=>
   intro i k P hi hk hp
   have:i=fs.length:=by omega
   subst this
   rw[fU (h2 k P)]
   have e:fs.drop fs.length=[]:=by simp
   rw[e]
   show _=some (fin ((b.length-(b.drop k).length:Nat):Int) P)
   have:b.length-(b.drop k).length=k:=by simp;omega
   rw[this]
  |succ n ih=>
   intro i k P hi hk hp
   have hlt:i<fs.length:=by omega
   have hh:=h1 i k _ P (aG hlt) hk hp
   rw[gO hlt]
   unfold rFields
   cases hm:rField fs[i] P (b.drop k) with
   |error e=>
    rw[hm]at hh
    rw[Rd.then_error hm,fU hh]
   |ok q=>
    rw[hm]at hh
    obtain⟨a,ha⟩:=rField_rest (bytesIn_drop hb k) hm
    have hlen:=congrArg List.length ha
    simp only[bW,aV]at hlen
    have hr:q.2=b.drop (b.length-q.2.length):=by
     have e1:b.drop (k+a.length)=q.2:=by rw[<-cM,ha,List.drop_left]
     have e2:b.length-q.2.length=k+a.length:=by omega
     rw[e2,e1]
    rw[Rd.then_ok hm,iN hh]
    have:=ih (i+1) (b.length-q.2.length) q.1 (by omega) (by omega) (rField_sized hp hm)
    rw[<-hr]at this
    exact this
 exact key fs.length 0 k P (by omega) hk hp
theorem setUp (l:List Int):∀(n:Nat) (a:List Int),n≤a.length->n≤l.length->upTo (fun i (a:List Int)=>a.set i (l.getD i 0)) n a=l.take n++a.drop n
 |0,a,_,_=>by simp[upTo]
 |n+1,a,h1,h2=>by
  have ih:=setUp l n a (by omega) (by omega)
  unfold upTo
  rw[ih]
  have e1:(l.take n++a.drop n).set n (l.getD n 0)=l.take n++(a.drop n).set 0 (l.getD n 0):=by
   rw[lH _ _ (by simp;omega)]
   congr 2
   simp;omega
  rw[e1,gO (show n<a.length by omega),List.set_cons_zero,List.take_succ_eq_append_getElem (show n<l.length by omega),aX,aG (show n<l.length by omega),bQ]
  rfl
theorem fields_rng (k:Int):∀f∈fieldsOf k,f=100\/f=101\/(0≤f/\f<17):=by
 unfold fieldsOf
 simp only[qI]
 repeat' split
 all_goals decide
end Go.Ideal.Seat
namespace Go.Ideal.Seat
open Go.Ideal.Plain
set_option allowUnsafeReducibility true
attribute [local reducible] zer18 noPk zeros32
theorem keyLoop (x:List Int) (at':Nat) (h:at'+32≤x.length) (hx:x.length≤2^36) (kd:Int) (nu da id:List Int) (hi:id.length=32):
 (cL (S:=Int×(List (Int))×(List (Int))×(List (Int))×Int) (X:=Int×(List (Int))×(List (Int))×(List (Int))×Int×Bool) (fun s296=>(bif (decide (s296.2.2.2.2<32)) then (bif decide (0≤(IntKind.wrap .i64 ((at':Int)+s296.2.2.2.2))) then ((x[((IntKind.wrap .i64 ((at':Int)+s296.2.2.2.2))).toNat]?).bind fun e297=>(bif decide (0≤s296.2.2.2.2) then (bif decide ((s296.2.2.2.2).toNat<32) then ((s296.2.2.2.1[(s296.2.2.2.2).toNat]?).bind fun e298=>(some (Sum.inl (s296.1,(s296.2.1,(s296.2.2.1,((s296.2.2.2.1.set (s296.2.2.2.2).toNat e297),(IntKind.wrap .i64 (s296.2.2.2.2+1))))))))) else none) else none)) else none) else (some (Sum.inr (s296.1,(s296.2.1,(s296.2.2.1,(s296.2.2.2.1,(s296.2.2.2.2,(decide (s296.2.2.2.2<32))))))))))) (kd,(nu,(da,(id,0)))))
 = some (kd,nu,da,(x.drop at').take 32,32,false):=by
 have hl:32≤(x.drop at').length:=by rw[bW];omega
 rw[countLoop 32 (mk:=fun(a:List Int) i=>(kd,nu,da,a,i)) (g:=fun i (a:List Int)=>a.set i ((x.drop at').getD i 0)) (inv:=fun _ a=>a.length=32) (fin:=fun a=>(kd,nu,da,a,32,false)) hi (fun a i hi2 ha=>?_) (fun a ha=>?_),setUp _ _ _ (by omega) hl]
 ·rw[dN (l:=id) (by omega),bA]
 ·have w1:IntKind.wrap .i64 ((at':Int)+(i:Int))=((at'+i:Nat):Int):=by rw[w64 (by omega) (by omega)];omega
  have w2:IntKind.wrap .i64 ((i:Int)+1)=((i+1:Nat):Int):=by rw[w64 (by omega) (by omega)];omega
  have d1:decide ((i:Int)<32)=true:=by simp;omega
  have d5:decide (i<32)=true:=by simp;omega
  have d2:decide ((0:Int)≤((at'+i:Nat):Int))=true:=by simp;omega
  have d3:decide ((0:Int)≤(i:Int))=true:=by simp
  have g1:x[at'+i]? = some ((x.drop at').getD i 0):=by
   rw[aX,gX,aG (show at'+i<x.length by omega)];rfl
  have g2:a[i]? = some (a[i]'(by omega)):=aG (by omega)
  dsimp only
  rw[w1,w2,d1,cond_true,d2,cond_true,aP,g1,aB,d3,cond_true,aP,d5,cond_true,g2,aB]
  exact⟨rfl,by simpa using ha⟩
 ·simp
theorem len_sub {b r:List Int} {j:Nat} (hj:j≤b.length) (h:r=b.drop j):((b.length-r.length:Nat):Int)=(j:Int):=by
 rw[h,bW];omega
theorem refRead_eq (x:List Int) (hb:bytesIn x):F_batonref19_Read x=some (readOf x):=by
 have hx:=hb.2
 unfold F_batonref19_Read readOf
 have rn:=ref_num x hb
 have rt:=ref_text x hb 131072 (by decide)
 cases hm:rNum x with
 |error e=>
  obtain⟨he,v,j,h1⟩:=rn.error 0 (by omega) e (by simpa using hm)
  have h1':F_batonref06_ReadNumber (x,0)=some (v,j,e):=h1
  have e1:(e != 0)=true:=by simpa using he
  rw[h1',aB]
  dsimp only
  rw[e1];rfl
 |ok q=>
  obtain⟨kd,l⟩:=q
  obtain⟨j0,hj0,hl,h1⟩:=rn.ok 0 (by omega) (kd,l) (by simpa using hm)
  have h1':F_batonref06_ReadNumber (x,0)=some (kd,(j0:Int),0):=h1
  have hl:l=x.drop j0:=hl
  rw[h1',aB]
  dsimp only
  rw[bne_self_eq_false,cond_false,pk_fields,aB]
  by_cases hf:fieldsOf kd=[]
  ·rw[if_pos hf,hf];rfl
  ·rw[if_neg hf]
   have hf2:((((fieldsOf kd).length:Nat):Int)==0)=false:=by
    have:(fieldsOf kd).length≠0:=by simpa using hf
    simp;exact hf
   rw[hf2,cond_false]
   have hlen:=fieldsOf_len kd
   rw[fieldsLoop x hb (fieldsOf kd) (mk:=fun k P i=>((0,zer18,[],zeros32,k,0,kd,P.1,P.2.1,P.2.2,i):Int×List Int×List Int×List Int×Int×Int×Int×List Int×List Int×List Int×Int))
    (er:=fun e=>Sum.inl ((0,zer18,[],zeros32,e):Int×List Int×List Int×List Int×Int)) (fin:=fun k P=>Sum.inr (0,zer18,[],zeros32,k,0,kd,P.1,P.2.1,P.2.2,((fieldsOf kd).length:Int),false)) (k:=j0) (P:=noPk) (fun i k f P hfi hk hp=>?_) (fun k P=>?_) hj0 ⟨rfl,rfl⟩]
   ·rw[<-hl]
    cases hr:rFields (fieldsOf kd) noPk l with
    |error e=>rfl
    |ok q=>
     obtain⟨P,r⟩:=q
     dsimp only
     rw[aB]
     dsimp only
     obtain⟨a,ha⟩:=rFields_rest _ _ _ _ (hl▸bytesIn_drop hb j0) hr
     have hlr:=congrArg List.length ha
     have hll:=congrArg List.length hl
     simp only[aV,bW]at hlr hll
     by_cases hre:r=[]
     ·have c:decide ((((x.length-r.length:Nat):Int))<((x.length:Nat):Int))=false:=by rw[hre];simp
      rw[c,cond_false,if_pos hre]
      have h18:P.1.length=18:=(rFields_17 _ _ _ _ (fields_17 kd) noPk_17 hr).1
      have:F_batonref19_Right (kd,P.1,P.2.1,P.2.2)=some (rightOf kd P.1 P.2.1 P.2.2):=pk_refRight _ _ _ _ h18
      rw[this,aB]
      cases rightOf kd P.1 P.2.1 P.2.2<;>rfl
     ·have hpos:0<r.length:=by cases r with|nil=>exact absurd rfl hre|cons _ _=>simp
      have c:decide ((((x.length-r.length:Nat):Int))<((x.length:Nat):Int))=true:=by simp;omega
      rw[c,cond_true,if_neg hre]
   ·have hi:=gU hfi
    have hrng:=fields_rng kd f (aL hfi)
    have d1:decide ((i:Int)<(((fieldsOf kd).length:Nat):Int))=true:=by simp;omega
    have d2:decide ((0:Int)≤(i:Int))=true:=by simp
    have w2:IntKind.wrap .i64 ((i:Int)+1)=((i+1:Nat):Int):=by rw[w64 (by omega) (by omega)];omega
    dsimp only
    rw[d1,cond_true,d2,cond_true,aP,hfi,aB,w2]
    unfold rField
    by_cases c1:(f==100)=true
    ·rw[c1,cond_true,cond_true]
     cases ht:rText 131072 (x.drop k) with
     |error e=>
      obtain⟨he,v,j,h3⟩:=rt.error k hk e ht
      have h3':F_batonref06_ReadText (x,(k:Int),131072)=some (v,j,e):=h3
      have e1:(e != 0)=true:=by simpa using he
      rw[Rd.then_error ht,h3']
      simp only[aB,e1,cond_true]
     |ok q=>
      obtain⟨j,hj,h3,h4⟩:=rt.ok k hk q ht
      have h4':F_batonref06_ReadText (x,(k:Int),131072)=some (q.1,(j:Int),0):=h4
      rw[Rd.then_ok ht,h4']
      simp only[aB,bne_self_eq_false,cond_false,len_sub hj h3]
    ·rw[(dT _).mp c1,cond_false,cond_false,cond_true,aB]
     by_cases c2:(f==101)=true
     ·rw[c2,cond_true,cond_true]
      have w3:IntKind.wrap .i64 (((x.length:Nat):Int)-(k:Int))=((x.length-k:Nat):Int):=by rw[w64 (by omega) (by omega)];omega
      rw[w3]
      by_cases c3:32≤(x.drop k).length
      ·have c3':k+32≤x.length:=by rw[bW]at c3;omega
       have d3:decide (((x.length-k:Nat):Int)<32)=false:=by simp;omega
       have hk32:rKey (x.drop k) = .ok ((x.drop k).take 32,(x.drop k).drop 32):=by unfold rKey;rw[if_pos c3]
       have w4:IntKind.wrap .i64 ((k:Int)+32)=((k+32:Nat):Int):=by rw[w64 (by omega) (by omega)];omega
       rw[d3,cond_false,Rd.then_ok hk32,keyLoop x k c3' hx kd P.1 P.2.1 P.2.2 hp.2,w4]
       simp only[aB,bne_self_eq_false,cond_false,cM,bW]
       have:x.length-(x.length-(k+32))=k+32:=by omega
       rw[this]
      ·have c3':¬k+32≤x.length:=by rw[bW]at c3;omega
       have d3:decide (((x.length-k:Nat):Int)<32)=true:=by simp;omega
       have hk32:rKey (x.drop k) = .error 4:=by unfold rKey;rw[if_neg c3]
       rw[d3,cond_true,Rd.then_error hk32]
       rfl
     ·rw[(dT _).mp c2,cond_false,cond_false]
      have hr1:0≤f/\f<17:=by
       rcases hrng with h|h|h
       ·rw[h]at c1;exact absurd rfl c1
       ·rw[h]at c2;exact absurd rfl c2
       ·exact h
      have d4:decide ((0:Int)≤f)=true:=by simp;omega
      have d5:decide (f.toNat<18)=true:=by simp;omega
      have g1:P.1[f.toNat]? = some (P.1[f.toNat]'(by have:=hp.1;omega)):=aG (by have:=hp.1;omega)
      have g1':(P.fst)[f.toNat]? = some (P.1[f.toNat]'(by have:=hp.1;omega)):=g1
      by_cases c4:(f==12)=true
      ·rw[c4,cond_true]
       cases ht:rNum (x.drop k) with
       |error e=>
        obtain⟨he,v,j,h3⟩:=rn.error k hk e ht
        have h3':F_batonref06_ReadNumber (x,(k:Int))=some (v,j,e):=h3
        have e1:(e != 0)=true:=by simpa using he
        rw[Rd.then_error (Rd.then_error ht),h3']
        simp only[aB,c4,cond_true,unsg_ref,d4,d5,g1',e1]
       |ok q=>
        obtain⟨j,hj,h3,h4⟩:=rn.ok k hk q ht
        have h4':F_batonref06_ReadNumber (x,(k:Int))=some (q.1,(j:Int),0):=h4
        have ht2:(rNum.then fun x l=>.ok (unsg x,l)) (x.drop k) = .ok (unsg q.1,q.2):=Rd.then_ok ht
        rw[Rd.then_ok ht2,h4']
        simp only[aB,c4,cond_true,unsg_ref,d4,d5,g1',bne_self_eq_false,cond_false,len_sub hj h3,setK]
      ·have c4:=(dT _).mp c4
       rw[c4,cond_false]
       cases ht:rNum (x.drop k) with
       |error e=>
        obtain⟨he,v,j,h3⟩:=rn.error k hk e ht
        have h3':F_batonref06_ReadNumber (x,(k:Int))=some (v,j,e):=h3
        have e1:(e != 0)=true:=by simpa using he
        rw[Rd.then_error ht,h3']
        simp only[aB,c4,cond_true,cond_false,d4,d5,g1',e1]
       |ok q=>
        obtain⟨j,hj,h3,h4⟩:=rn.ok k hk q ht
        have h4':F_batonref06_ReadNumber (x,(k:Int))=some (q.1,(j:Int),0):=h4
        rw[Rd.then_ok ht,h4']
        simp only[aB,c4,cond_true,d4,d5,g1',bne_self_eq_false,cond_false,len_sub hj h3,setK]
   ·simp
end Go.Ideal.Seat
namespace Go.Ideal.Seat
open Go.Ideal.Plain
def headOf (b:List Int):Int×Int×Int×Int:=match rNum b with
 |.error e=>(0,0,0,e)
 |.ok (k,l)=>if 1≤k/\k≤9 then (match rNum l with
  |.error e=>(0,0,0,e)
  |.ok (d,l2)=>match rNum l2 with
   |.error e=>(0,0,0,e)
   |.ok (n,_)=>(k,d,n,0)) else (0,0,0,7)
theorem err_eq (s:List Int×Int):O_codec_Reader_Err s=some (s,s.2):=rfl
theorem head_bad (x b:List Int) (e k:Int) (he:e≠0) (hn:x.length≤2^36) (hk:O_packet_kind (x,0)=some ((b,e),k)):F_packet_Head x=some (0,0,0,e):=by
 unfold F_packet_Head
 have e1:(e != 0)=true:=by simpa using he
 rw[newReader_eq x hn,aB,hk,aB]
 dsimp only
 rw[rNum_bad b he,aB]
 dsimp only
 rw[rNum_bad b he,aB]
 dsimp only
 rw[err_eq,aB]
 dsimp only
 rw[e1,cond_true]
theorem head_eq (x:List Int) (hb:bytesIn x):F_packet_Head x=some (headOf x):=by
 have hn:=hb.2
 unfold headOf
 cases hm:rNum x with
 |error e=>
  obtain⟨he,b',h1⟩:=kind_error hb hm
  exact head_bad x b' e 0 he hn h1
 |ok q=>
  obtain⟨k,l⟩:=q
  have hk:=kind_ok hb hm
  obtain⟨a,ha⟩:=num_short x _ hb hm
  have hl:bytesIn l:=bytesIn_right (ha▸hb)
  dsimp only
  by_cases c:1≤k/\k≤9
  ·rw[if_pos c]at hk |-
   unfold F_packet_Head
   rw[newReader_eq x hn,aB,hk,aB]
   dsimp only
   cases h1:rNum l with
   |error e=>
    obtain⟨he,b',v,h2⟩:=runs_num.error l hl e h1
    have e1:(e != 0)=true:=by simpa using he
    rw[h2,aB]
    dsimp only
    rw[rNum_bad b' he,aB]
    dsimp only
    rw[err_eq,aB]
    dsimp only
    rw[e1,cond_true]
   |ok q1=>
    obtain⟨d,l2⟩:=q1
    rw[runs_num.ok l hl _ h1,aB]
    obtain⟨a2,ha2⟩:=num_short l _ hl h1
    have hl2:bytesIn l2:=bytesIn_right (ha2▸hl)
    dsimp only
    cases h3:rNum l2 with
    |error e=>
     obtain⟨he,b',v,h2⟩:=runs_num.error l2 hl2 e h3
     have e1:(e != 0)=true:=by simpa using he
     rw[h2,aB]
     dsimp only
     rw[err_eq,aB]
     dsimp only
     rw[e1,cond_true]
    |ok q2=>
     rw[runs_num.ok l2 hl2 _ h3,aB]
     dsimp only
     rw[err_eq,aB]
     dsimp only
     rw[bne_self_eq_false,cond_false]
  ·rw[if_neg c]at hk |-
   exact head_bad x l 7 k (by decide) hn hk
theorem rField_data {f:Int} {P:Pk} {l:List Int} {q:Pk×List Int} (hl:bytesIn l) (hp:P.2.1.length≤2^36) (h:rField f P l = .ok q):q.1.2.1.length≤2^36:=by
 unfold rField at h
 by_cases c1:(f==100)=true
 ·rw[c1,cond_true]at h
  obtain⟨p',h3,h4⟩:=Rd.then_eq_ok h
  injection h4 with h4;rw[<-h4]
  unfold rText at h3
  obtain⟨p2,h5,h6⟩:=Rd.then_eq_ok h3
  obtain⟨a,ha⟩:=num_short l p2 hl h5
  have:=hl.2
  rw[ha,aV]at this
  split at h6
  ·cases h6
  ·split at h6
   ·cases h6
   ·injection h6 with h6
    rw[<-h6]
    show (List.take p2.1.toNat p2.2).length≤_
    rw[bP]
    omega
 ·rw[(dT _).mp c1,cond_false]at h
  by_cases c2:(f==101)=true
  ·rw[c2,cond_true]at h
   obtain⟨p',h3,h4⟩:=Rd.then_eq_ok h
   injection h4 with h4;rw[<-h4];exact hp
  ·rw[(dT _).mp c2,cond_false]at h
   by_cases c3:(f==12)=true
   ·rw[c3,cond_true]at h
    obtain⟨p',h3,h4⟩:=Rd.then_eq_ok h
    injection h4 with h4;rw[<-h4];exact hp
   ·rw[(dT _).mp c3,cond_false]at h
    obtain⟨p',h3,h4⟩:=Rd.then_eq_ok h
    injection h4 with h4;rw[<-h4];exact hp
theorem rFields_data:∀(fs:List Int) (P:Pk) (l:List Int) (q:Pk×List Int),bytesIn l->P.2.1.length≤2^36->rFields fs P l = .ok q->q.1.2.1.length≤2^36
 |[],P,l,q,hl,hp,h=>by injection h with h;rw[<-h];exact hp
 |f::fs,P,l,q,hl,hp,h=>by
  obtain⟨p,h1,h2⟩:=Rd.then_eq_ok h
  obtain⟨a,ha⟩:=rField_rest hl h1
  exact rFields_data fs p.1 p.2 q (bytesIn_right (ha▸hl)) (rField_data hl hp h1) h2
theorem readOf_data (x:List Int) (hb:bytesIn x):(readOf x).1.2.2.1.length<2^60:=by
 have z:noPk.2.1.length<2^60:=by decide
 unfold readOf
 cases hm:rNum x with
 |error e=>exact z
 |ok q=>
  obtain⟨k,l⟩:=q
  obtain⟨a,ha⟩:=num_short x _ hb hm
  have hl:bytesIn l:=bytesIn_right (ha▸hb)
  dsimp only
  split
  ·exact z
  ·cases hr:rFields (fieldsOf k) noPk l with
   |error e=>exact z
   |ok q2=>
    obtain⟨P,r⟩:=q2
    have:P.2.1.length≤2^36:=rFields_data _ _ _ _ hl (by decide) hr
    dsimp only
    split
    ·split
     ·show P.2.1.length<2^60;omega
     ·exact z
    ·exact z
theorem reads_awake:F_batonlaw19_awake ()=some true:=rfl
theorem reads_law (x:List Int) (h8:∀c∈x,IntKind.min .u8≤c/\c≤IntKind.max .u8):F_batonlaw19_PacketReads x=some true:=by
 unfold F_batonlaw19_PacketReads
 rw[reads_awake,aB,cP,cond_false]
 by_cases hg:x.length>400
 ·have:decide (((x.length:Nat):Int)>400)=true:=by simp;omega
  rw[this,cond_true]
 have hb:bytesIn x:=⟨fun c hc=>⟨(h8 c hc).1,Jh (h8 c hc).2 (by decide)⟩,by omega⟩
 have c0:decide (((x.length:Nat):Int)>400)=false:=by simp;omega
 rw[c0,cond_false]
 obtain⟨p,hp1,hp2⟩:=read_eq x hb hb.2
 rw[hp1,aB,refRead_eq x hb,aB]
 dsimp only
 rw[bne_self_eq_false,beq_self_eq_true,cond_true,hp2,aB]
 have hs:F_batonref19_Same ((readOf x).1,(readOf x).1)=some true:=by
  have e:=pk_refSame (readOf x).1.1 (readOf x).1.1 (readOf x).1.2.1 (readOf x).1.2.1 (readOf x).1.2.2.1 (readOf x).1.2.2.1 (readOf x).1.2.2.2 (readOf x).1.2.2.2 (readOf_data x hb)
  have e2:F_batonref19_Same ((readOf x).1,(readOf x).1)=F_batonref19_Same (((readOf x).1.1,(readOf x).1.2.1,(readOf x).1.2.2.1,(readOf x).1.2.2.2),((readOf x).1.1,(readOf x).1.2.1,(readOf x).1.2.2.1,(readOf x).1.2.2.2)):=rfl
  rw[e2,e]
  simp
 rw[hs,aB,cP,aB,cond_false]
 rw[head_eq x hb]
 have rn:=ref_num x hb
 unfold headOf
 cases hm:rNum x with
 |error e=>
  obtain⟨he,v,j,h1⟩:=rn.error 0 (by omega) e (by simpa using hm)
  have h1':F_batonref06_ReadNumber (x,0)=some (v,j,e):=h1
  have e1:(e==0)=false:=by simpa using he
  have e2:(e != 0)=true:=by simpa using he
  rw[h1',aB]
  simp only[aB,e1,e2,cond_true,cond_false,Bool.false_beq,cP,beq_self_eq_true]
 |ok q=>
  obtain⟨k,l⟩:=q
  obtain⟨j0,hj0,hl,h1⟩:=rn.ok 0 (by omega) (k,l) (by simpa using hm)
  have h1':F_batonref06_ReadNumber (x,0)=some (k,(j0:Int),0):=h1
  have hl:l=x.drop j0:=hl
  rw[h1',aB]
  dsimp only
  by_cases c:1≤k/\k≤9
  ·have d1:decide (k<1)=false:=by simp;omega
   have d2:decide (k>9)=false:=by simp;omega
   rw[if_pos c]
   simp only[beq_self_eq_true,cond_true,d1,d2,aB,cond_false]
   rw[hl]
   cases h2:rNum (x.drop j0) with
   |error e=>
    obtain⟨he,v,j,h3⟩:=rn.error j0 hj0 e h2
    have h3':F_batonref06_ReadNumber (x,(j0:Int))=some (v,j,e):=h3
    have e1:(e==0)=false:=by simpa using he
    have e2:(e != 0)=true:=by simpa using he
    rw[h3']
    simp only[aB,e1,e2,cond_true,cond_false,beq_self_eq_true]
   |ok q1=>
    obtain⟨d,l2⟩:=q1
    obtain⟨j1,hj1,hl2,h3⟩:=rn.ok j0 hj0 (d,l2) h2
    have h3':F_batonref06_ReadNumber (x,(j0:Int))=some (d,(j1:Int),0):=h3
    have hl2:l2=x.drop j1:=hl2
    rw[h3']
    simp only[aB,beq_self_eq_true,cond_true,hl2]
    cases h4:rNum (x.drop j1) with
    |error e=>
     obtain⟨he,v,j,h5⟩:=rn.error j1 hj1 e h4
     have h5':F_batonref06_ReadNumber (x,(j1:Int))=some (v,j,e):=h5
     have e1:(e==0)=false:=by simpa using he
     have e2:(e != 0)=true:=by simpa using he
     rw[h5']
     simp only[aB,e1,e2,cond_true,cond_false,beq_self_eq_true]
    |ok q2=>
     obtain⟨n,l3⟩:=q2
     obtain⟨j2,hj2,hl3,h5⟩:=rn.ok j1 hj1 (n,l3) h4
     have h5':F_batonref06_ReadNumber (x,(j1:Int))=some (n,(j2:Int),0):=h5
     rw[h5']
     simp only[aB,cond_true,cond_false,beq_self_eq_true,bne_self_eq_false]
  ·have d1:(bif decide (k<1)==false then some (decide (k>9)) else some true)=some true:=by
    by_cases c1:k<1
    ·rw[decide_eq_true c1];rfl
    ·rw[decide_eq_false c1,decide_eq_true (show k>9 by omega)];rfl
   rw[if_neg c,beq_self_eq_true,beq_self_eq_true,cond_true,d1]
   rfl
end Go.Ideal.Seat
