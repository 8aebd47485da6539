/- Loops and numbers: plain facts. -/
import Derived.Test.YtbkfoogenhinfaaJc
import Derived.Test.YtbkfoogenhinfaaSf
set_option linter.unusedVariables false
set_option linter.unusedSimpArgs false
set_option maxRecDepth 4000
namespace Go.Ideal.Plain
theorem w64 {x:Int} (h1:-9223372036854775808≤x) (h2:x≤9223372036854775807):IntKind.wrap .i64 x=x:=Go.IntWalk.i64_in _ ⟨h1,h2⟩
section
variable {S X A E:Type}
theorem foldLoop {l:List E} (mk:A->Int->S) (g:A->E->A) (inv:Nat->A->Prop) {fin:A->X} {F:S->Option (S⊕X)} {a:A} (h0:inv 0 a)
 (h1:∀a i e,l[i]? = some e->i<l.length->inv i a->F (mk a i)=some (.inl (mk (g a e) ((i+1:Nat):Int)))/\inv (i+1) (g a e))
 (h2:∀a,inv l.length a->F (mk a l.length)=some (.inr (fin a))):cL F (mk a 0)=some (fin (l.foldl g a)):=by
 rw[uC (l:=l) (mk:=mk) (step:=Jr g) (fin:=fun a=>some (fin a)) inv (fun a i e he hv=>?_) (fun a i e a' he hv hs=>?_) (fun a hv=>?_) h0,Bi]
 ·rw[(h1 a i e he (gU he) hv).1];rfl
 ·simp only[Jr,aD,Sum.inl.injEq]at hs
  rw[<-hs];exact(h1 a i e he (gU he) hv).2
 ·rw[h2 a hv];rfl
theorem runLoop {l:List E} (mk:A->Int->S) (step:A->Nat->E->A⊕X) (inv:Nat->A->Prop) {fin:A->X} {F:S->Option (S⊕X)} {a:A} (h0:inv 0 a)
 (h1:∀a i e,l[i]? = some e->i<l.length->inv i a->(∃a',step a i e = .inl a'/\F (mk a i)=some (.inl (mk a' ((i+1:Nat):Int)))/\inv (i+1) a')\/∃x,step a i e = .inr x/\F (mk a i)=some (.inr x))
 (h2:∀a,inv l.length a->F (mk a l.length)=some (.inr (fin a))):cL F (mk a 0)=sS (fun a i e=>some (step a i e)) (fun a=>some (fin a)) 0 a l:=by
 refine uC (l:=l) (mk:=mk) inv (fun a i e he hv=>?_) (fun a i e a' he hv hs=>?_) (fun a hv=>?_) h0
 ·rcases h1 a i e he (gU he) hv with ⟨a',e1,e2,_⟩|⟨x,e1,e2⟩<;>simp[e1,e2]
 ·rcases h1 a i e he (gU he) hv with ⟨a'',e1,e2,e3⟩|⟨x,e1,e2⟩
  ·simp only[e1,aD,Sum.inl.injEq]at hs;rw[<-hs];exact e3
  ·simp[e1]at hs
 ·rw[h2 a hv];rfl
def upTo (g:Nat->A->A):Nat->A->A
 |0,a=>a
 |n+1,a=>g n (upTo g n a)
theorem countLoop (n:Nat) (mk:A->Int->S) (g:Nat->A->A) (inv:Nat->A->Prop) {fin:A->X} {F:S->Option (S⊕X)} {a:A} (h0:inv 0 a)
 (h1:∀a i,i<n->inv i a->F (mk a i)=some (.inl (mk (g i a) ((i+1:Nat):Int)))/\inv (i+1) (g i a))
 (h2:∀a,inv n a->F (mk a n)=some (.inr (fin a))):cL F (mk a 0)=some (fin (upTo g n a)):=by
 have key:∀m,m≤n->inv m (upTo g m a)/\cL F (mk a 0)=cL F (mk (upTo g m a) (m:Nat)):=by
  intro m
  induction m with
  |zero=>intro _;exact⟨h0,rfl⟩
  |succ m ih=>
   intro hm
   obtain⟨i1,i2⟩:=ih (by omega)
   obtain⟨j1,j2⟩:=h1 _ m (by omega) i1
   exact⟨j2,i2.trans (iN j1)⟩
 obtain⟨i1,i2⟩:=key n (aK _)
 rw[i2,fU (h2 _ i1)]
theorem allLoop {X:Type} {l:List E} (p:E->Bool) {F:Int->Option (Int⊕(Bool⊕X))} {z:X} (h1:∀(i:Nat) e,l[i]? = some e->F i=some (if p e=true then .inl ((i+1:Nat):Int) else .inr (.inl false)))
 (h2:F (l.length:Int)=some (.inr (.inr z))):cL F 0=some (if l.all p=true then .inr z else .inl false):=by
 rw[uC (l:=l) (mk:=fun(_:Unit) i=>i) (step:=fun _ _ e=>if p e=true then some (.inl ()) else some (.inr (.inl false))) (fin:=fun _=>some (.inr z)) (fun _ _=>True) ?_ (fun _ _ _ _ _ _ _=>trivial) ?_ trivial]
 ·have key:∀(r:List E) (i:Nat),sS (A:=Unit) (X:=Bool⊕X) (fun _ _ e=>if p e=true then some (.inl ()) else some (.inr (.inl false))) (fun _=>some (.inr z)) i () r=some (if r.all p=true then .inr z else .inl false):=by
   intro r
   induction r with
   |nil=>intro i;rfl
   |cons c r ih=>
    intro i
    simp only[sS]
    by_cases hc:p c=true
    ·have:(c::r).all p=r.all p:=by rw[gD,hc];rfl
     rw[if_pos hc,this]
     exact ih (i+1)
    ·have:(c::r).all p=false:=by rw[gD,(dT _).mp hc];rfl
     rw[if_neg hc,this];rfl
  exact key l 0
 ·intro _ i c hc _
  rw[h1 i c hc]
  by_cases hk:p c=true
  ·rw[if_pos hk,if_pos hk];rfl
  ·rw[if_neg hk,if_neg hk];rfl
 ·intro _ _;rw[h2];rfl
theorem sameLoop {X:Type} {l m:List E} (hl:l.length=m.length) (p:E->E->Bool) {F:Int->Option (Int⊕(Bool⊕X))} {z:X} (h1:∀(i:Nat) d e,l[i]? = some d->m[i]? = some e->F i=some (if p d e=true then .inl ((i+1:Nat):Int) else .inr (.inl false)))
 (h2:F (l.length:Int)=some (.inr (.inr z))):cL F 0=some (if (l.zip m).all (fun x=>p x.1 x.2)=true then .inr z else .inl false):=by
 refine allLoop (l:=l.zip m) (fun x=>p x.1 x.2) (fun i e he=>?_) ?_
 ·rw[Yu]at he
  exact h1 i e.1 e.2 he.1 he.2
 ·rw[List.length_zip,<-hl,Nat.min_self];exact h2
theorem zip_all_eq {l m:List E} (hl:l.length=m.length) {p:E×E->Bool} (hp:∀x,p x=true↔x.1=x.2):((l.zip m).all p=true)↔l=m:=by
 induction l generalizing m with
 |nil=>cases m<;>simp_all
 |cons a l ih=>
  cases m with
  |nil=>simp at hl
  |cons b m=>
   simp only[List.zip_cons_cons,gD,aF,hp,List.cons.injEq]
   rw[ih (by simpa using hl)]
theorem replicate_fold {n:Nat} (c d:E):upTo (fun i a=>a.set i c) n (List.replicate n d)=List.replicate n c:=by
 have key:∀m k,upTo (fun i a=>a.set i c) m (List.replicate (m+k) d)=List.replicate m c++List.replicate k d:=by
  intro m
  induction m with
  |zero=>intro k;simp[upTo]
  |succ m ih=>
   intro k
   simp only[upTo]
   have:=ih (k+1)
   rw[show m+1+k=m+(k+1) by omega,this,lH _ _ (by simp)]
   rw[List.replicate_succ' (n:=m),bQ]
   simp[sI]
 have:=key n 0
 simpa using this
theorem append_fold {n:Nat} (c:E):upTo (fun _ a=>a++[c]) n []=List.replicate n c:=by
 induction n with
 |zero=>rfl
 |succ n ih=>simp only[upTo,ih,List.replicate_succ']
end
end Go.Ideal.Plain
namespace Go.Ideal.Seat
open Go.Ideal.Plain
def B8 (l:List Int):Prop:=∀x∈l,0≤x/\x<256
theorem B8.app {a b:List Int} (ha:B8 a) (hb:B8 b):B8 (a++b):=fun x hx=>(aE.1 hx).elim (ha x) (hb x)
theorem B8.take {a:List Int} (ha:B8 a) (n:Nat):B8 (a.take n):=fun x hx=>ha x (bN hx)
theorem B8.drop {a:List Int} (ha:B8 a) (n:Nat):B8 (a.drop n):=fun x hx=>ha x (cU hx)
theorem B8.rep (n:Nat):B8 (List.replicate n 0):=fun x hx=>by rw[(List.mem_replicate.1 hx).2];omega
theorem B8.set {a:List Int} (ha:B8 a) (n:Nat) {v:Int} (h:0≤v/\v<256):B8 (a.set n v):=fun x hx=>(jL hx).elim (ha x) (fun e=>e▸h)
theorem wu8' (x:Int):IntKind.wrap .u8 x=x%256:=rfl
theorem wu32 (x:Int):IntKind.wrap .u32 x=x%4294967296:=rfl
theorem wu64 (x:Int):IntKind.wrap .u64 x=x%18446744073709551616:=rfl
def beP:Nat->Int->List Int
 |0,_=>[]
 |k+1,n=>beP k (n/256)++[n%256]
def beN (b:List Int):Int:=b.foldl (fun n x=>n*256+x) 0
theorem beP_len:∀(k:Nat) (n:Int),(beP k n).length=k
 |0,_=>rfl
 |k+1,n=>by simp[beP,beP_len k]
theorem beP_B8:∀(k:Nat) (n:Int),B8 (beP k n)
 |0,_=>fun x hx=>by cases hx
 |k+1,n=>(beP_B8 k _).app fun x hx=>by rw[eI]at hx;omega
theorem beN_snoc (b:List Int) (x:Int):beN (b++[x])=beN b*256+x:=by simp[beN]
theorem beN_beP:∀(k:Nat) (n:Int),0≤n->n<256^k->beN (beP k n)=n
 |0,n,h1,h2=>by simp at h2;simp[beP,beN];omega
 |k+1,n,h1,h2=>by
  rw[Ag]at h2
  rw[beP,beN_snoc,beN_beP k (n/256) (by omega) (by generalize (256:Int)^k=p at h2 |-;omega)];omega
theorem snocInd {P:List Int->Prop} (h0:P []) (h1:∀l x,P l->P (l++[x])) (l:List Int):P l:=by
 have key:∀r:List Int,P r.reverse:=fun r=>by
  induction r with
  |nil=>exact h0
  |cons x r ih=>rw[List.reverse_cons];exact h1 _ x ih
 have:=key l.reverse
 rwa [List.reverse_reverse]at this
theorem beN_lt:∀(l:List Int),B8 l->0≤beN l/\beN l<256^l.length:=by
 refine snocInd ?_ ?_
 ·intro _;simp[beN]
 ·intro l x ih h
  have hx:=h x (by simp)
  obtain⟨i1,i2⟩:=ih (fun y hy=>h y (by simp[hy]))
  rw[beN_snoc,aV,gS,Ag]
  generalize (256:Int)^l.length=p at i2 |-
  omega
theorem beP_beN:∀(l:List Int),B8 l->beP l.length (beN l)=l:=by
 refine snocInd ?_ ?_
 ·intro _;rfl
 ·intro l x ih h
  have hx:=h x (by simp)
  rw[aV,gS,beP,beN_snoc]
  have e1:(beN l*256+x)/256=beN l:=by omega
  have e2:(beN l*256+x)%256=x:=by omega
  rw[e1,e2,ih (fun y hy=>h y (by simp[hy]))]
theorem beP8 (n:Int):beP 8 n=[n/72057594037927936%256,n/281474976710656%256,n/1099511627776%256,n/4294967296%256,n/16777216%256,n/65536%256,n/256%256,n%256]:=by
 simp only[beP,bZ,cG]
 congr 1
 ·omega
 congr 1
 ·omega
 congr 1
 ·omega
 congr 1
 ·omega
 congr 1
 ·omega
 congr 1
 ·omega
theorem fdivP (n:Int) (k:Nat):Int.fdiv n (2^k)=n/2^k:=Int.fdiv_eq_ediv_of_nonneg _ (Int.le_of_lt (Int.pow_pos (by decide)))
theorem put8 (n:Int) (h1:0≤n) (h2:n<18446744073709551616):F_word_Put (n,8)=some (beP 8 n,0):=by
 unfold F_word_Put
 have c1:(bif ((decide ((8:Int)<1))==false) then (some (decide ((8:Int)>8))) else (some true))=some false:=rfl
 have c2:(bif ((decide ((8:Int)<8))==true) then (bif decide ((IntKind.wrap .u64 ((IntKind.wrap .i64 (8*8))))<0) then none else (some ((Int.fdiv n (2^min (Int.toNat (IntKind.wrap .u64 ((IntKind.wrap .i64 (8*8))))) (IntKind.bits .u64))) != 0))) else (some false))=some false:=rfl
 have c3:decide ((0:Int)≤8/\(8:Int)*((1+1:Nat):Int)≤bY)=true:=by unfold bY;decide
 simp only[c1,c2,c3,aB,cond_false,cond_true]
 rw[countLoop 8 (fun l i=>(l,i)) (fun i l=>l.set (7-i) (n/2^(8*i)%256)) (fun _ l=>l.length=8) (fin:=fun l=>(l,8,false)) (by rfl) (fun l i hi hl=>?_) (fun l hl=>?_)]
 ·simp only[aB,upTo,beP8]
  simp only[show (Int.toNat 8)=8 from rfl,List.replicate,List.set,Nat.reduceSub,Nat.reduceMul]
  simp
 ·refine⟨?_,by simp[hl]⟩
  have hr:(((List.replicate (Int.toNat 8) (0:Int)).length:Nat):Int)=8:=rfl
  have a1:(i:Int)<8:=by omega
  have a2:IntKind.wrap .i64 (8*(i:Int))=((8*i:Nat):Int):=by rw[w64 (by omega) (by omega)];omega
  have a3:IntKind.wrap .u64 ((8*i:Nat):Int)=((8*i:Nat):Int):=by rw[wu64];omega
  have a4:IntKind.wrap .i64 ((IntKind.wrap .i64 (8-1))-(i:Int))=((7-i:Nat):Int):=by rw[show IntKind.wrap .i64 (8-1)=7 from rfl,w64 (by omega) (by omega)];omega
  have a5:¬(((8*i:Nat):Int)<0):=by omega
  have a6:min (8*i) (IntKind.bits .u64)=8*i:=iK (by show 8*i≤64;omega)
  have a7:7-i<l.length:=by omega
  simp only[hr,a1,a2,a3,a4,a5,a6,decide_true,decide_false,cond_true,cond_false,aY,aP,a7,aG a7,aB,iE (show i<2^62 by omega),fdivP,wu8']
 ·rfl
theorem orB {a x:Int} (h1:0≤a) (h2:a<2^56) (h3:0≤x) (h4:x<256):((BitVec.ofInt (IntKind.bits .u64) (a*256)|||BitVec.ofInt (IntKind.bits .u64) x).toNat:Int)=a*256+x:=by
 obtain⟨m,rfl⟩:=fX h1
 obtain⟨k,rfl⟩:=fX h3
 have hm:m*256<2^64:=by omega
 have hk:k<2^8:=by omega
 have e1:(((m:Nat):Int)*256)=(((m*256:Nat)):Int):=by omega
 rw[e1]
 show ((BitVec.ofNat 64 (m*256)|||BitVec.ofNat 64 k).toNat:Int)=_
 rw[BitVec.toNat_or,gY,gY,iU hm,iU (by omega)]
 have:=Nat.shiftLeft_add_eq_or_of_lt hk m
 rw[Nat.shiftLeft_eq]at this
 rw[show m*256=m*2^8 by rfl,<-this];omega
theorem foldB (l:List Int) (h:B8 l) (hl:l.length≤8) (i:Nat) (hi:i<l.length) {a:Int} (ha:0≤a/\a<256^i):a<2^56:=by
 have:∀j,j<8->(256:Int)^j≤2^56:=by decide
 have:=this i (by omega)
 omega
theorem getW (l:List Int) (h:B8 l) (h1:1≤l.length) (h2:l.length≤8):F_word_Get l=some (beN l,0):=by
 unfold F_word_Get
 have c1:(bif ((decide ((((l.length):Nat):Int)<1))==false) then (some (decide ((((l.length):Nat):Int)>8))) else (some true))=some false:=by
  have a:¬((((l.length):Nat):Int)<1):=by omega
  have b:¬((((l.length):Nat):Int)>8):=by omega
  simp only[a,b,decide_false,beq_self_eq_true,cond_true]
 simp only[c1,aB,cond_false]
 rw[foldLoop (l:=l) (fun a i=>(a,i)) (fun a e=>a*256+e) (fun i a=>0≤a/\a<256^i) (fin:=fun a=>(a,(l.length:Int),false)) (by simp) (fun a i e he hi ha=>?_) (fun a ha=>by simp)]
 ·rfl
 ·have he2:=h e (aL he)
  have h56:=foldB l h h2 i hi ha
  have a1:(i:Int)<(l.length:Int):=by omega
  have a2:IntKind.wrap .u64 (a*2^min (Int.toNat 8) (IntKind.bits .u64))=a*256:=by
   show (a*256)%18446744073709551616=_;omega
  have a3:IntKind.wrap .u64 e=e:=by rw[wu64];omega
  refine⟨?_,?_⟩
  ·simp only[a1,decide_true,cond_true,aY,aP,he,aB,iE (show i<2^62 by omega),a2,a3,orB ha.1 h56 he2.1 he2.2]
   rw[wu64,vH (by omega) (by omega)]
  ·rw[Ag]
   generalize (256:Int)^i=q at ha |-
   omega
theorem refGet (l:List Int) (h:B8 l) (h2:l.length≤8):F_batonref01_Get l=some (beN l):=by
 unfold F_batonref01_Get
 rw[foldLoop (l:=l) (fun a i=>(a,i)) (fun a e=>a*256+e) (fun i a=>0≤a/\a<256^i) (fin:=fun a=>(a,(l.length:Int),false)) (by simp) (fun a i e he hi ha=>?_) (fun a ha=>by simp)]
 ·rfl
 ·have he2:=h e (aL he)
  have h56:=foldB l h h2 i hi ha
  have a1:(i:Int)<(l.length:Int):=by omega
  refine⟨?_,?_⟩
  ·simp only[a1,decide_true,cond_true,aY,aP,he,aB,iE (show i<2^62 by omega)]
   simp only[wu64]
   rw[vH (a:=a*256) (by omega) (by omega),vH (a:=e) (by omega) (by omega),vH (by omega) (by omega)]
  ·rw[Ag]
   generalize (256:Int)^i=q at ha |-
   omega
theorem eight_eq (n:Int) (h1:0≤n) (h2:n<9223372036854775808):O_batonref22_eight n=some (beP 8 n):=by
 unfold O_batonref22_eight
 rw[countLoop 8 (fun(a:Int×List Int) i=>(a.1,a.2,i)) (fun i a=>(a.1/256,(a.1%256)::a.2)) (fun i a=>0≤a.1/\a.1<9223372036854775808/\a.2.length=i) (a:=(n,[])) (fin:=fun a=>(a.1,a.2,8,false)) (by simp;omega) (fun a i hi ha=>?_) (fun a ha=>by rfl)]
 ·simp only[aB,upTo,beP,bZ,cG]
 ·obtain⟨a1,a2,a3⟩:=ha
  have b1:(i:Int)<8:=by omega
  have b2:IntKind.wrap .u8 (Int.tmod a.1 256)=a.1%256:=by rw[wu8',gG a1];omega
  have b3:IntKind.wrap .i64 (Int.tdiv a.1 256)=a.1/256:=by rw[gH a1,w64 (by omega) (by omega)]
  refine⟨?_,by omega,by omega,by simp[a3]⟩
  have b4:(([a.1%256]:List Int).length+a.2.length)*(1+1)≤bY:=by unfold bY;simp;omega
  simp only[b1,b2,b3,b4,decide_true,cond_true,iE (show i<2^62 by omega),cN]
end Go.Ideal.Seat
namespace Go.Ideal.Seat
open Go.Ideal.Plain
def stepN (c:Nat):Nat:=if c%2=1 then c/2 ^^^ 2197175160 else c/2
def entN:Nat->Nat->Nat
 |0,c=>c
 |k+1,c=>entN k (stepN c)
theorem stepN_lt {c:Nat} (h:c<2^32):stepN c<2^32:=by
 unfold stepN
 split
 ·exact oA (by omega) (by decide)
 ·omega
theorem entN_lt:∀(k:Nat) {c:Nat},c<2^32->entN k c<2^32
 |0,_,h=>h
 |k+1,_,h=>entN_lt k (stepN_lt h)
theorem xor_div2 (a b:Nat):(a ^^^ b)/2=a/2 ^^^ b/2:=by
 have:=Yi (a:=a) (b:=b) (i:=1)
 simpa [Yt]using this
theorem xor_mod2 (a b:Nat):(a ^^^ b)%2=(a%2+b%2)%2:=by
 have:=Nat.xor_mod_two_pow (a:=a) (b:=b) (n:=1)
 simp at this
 rw[this]
 rcases eN a with h|h<;>rcases eN b with h'|h'<;>simp[h,h']
theorem stepN_xor (a b:Nat):stepN (a ^^^ b)=stepN a ^^^ stepN b:=by
 unfold stepN
 rw[xor_mod2,xor_div2]
 rcases eN a with h|h<;>rcases eN b with h'|h'<;>simp[h,h']
 ·rw[wI]
 ·rw[wI,wI];congr 1;rw[Nat.xor_comm]
 ·rw[wI,Nat.xor_comm 2197175160,wI,Nat.xor_self,Nat.xor_zero]
theorem entN_xor:∀(k a b:Nat),entN k (a ^^^ b)=entN k a ^^^ entN k b
 |0,_,_=>rfl
 |k+1,a,b=>by simp only[entN];rw[stepN_xor,entN_xor k]
theorem stepN_two (y:Nat):stepN (2*y)=y:=by unfold stepN;rw[if_neg (by omega)];omega
theorem entN_pow:∀(k h:Nat),entN k (2^k*h)=h
 |0,h=>by simp[entN]
 |k+1,h=>by rw[entN,Nat.pow_succ,Af (2^k) 2,Nat.mul_assoc,stepN_two,entN_pow k]
theorem entN_eight (y:Nat):entN 8 y=y/256 ^^^ entN 8 (y%256):=by
 have h:(2^8*(y/256)) ^^^ (y%256)=y:=by
  have h1:=Nat.two_pow_add_eq_or_of_lt (show y%256<2^8 by omega) (y/256)
  have h2:(2^8*(y/256)) ^^^ (y%256)=(2^8*(y/256))|||(y%256):=by
   apply Nat.eq_of_testBit_eq
   intro i
   rw[Nat.testBit_xor,Nat.testBit_or]
   by_cases hi:i<8
   ·have:(2^8*(y/256)).testBit i=false:=by rw[Nat.testBit_two_pow_mul];simp;omega
    simp[this]
   ·have:(y%256).testBit i=false:=Nat.testBit_lt_two_pow (bM (show y%256<2^8 by omega) (Nat.pow_le_pow_right (by decide) (by omega)))
    simp[this]
  rw[h2,<-h1];omega
 have h3:=entN_xor 8 (2^8*(y/256)) (y%256)
 rw[h,entN_pow]at h3
 exact h3
theorem xor32 {a b:Nat} (ha:a<2^32) (hb:b<2^32):IntKind.wrap .u32 (((BitVec.ofInt (IntKind.bits .u32) (a:Int) ^^^ BitVec.ofInt (IntKind.bits .u32) (b:Int)).toNat:Nat))=((a ^^^ b:Nat):Int):=by
 have e:(BitVec.ofInt (IntKind.bits .u32) (a:Int) ^^^ BitVec.ofInt (IntKind.bits .u32) (b:Int)).toNat=a ^^^ b:=by
  show (BitVec.ofNat 32 a ^^^ BitVec.ofNat 32 b).toNat=_
  rw[BitVec.toNat_xor,gY,gY,iU ha,iU hb]
 have:=oA ha hb
 rw[e,wu32];omega
theorem and32 {a k:Nat} (ha:a<2^32) (hk:k<32):IntKind.wrap .u32 (((BitVec.ofInt (IntKind.bits .u32) (a:Int)&&&BitVec.ofInt (IntKind.bits .u32) ((2^k-1:Nat):Int)).toNat:Nat))=((a%2^k:Nat):Int):=by
 have hp:2^k<2^32:=Nat.pow_lt_pow_right (by decide) hk
 have e:(BitVec.ofInt (IntKind.bits .u32) (a:Int)&&&BitVec.ofInt (IntKind.bits .u32) ((2^k-1:Nat):Int)).toNat=a%2^k:=by
  show (BitVec.ofNat 32 a&&&BitVec.ofNat 32 (2^k-1)).toNat=_
  rw[BitVec.toNat_and,gY,gY,iU ha,iU (by omega),Nat.and_two_pow_sub_one_eq_mod]
 have:a%2^k≤a:=Nat.mod_le _ _
 rw[e,wu32];omega
theorem crcStep (c:Nat) (h:c<2^32):F_crc_step (c:Int)=some (stepN c:Int):=by
 unfold F_crc_step stepN
 have a1:=and32 (k:=1) h (by decide)
 have a2:Int.fdiv (c:Int) (2^min (Int.toNat 1) (IntKind.bits .u32))=((c/2:Nat):Int):=by
  show Int.fdiv (c:Int) (2^1)=_
  rw[fdivP];omega
 have a3:=xor32 (a:=c/2) (b:=2197175160) (by omega) (by decide)
 simp only[show (((2^1-1:Nat)):Int)=1 from rfl]at a1
 simp only[show ((2197175160:Nat):Int)=2197175160 from rfl]at a3
 simp only[a1,a2,a3]
 rcases eN c with h'|h'<;>simp[h']
theorem upTo_ent (k c:Nat):upTo (fun _ a=>stepN a) k c=entN k c:=by
 have:∀k c,entN k (stepN c)=stepN (entN k c):=fun k=>by
  induction k with
  |zero=>intro c;rfl
  |succ k ih=>intro c;rw[entN,entN,ih]
 induction k with
 |zero=>rfl
 |succ k ih=>rw[upTo,ih,entN,this]
theorem crcEntry (c:Nat) (h:c<2^32):F_crc_entry (c:Int)=some (entN 8 c:Int):=by
 unfold F_crc_entry
 rw[countLoop 8 (fun(a:Nat) i=>((a:Int),i)) (fun _ a=>stepN a) (fun _ a=>a<2^32) (a:=c) (fin:=fun a=>((a:Int),8,false)) h (fun a i hi ha=>?_) (fun a ha=>by rfl)]
 ·rw[upTo_ent];rfl
 ·have b1:(i:Int)<8:=by omega
  simp only[b1,decide_true,cond_true,crcStep a ha,aB,iE (show i<2^62 by omega),stepN_lt ha,and_self]
def crcN (b:List Int):Nat:=b.foldl (fun c x=>entN 8 (c ^^^ x.toNat)) 4294967295
def sumN (b:List Int):Nat:=4294967295-crcN b
theorem ones_sub {c:Nat} (h:c<2^32):4294967295 ^^^ c=4294967295-c:=by
 have e:(~~~(BitVec.ofNat 32 c)).toNat=2^32-1-c:=by rw[BitVec.toNat_not,gY,iU h]
 rw[<-BitVec.allOnes_xor,BitVec.toNat_xor,gY,iU h]at e
 exact e
theorem crcN_go (b:List Int) (hb:B8 b):∀c:Nat,c<2^32->b.foldl (fun c x=>entN 8 (c ^^^ x.toNat)) c<2^32:=by
 induction b with
 |nil=>intro c h;exact h
 |cons x r ih=>
  intro c h
  have hx:=hb x (by simp)
  exact ih (fun y hy=>hb y (by simp[hy])) _ (entN_lt 8 (oA h (by omega)))
theorem crcN_lt {b:List Int} (hb:B8 b):crcN b<2^32:=crcN_go b hb _ (by decide)
theorem crcMore (b:List Int) (hb:B8 b) (hl:b.length<2^60):F_crc_More (0,b)=some (sumN b:Int):=by
 unfold F_crc_More
 have i0:IntKind.wrap .u32 (((BitVec.ofInt (IntKind.bits .u32) (IntKind.max .u32) ^^^ BitVec.ofInt (IntKind.bits .u32) 0).toNat:Nat))=((4294967295:Nat):Int):=by decide
 simp only[i0]
 rw[foldLoop (l:=b) (fun(a:Nat) i=>((a:Int),i)) (fun a x=>entN 8 (a ^^^ x.toNat)) (fun _ a=>a<2^32) (a:=4294967295) (fin:=fun a=>((a:Int),(b.length:Int),false)) (by decide) (fun a i e he hi ha=>?_) (fun a ha=>by simp)]
 ·have hc:=crcN_lt hb
  have:=xor32 (a:=4294967295) (b:=crcN b) (by decide) hc
  rw[ones_sub hc]at this
  simp only[aB,sumN]
  exact congrArg some this
 ·have hx:=hb e (aL he)
  obtain⟨k,rfl⟩:=fX hx.1
  have hk:k<2^8:=by omega
  have b1:(i:Int)<(b.length:Int):=by omega
  have b2:IntKind.wrap .u32 ((k:Nat):Int)=((k:Nat):Int):=by rw[wu32];omega
  have b3:=xor32 (a:=a) (b:=k) ha (by omega)
  have hlt:=oA ha (show k<2^32 by omega)
  have b4:=and32 (k:=8) hlt (by decide)
  simp only[show (((2^8-1:Nat)):Int)=255 from rfl]at b4
  have b5:Int.fdiv (a:Int) (2^min (Int.toNat 8) (IntKind.bits .u32))=((a/256:Nat):Int):=by
   show Int.fdiv (a:Int) (2^8)=_
   rw[fdivP];omega
  have b6:=xor32 (a:=a/256) (b:=entN 8 ((a ^^^ k)%2^8)) (by omega) (entN_lt 8 (by omega))
  have b7:(a ^^^ k)/256=a/256:=by
   have:=Yi (a:=a) (b:=k) (i:=8)
   simp only[Yt]at this
   rw[show k/2^8=0 by omega,Nat.xor_zero]at this
   exact this
  refine⟨?_,entN_lt 8 (by simpa using hlt)⟩
  simp only[b1,decide_true,cond_true,aY,aP,he,aB,iE (show i<2^62 by omega),b2,b3,b4,crcEntry _ (show (a ^^^ k)%2^8<2^32 by omega),b5,b6]
  rw[entN_eight (a ^^^ k),b7]
def sum4 (b:List Int):List Int:=[(sumN b:Int)%256,(sumN b:Int)/256%256,(sumN b:Int)/65536%256,(sumN b:Int)/16777216%256]
theorem sum4_len (b:List Int):(sum4 b).length=4:=rfl
theorem sum4_B8 (b:List Int):B8 (sum4 b):=fun x hx=>by
 simp only[sum4,aQ,Rp,or_false]at hx
 omega
theorem sumN_lt (b:List Int):sumN b<2^32:=by unfold sumN;omega
theorem sums_eq (b:List Int) (hb:B8 b) (hl:b.length<2^60):F_record_sums b=some (sum4 b):=by
 unfold F_record_sums F_crc_Sum
 rw[crcMore b hb hl]
 have:=sumN_lt b
 have a1:Int.fdiv ((sumN b:Nat):Int) (2^min (Int.toNat 8) (IntKind.bits .u32))=(sumN b:Int)/256:=fdivP _ 8
 have a2:Int.fdiv ((sumN b:Nat):Int) (2^min (Int.toNat 16) (IntKind.bits .u32))=(sumN b:Int)/65536:=fdivP _ 16
 have a3:Int.fdiv ((sumN b:Nat):Int) (2^min (Int.toNat 24) (IntKind.bits .u32))=(sumN b:Int)/16777216:=fdivP _ 24
 simp only[aB,a1,a2,a3,wu8',sum4]
theorem refMore (b:List Int) (hb:B8 b) (hl:b.length<2^60):F_batonref07_More (0,b)=some (sumN b:Int):=by
 unfold F_batonref07_More
 have i0:IntKind.wrap .u32 (4294967295-0)=((4294967295:Nat):Int):=by decide
 simp only[i0]
 rw[foldLoop (l:=b) (fun(a:Nat) i=>((a:Int),i)) (fun a x=>entN 8 (a ^^^ x.toNat)) (fun _ a=>a<2^32) (a:=4294967295) (fin:=fun a=>((a:Int),(b.length:Int),false)) (by decide) (fun a i e he hi ha=>?_) (fun a ha=>by simp)]
 ·have hc:=crcN_lt hb
  simp only[aB,sumN]
  rw[wu32]
  change some ((4294967295-((crcN b:Nat):Int))%4294967296)=_
  congr 1
  omega
 ·have hx:=hb e (aL he)
  obtain⟨k,rfl⟩:=fX hx.1
  have b1:(i:Int)<(b.length:Int):=by omega
  have b2:IntKind.wrap .u32 ((k:Nat):Int)=((k:Nat):Int):=by rw[wu32];omega
  have b3:=xor32 (a:=a) (b:=k) ha (by omega)
  have hlt:=oA ha (show k<2^32 by omega)
  refine⟨?_,entN_lt 8 (by simpa using hlt)⟩
  simp only[b1,decide_true,cond_true,aY,aP,he,aB,iE (show i<2^62 by omega),b2,b3]
  rw[countLoop 8 (fun(a:Nat) i=>((a:Int),i)) (fun _ a=>stepN a) (fun _ a=>a<2^32) (a:=a ^^^ k) (fin:=fun a=>((a:Int),8,false)) hlt (fun a i hi ha=>?_) (fun a ha=>by rfl)]
  ·rw[upTo_ent];rfl
  ·have d1:(i:Int)<8:=by omega
   have d2:Int.tmod (a:Int) 2=((a%2:Nat):Int):=by rw[gG (by omega)];omega
   have d3:IntKind.wrap .u32 (Int.tdiv (a:Int) 2)=((a/2:Nat):Int):=by rw[gH (by omega),wu32];omega
   have d4:=xor32 (a:=a/2) (b:=2197175160) (by omega) (by decide)
   simp only[show ((2197175160:Nat):Int)=2197175160 from rfl]at d4
   simp only[d1,decide_true,cond_true,d2,d3,d4,iE (show i<2^62 by omega),stepN_lt ha,and_true]
   unfold stepN
   rcases eN a with h'|h'<;>simp[h']
theorem refSum (b:List Int) (hb:B8 b) (hl:b.length<2^60):F_batonref22_Sum b=some (sum4 b):=by
 unfold F_batonref22_Sum
 rw[refMore b hb hl]
 have:=sumN_lt b
 have n0:(0:Int)≤((sumN b:Nat):Int):=by omega
 have a0:Int.tmod ((sumN b:Nat):Int) 256=(sumN b:Int)%256:=gG n0
 have a1:IntKind.wrap .u32 (Int.tdiv ((sumN b:Nat):Int) 256)=(sumN b:Int)/256:=by rw[gH n0,wu32];omega
 have a2:IntKind.wrap .u32 (Int.tdiv ((sumN b:Nat):Int) 65536)=(sumN b:Int)/65536:=by rw[gH n0,wu32];omega
 have a3:IntKind.wrap .u32 (Int.tdiv ((sumN b:Nat):Int) 16777216)=(sumN b:Int)/16777216:=by rw[gH n0,wu32];omega
 simp only[aB,a0,a1,a2,a3,wu8',sum4]
 rw[gG (show (0:Int)≤(sumN b:Int)/256 by omega),gG (show (0:Int)≤(sumN b:Int)/65536 by omega)]
 simp only[Int.emod_emod_of_dvd _ (show (256:Int) ∣256 by decide)]
end Go.Ideal.Seat
namespace Go.Ideal.Seat
open Go.Ideal.Plain
section
variable {E X:Type}
theorem findLoop {l:List E} (p:E->Bool) {F:Int->Option (Int⊕(Int⊕X))} {z:X} (h1:∀(i:Nat) e,l[i]? = some e->F i=some (if p e=true then .inr (.inl (i:Int)) else .inl ((i+1:Nat):Int)))
 (h2:F (l.length:Int)=some (.inr (.inr z))):cL F 0=some (match l.findIdx? p with|some i=>.inl (i:Int)|none=>.inr z):=by
 have key:∀k,k≤l.length->cL F ((l.length-k:Nat):Int)=some (match (l.drop (l.length-k)).findIdx? p with|some i=>.inl ((l.length-k+i:Nat):Int)|none=>.inr z):=by
  intro k
  induction k with
  |zero=>intro _;rw[hJ,fU h2];simp
  |succ k ih=>
   intro hk
   have hlt:l.length-(k+1)<l.length:=by omega
   have hs:l.length-(k+1)+1=l.length-k:=by omega
   have e:=h1 (l.length-(k+1)) _ (aG hlt)
   rw[gO hlt,List.findIdx?_cons]
   by_cases hp:p l[l.length-(k+1)]=true
   ·rw[if_pos hp]at e
    rw[fU e,if_pos hp];simp
   ·rw[if_neg hp]at e
    rw[iN e,if_neg hp,hs,ih (by omega)]
    cases (List.drop (l.length-k) l).findIdx? p with
    |none=>rfl
    |some i=>simp only[cK];congr 3;omega
 have:=key l.length (aK _)
 simpa using this
end
theorem findIdx_none {l:List Int} {p:Int->Bool}:(l.findIdx? p=none)↔∀x∈l,p x=false:=by
 rw[List.findIdx?_eq_none_iff]
theorem bequal (a b:List Int) (h:a.length<2^60):F_slices_Equal_byte_byte (a,b)=some (decide (a=b)):=by
 unfold F_slices_Equal_byte_byte
 by_cases hl:a.length=b.length
 ·have hne:((((a.length):Nat):Int) != (((b.length):Nat):Int))=false:=by simp[hl]
  simp only[hne,cond_false]
  rw[sameLoop (l:=a) (m:=b) hl (fun d e=>decide (d=e)) (z:=((a.length:Int),false)) (fun i d e hd he=>?_) (by simp)]
  ·have:=zip_all_eq (l:=a) (m:=b) hl (p:=fun x=>decide (x.1=x.2)) (by simp)
   by_cases hab:a=b
   ·rw[if_pos (this.2 hab)];simp[hab]
   ·rw[if_neg (fun h=>hab (this.1 h))];simp[hab]
  ·have hi:=gU hd
   have hi':(i:Int)<(a.length:Int):=by omega
   have hbq:(d != e) = !decide (d=e):=by by_cases h:d=e<;>simp[h]
   simp only[hi',decide_true,cond_true,aY,aP,hd,he,aB,hbq,iE (show i<2^62 by omega)]
   by_cases hde:d=e<;>simp[hde]
 ·have hne:((((a.length):Nat):Int) != (((b.length):Nat):Int))=true:=by simp;omega
  have:a≠b:=fun e=>hl (by rw[e])
  simp only[hne,cond_true,this,decide_false]
theorem bsame (a b:List Int) (h:a.length<2^60):F_batonref01_Same (a,b)=some (decide (a=b)):=bequal a b h
theorem cloneB (l:List Int) (h:l.length≤2^36):O_slices_Clone_byte_byte l=some l:=by
 unfold O_slices_Clone_byte_byte
 have hm:(([]:List Int).length+l.length)*(1+1)≤bY:=by unfold bY;simp;omega
 simp only[hm,decide_true,cond_true,bZ]
 refine Kq fun h=>?_
 have:l=[]:=by simpa using h
 rw[this]
theorem cloneC (l:List Int) (h:l.length≤2^36):F_slices_Clone_byte_byte_c l=some l:=cloneB l h
def recErr (g n:Int) (d:List Int):Int:=if g<0\/g≥72057594037927936\/n<0\/n≥72057594037927936 then 1 else if d.length>234 then 22 else 0
def recBody (g n:Int) (d:List Int):List Int:=beP 8 g++(beP 8 n++([(d.length:Int)]++(d++List.replicate (234-d.length) 0)))
def recB (g n:Int) (d:List Int):List Int:=recBody g n d++(sum4 (recBody g n d)++[0])
theorem recBody_len (g n:Int) {d:List Int} (h:d.length≤234):(recBody g n d).length=251:=by simp[recBody,beP_len];omega
theorem recBody_B8 (g n:Int) {d:List Int} (h:d.length≤234) (hd:B8 d):B8 (recBody g n d):=
 (beP_B8 8 g).app ((beP_B8 8 n).app (B8.app (fun x hx=>by rw[eI]at hx;omega) (hd.app (B8.rep _))))
theorem recB_len (g n:Int) {d:List Int} (h:d.length≤234):(recB g n d).length=256:=by
 simp[recB,recBody_len g n h,sum4_len]
theorem recB_B8 (g n:Int) {d:List Int} (h:d.length≤234) (hd:B8 d):B8 (recB g n d):=
 (recBody_B8 g n h hd).app ((sum4_B8 _).app fun x hx=>by rw[eI]at hx;omega)
theorem recErr_zero {g n:Int} {d:List Int}:recErr g n d=0↔(0≤g/\g<72057594037927936/\0≤n/\n<72057594037927936/\d.length≤234):=by
 unfold recErr
 split
 ·constructor
  ·intro h;cases h
  ·intro h;omega
 ·split
  ·constructor
   ·intro h;cases h
   ·intro h;omega
  ·constructor
   ·intro _;omega
   ·intro _;rfl
theorem make_eq (g n:Int) (d:List Int) (hd:B8 d) (hl:d.length≤2^36):O_record_Make (g,n,d)=some (if recErr g n d=0 then recB g n d else [],recErr g n d):=by
 unfold O_record_Make
 have c1:(bif ((decide (g<0))==false) then (bif ((decide (g≥72057594037927936))==false) then (bif ((decide (n<0))==false) then (some (decide (n≥72057594037927936))) else (some true)) else (some true)) else (some true))=some (decide (g<0\/g≥72057594037927936\/n<0\/n≥72057594037927936)):=by
  by_cases a:g<0<;>by_cases b:g≥72057594037927936<;>by_cases c:n<0<;>by_cases d:n≥72057594037927936<;>simp[a,b,c,d]<;>omega
 simp only[c1,aB]
 by_cases h1:g<0\/g≥72057594037927936\/n<0\/n≥72057594037927936
 ·simp only[recErr,if_pos h1,h1,decide_true,cond_true];rfl
 ·simp only[recErr,if_neg h1,h1,decide_false,cond_false]
  by_cases h2:d.length>234
  ·have h2':(((d.length:Nat):Int)>234):=by omega
   simp only[h2',decide_true,cond_true,if_pos h2];rfl
  ·have h2':¬(((d.length:Nat):Int)>234):=by omega
   simp only[h2',decide_false,cond_false,if_neg h2,if_true]
   have w1:IntKind.wrap .u64 g=g:=by rw[wu64];omega
   have w2:IntKind.wrap .u64 n=n:=by rw[wu64];omega
   have w3:IntKind.wrap .u8 ((d.length:Nat):Int)=((d.length:Nat):Int):=by rw[wu8'];omega
   have cat:O_slices_Concat_byte_byte [beP 8 g,beP 8 n,[((d.length:Nat):Int)]]=some (beP 8 g++(beP 8 n++[((d.length:Nat):Int)])):=by
    have f:[beP 8 g,beP 8 n,[((d.length:Nat):Int)]].flatten=beP 8 g++(beP 8 n++[((d.length:Nat):Int)]):=by simp
    have m1:[beP 8 g,beP 8 n,[((d.length:Nat):Int)]].length≤bY:=by show 3≤bY;unfold bY;decide
    have m2:(beP 8 g++(beP 8 n++[((d.length:Nat):Int)])).length*2≤bY:=by unfold bY;simp[beP_len]
    unfold O_slices_Concat_byte_byte Uh
    rw[f]
    simp only[cut,m1,m2,decide_true,cond_true]
   simp only[w1,w2,w3,put8 g (by omega) (by omega),put8 n (by omega) (by omega),aB,cat]
   have l1:(beP 8 g++(beP 8 n++[((d.length:Nat):Int)])).length=17:=by simp[beP_len]
   have l2:((beP 8 g++(beP 8 n++[((d.length:Nat):Int)]))++d).length=17+d.length:=by rw[aV,l1]
   have w4:IntKind.wrap .i64 (251-((17+d.length:Nat):Int))=((234-d.length:Nat):Int):=by rw[w64 (by omega) (by omega)];omega
   have m1:(17+d.length)*(1+1)≤bY:=by unfold bY;omega
   have m2:(0:Int)≤((234-d.length:Nat):Int)/\((234-d.length:Nat):Int)*((1+1:Nat):Int)≤bY:=by unfold bY;omega
   have m3:(17+d.length+(List.replicate (234-d.length) (0:Int)).length)*(1+1)≤bY:=by unfold bY;simp;omega
   have e1:(beP 8 g++(beP 8 n++[((d.length:Nat):Int)]))++d++List.replicate (234-d.length) 0=recBody g n d:=by simp[recBody]
   have hb:=recBody_len g n (d:=d) (by omega)
   have hb8:=recBody_B8 g n (d:=d) (by omega) hd
   simp only[l1,l2,w4,m1,m2,m3,decide_true,cond_true,and_self,aP,e1,sums_eq _ hb8 (by omega),aB,hb,sum4_len]
   have m4:(251+4)*(1+1)≤bY:=by unfold bY;decide
   have m5:((recBody g n d++sum4 (recBody g n d)).length+([0]:List Int).length)*(1+1)≤bY:=by rw[aV,hb,sum4_len];unfold bY;decide
   simp only[m4,m5,decide_true,cond_true,recB,bQ,if_false,if_true]
theorem refCheck (g n:Int) (d:List Int):F_batonref22_Check (g,n,d)=some (recErr g n d):=by
 unfold F_batonref22_Check recErr
 have c1:(bif ((decide (g<0))==false) then (bif ((decide (g>72057594037927935))==false) then (bif ((decide (n<0))==false) then (some (decide (n>72057594037927935))) else (some true)) else (some true)) else (some true))=some (decide (g<0\/g≥72057594037927936\/n<0\/n≥72057594037927936)):=by
  by_cases a:g<0<;>by_cases b:g>72057594037927935<;>by_cases c:n<0<;>by_cases d:n>72057594037927935<;>simp[a,b,c,d]<;>omega
 simp only[c1,aB]
 by_cases h1:g<0\/g≥72057594037927936\/n<0\/n≥72057594037927936
 ·simp only[h1,decide_true,cond_true,if_true]
 ·simp only[h1,decide_false,cond_false,if_false]
  by_cases h2:d.length>234
  ·have h2':(((d.length:Nat):Int)>234):=by omega
   simp only[h2',decide_true,cond_true,if_pos h2]
  ·have h2':¬(((d.length:Nat):Int)>234):=by omega
   simp only[h2',decide_false,cond_false,if_neg h2]
theorem fillLoop {X:Type} (m:Nat) {F:List Int->Option (List Int⊕X)} {fin:List Int->X} (h1:∀l,l.length<m->F l=some (.inl (l++[0]))) (h2:∀l,l.length=m->F l=some (.inr (fin l))) (l:List Int) (h:l.length≤m):cL F l=some (fin (l++List.replicate (m-l.length) 0)):=by
 have key:∀k l,l.length+k=m->cL F l=some (fin (l++List.replicate k 0)):=by
  intro k
  induction k with
  |zero=>intro l hl;rw[fU (h2 l hl)];simp
  |succ k ih=>
   intro l hl
   rw[iN (h1 l (by omega)),ih _ (by simp;omega),sI,bQ,cN]
 exact key _ l (by omega)
theorem refMake (g n:Int) (d:List Int) (hd:B8 d) (h:recErr g n d=0):F_batonref22_Make (g,n,d)=some (recB g n d):=by
 obtain⟨h1,h2,h3,h4,h5⟩:=recErr_zero.1 h
 unfold F_batonref22_Make
 have w3:IntKind.wrap .u8 ((d.length:Nat):Int)=((d.length:Nat):Int):=by rw[wu8'];omega
 simp only[eight_eq g h1 (by omega),eight_eq n h3 (by omega),aB,w3]
 have l1:(beP 8 g++beP 8 n).length=16:=by simp[beP_len]
 have l2:(beP 8 g++beP 8 n++[((d.length:Nat):Int)]).length=17:=by simp[beP_len]
 have m1:((beP 8 g).length+(beP 8 n).length)*(1+1)≤bY:=by rw[beP_len,beP_len];unfold bY;decide
 have m2:(16+([((d.length:Nat):Int)]:List Int).length)*(1+1)≤bY:=by unfold bY;simp
 have m3:(17+d.length)*(1+1)≤bY:=by unfold bY;omega
 simp only[l1,l2,m1,m2,m3,decide_true,cond_true]
 have l3:(beP 8 g++beP 8 n++[((d.length:Nat):Int)]++d).length=17+d.length:=by rw[aV,l2]
 rw[fillLoop 251 (fin:=fun l=>(l,false)) (fun l hl=>?_) (fun l hl=>?_) _ (by omega)]
 ·have e1:beP 8 g++beP 8 n++[((d.length:Nat):Int)]++d++List.replicate (251-(beP 8 g++beP 8 n++[((d.length:Nat):Int)]++d).length) 0=recBody g n d:=by
   rw[l3,show 251-(17+d.length)=234-d.length by omega];simp[recBody]
  have hb:=recBody_len g n h5
  simp only[e1,aB,refSum _ (recBody_B8 g n h5 hd) (by omega),hb,sum4_len]
  have m4:(251+4)*(1+1)≤bY:=by unfold bY;decide
  have m5:((recBody g n d++sum4 (recBody g n d)).length+([0]:List Int).length)*(1+1)≤bY:=by rw[aV,hb,sum4_len];unfold bY;decide
  simp only[m4,m5,decide_true,cond_true,recB,bQ]
 ·have a:(((l.length):Nat):Int)<251:=by omega
  have m:(l.length+([0]:List Int).length)*(1+1)≤bY:=by unfold bY;simp;omega
  simp only[a,m,decide_true,cond_true]
 ·have a:¬((((l.length):Nat):Int)<251):=by omega
  simp only[a,decide_false,cond_false]
end Go.Ideal.Seat
namespace Go.Ideal.Seat
open Go.Ideal.Plain
abbrev Rec:=Int×Int×List Int
def recBad (b:List Int):Prop:=beN (b.take 8)≥72057594037927936\/beN ((b.drop 8).take 8)≥72057594037927936\/b.getD 16 0>234\/((b.drop (17+(b.getD 16 0).toNat)).take (234-(b.getD 16 0).toNat)).all (· ==0)=false
noncomputable def recR (b:List Int):Rec×Int:=open Classical in
 if b.length≠256 then ((0,0,[]),22) else if b.getD 255 0=0 then ((0,0,[]),3) else if b.getD 255 0>1 then ((0,0,[]),6)
 else if sum4 (b.take 251)≠(b.drop 251).take 4 then ((0,0,[]),21) else if recBad b then ((0,0,[]),6)
 else ((beN (b.take 8),beN ((b.drop 8).take 8),(b.drop 17).take (b.getD 16 0).toNat),0)
theorem getD_some {b:List Int} {i:Nat} (h:i<b.length):b[i]? = some (b.getD i 0):=by
 rw[aG h,aX,aG h];rfl
theorem getD_B8 {b:List Int} (hb:B8 b) (i:Nat):0≤b.getD i 0/\b.getD i 0<256:=by
 by_cases h:i<b.length
 ·exact hb _ (aL (getD_some h))
 ·rw[aX,gT (by omega)];exact⟨by decide,by decide⟩
theorem all0 (l:List Int):(l.findIdx? fun x=>x != 0)=none↔l.all (· ==0)=true:=by
 rw[findIdx_none,bE]
 constructor
 ·intro h x hx;simpa using h x hx
 ·intro h x hx;simpa using h x hx
theorem recRead_eq (b:List Int) (hb:B8 b) (hlen:b.length≤2^36):O_record_Read b=some (recR b):=by
 classical
 unfold O_record_Read recR
 by_cases h0:b.length=256
 rotate_left
 ·have:((((b.length):Nat):Int) != 256)=true:=by simp;omega
  simp only[this,cond_true,ne_eq,h0,not_false_eq_true,if_true]
 have e0:((((256):Nat):Int) != 256)=false:=rfl
 have g255:b[255]? = some (b.getD 255 0):=getD_some (by omega)
 have g16:b[16]? = some (b.getD 16 0):=getD_some (by omega)
 have k16:=getD_B8 hb 16
 simp only[e0,cond_false,g255,g16,aB,ne_eq,h0,not_true_eq_false,if_false]
 by_cases h1:b.getD 255 0=0
 ·simp only[h1,beq_self_eq_true,cond_true,if_true]
 have e1:(b.getD 255 0==0)=false:=by simpa using h1
 simp only[e1,cond_false,h1,if_false]
 by_cases h2:b.getD 255 0>1
 ·simp only[h2,decide_true,cond_true,if_true]
 simp only[h2,decide_false,cond_false,if_false]
 have d1:(0≤251/\251≤256):=by decide
 have d2:(251≤255/\255≤256):=by decide
 have d3:(0≤8/\8≤256):=by decide
 have d4:(8≤16/\16≤256):=by decide
 have t251:(b.take 251).length=251:=by simp[h0]
 simp only[d1,d2,d3,d4,and_self,decide_true,cond_true,eO,hJ,Nat.reduceSub,sums_eq _ (hb.take 251) (by omega),aB,bequal (sum4 (b.take 251)) _ (by rw[sum4_len];omega)]
 by_cases h3:sum4 (b.take 251)=(b.drop 251).take 4
 rotate_left
 ·simp only[h3,decide_false,eP,cond_true,not_false_eq_true,if_true]
 simp only[h3,decide_true,cP,cond_false,not_true_eq_false,if_false]
 have la:(b.take 8).length=8:=by simp[h0]
 have lb:((b.drop 8).take 8).length=8:=by simp[h0]
 have w1:IntKind.wrap .i64 (b.getD 16 0)=b.getD 16 0:=w64 (by omega) (by omega)
 simp only[getW (b.take 8) (hb.take 8) (by omega) (by omega),getW ((b.drop 8).take 8) ((hb.drop 8).take 8) (by omega) (by omega),aB,w1]
 obtain⟨k,hk⟩:=fX k16.1
 have w2:IntKind.wrap .i64 (17+((k:Nat):Int))=((17+k:Nat):Int):=by rw[w64 (by omega) (by omega)];omega
 simp only[hk,w2,aP]
 have bn1:=(beN_lt _ (hb.take 8)).1
 have bn2:=(beN_lt _ ((hb.drop 8).take 8)).1
 by_cases hk2:k≤234
 rotate_left
 ·have q:(bif decide (((k:Nat):Int)>234)==false then (bif decide (0≤((17+k:Nat):Int)) then (none:Option Bool) else none) else some true)=some true:=by
   have:((k:Nat):Int)>234:=by omega
   simp only[this,decide_true];rfl
  have hbad:recBad b:=by unfold recBad;rw[hk];omega
  have q2:(((k:Nat):Int)>234):=by omega
  simp only[hbad,if_true]
  simp only[q2,decide_true,show (true==false)=false from rfl,cond_false]
  have q3:∀(c1 c2:Bool),(bif (c1==false) then (bif (c2==false) then (some true) else (some true)) else (some true))=some true:=by decide
  rw[q3];rfl
 have q2:¬(((k:Nat):Int)>234):=by omega
 have q4:17+k≤251/\251≤256:=by omega
 have lz:(((b.drop (17+k)).take (251-(17+k))).length)=251-(17+k):=by simp[h0];omega
 have loop:(cL (S:=Int) (X:=(Int)⊕(Int×Bool)) (fun s99=>(bif (decide (s99<(((((b.drop (17+k)).take (251-(17+k))).length):Nat):Int))) then (bif decide (0≤s99) then ((((b.drop (17+k)).take (251-(17+k)))[(s99).toNat]?).bind fun e100=>((F_record_Read_1 e100).bind fun r101=>(bif r101 then (some (Sum.inr (Sum.inl s99))) else (some (Sum.inl (IntKind.wrap .i64 (s99+1))))))) else none) else (some (Sum.inr (Sum.inr (s99,(decide (s99<(((((b.drop (17+k)).take (251-(17+k))).length):Nat):Int))))))))) 0)=some (match ((b.drop (17+k)).take (251-(17+k))).findIdx? (fun x=>x != 0)with|some i=>.inl (i:Int)|none=>.inr (((((b.drop (17+k)).take (251-(17+k))).length:Nat):Int),false)):=by
  refine findLoop (fun x=>x != 0) (fun i e he=>?_) (by simp)
  have hi:=gU he
  have hi':(i:Int)<((((b.drop (17+k)).take (251-(17+k))).length:Nat):Int):=by omega
  simp only[hi',decide_true,cond_true,aY,aP,he,aB,F_record_Read_1,iE (show i<2^62 by omega)]
  by_cases hz:(e != 0)=true
  ·simp only[hz,cond_true,if_true]
  ·simp only[(dT _).mp hz,cond_false];rfl
 simp only[q2,q4,decide_false,decide_true,beq_self_eq_true,cond_true,aY,and_self,loop,aB]
 have hz:((b.drop (17+k)).take (251-(17+k)))=((b.drop (17+k)).take (234-k)):=by rw[show 251-(17+k)=234-k by omega]
 have fin:∀{α:Type} (v:α),(match (((b.drop (17+k)).take (251-(17+k))).findIdx? (fun x=>x != 0):Option Nat)with|some i=>(Sum.inl (i:Int):Int⊕(Int×Bool))|none=>.inr (((((b.drop (17+k)).take (251-(17+k))).length:Nat):Int),false))=if ((b.drop (17+k)).take (234-k)).all (· ==0)=true then .inr (((((b.drop (17+k)).take (251-(17+k))).length:Nat):Int),false) else .inl (((((b.drop (17+k)).take (251-(17+k))).findIdx? (fun x=>x != 0)).getD 0:Nat):Int):=by
  intro _ _
  by_cases ha:((b.drop (17+k)).take (234-k)).all (· ==0)=true
  ·rw[if_pos ha,<-hz]at *
   rw[(all0 _).2 (by rw[hz];exact ha)]
  ·rw[if_neg ha]
   cases hf:((b.drop (17+k)).take (251-(17+k))).findIdx? (fun x=>x != 0) with
   |none=>rw[all0,hz]at hf;exact(ha hf).elim
   |some i=>rfl
 rw[fin ()]
 have hc:(17≤17+k/\17+k≤256):=by omega
 have hcl:O_slices_Clone_byte_byte ((b.drop 17).take (17+k-17))=some ((b.drop 17).take k):=by rw[show 17+k-17=k by omega];exact cloneB _ (by simp;omega)
 simp only[hc,decide_true,cond_true,and_self,hcl,aB]
 by_cases ha:((b.drop (17+k)).take (234-k)).all (· ==0)=true
 ·rw[if_pos ha]
  by_cases p1:beN (b.take 8)≥72057594037927936
  ·have hbad:recBad b:=by unfold recBad;omega
   simp only[p1,hbad,decide_true,if_true];rfl
  ·by_cases p2:beN ((b.drop 8).take 8)≥72057594037927936
   ·have hbad:recBad b:=by unfold recBad;omega
    simp only[p1,p2,hbad,decide_true,decide_false,if_true];rfl
   ·have hbad:¬recBad b:=by unfold recBad;rw[hk];simp only[aP,ha];simp;omega
    simp only[p1,p2,hbad,decide_false,beq_self_eq_true,cond_true,if_false,aB,show decide ((-1:Int)≥0)=false from rfl,cond_false]
    rw[w64 (by omega) (by omega),w64 (by omega) (by omega)]
 ·rw[if_neg ha]
  have hbad:recBad b:=by unfold recBad;rw[hk];simp only[aP];exact .inr (.inr (.inr ((dT _).mp ha)))
  have pos:decide (((((((b.drop (17+k)).take (251-(17+k))).findIdx? (fun x=>x != 0)).getD 0:Nat):Int))≥0)=true:=decide_eq_true (aY _)
  simp only[hbad,if_true,pos]
  have q3:∀(c1 c2:Bool),(bif (c1==false) then (bif (c2==false) then (some true) else (some true)) else (some true))=some true:=by decide
  rw[q3];rfl
end Go.Ideal.Seat
namespace Go.Ideal.Seat
open Go.Ideal.Plain
theorem beN_cons (x:Int) (l:List Int):beN (x::l)=x*256^l.length+beN l:=by
 have key:∀(l:List Int) (a:Int),l.foldl (fun n x=>n*256+x) a=a*256^l.length+beN l:=by
  refine snocInd ?_ ?_
  ·intro a;simp[beN]
  ·intro l y ih a
   rw[Nn,ih,beN_snoc,aV,gS,Ag]
   simp only[kZ,List.foldl_nil]
   rw[Int.add_mul,Int.mul_assoc];omega
 have:beN (x::l)=l.foldl (fun n x=>n*256+x) (0*256+x):=rfl
 rw[this,key];simp
theorem beN_first {l:List Int} (h:B8 l) (hl:l.length=8):beN l≥72057594037927936↔l.getD 0 0≠0:=by
 match l,hl with
 |x::r,hl=>
  have hr:r.length=7:=by simpa using hl
  have hx:=h x (by simp)
  have hlt:=beN_lt r (fun y hy=>h y (by simp[hy]))
  rw[hr,show (256:Int)^7=72057594037927936 by decide]at hlt
  rw[beN_cons,hr,show (256:Int)^7=72057594037927936 by decide]
  simp only[List.getD_cons_zero]
  omega
theorem take_getD {b:List Int} {i n:Nat} (h:i<n):(b.take n).getD i 0=b.getD i 0:=by
 simp only[aX,gW,h,if_true]
theorem drop_getD {b:List Int} {i n:Nat}:(b.drop n).getD i 0=b.getD (n+i) 0:=by
 simp only[aX,gX]
theorem block_parts {b:List Int} (h:b.length=256) {k:Nat} (hk:k≤234):b.take 251=b.take 8++((b.drop 8).take 8++([b.getD 16 0]++((b.drop 17).take k++(b.drop (17+k)).take (234-k)))):=by
 have e1:b.take 251=b.take 8++(b.drop 8).take 243:=by rw[<-wJ]
 have e2:(b.drop 8).take 243=(b.drop 8).take 8++(b.drop 16).take 235:=by
  have:=wJ (l:=b.drop 8) (i:=8) (j:=235)
  rw[cM]at this;exact this
 have e3:(b.drop 16).take 235=[b.getD 16 0]++(b.drop 17).take 234:=by
  have hlt:16<b.length:=by omega
  rw[gO hlt,List.take_succ_cons,aX,aG hlt];rfl
 have e4:(b.drop 17).take 234=(b.drop 17).take k++(b.drop (17+k)).take (234-k):=by
  have:=wJ (l:=b.drop 17) (i:=k) (j:=234-k)
  rw[cM,show k+(234-k)=234 by omega]at this;exact this
 rw[e1,e2,e3,e4]
theorem all0_rep {l:List Int}:l.all (· ==0)=true↔l=List.replicate l.length 0:=by
 rw[bE,List.eq_replicate_iff]
 simp
theorem body_eq {b:List Int} (h:b.length=256) (hb:B8 b) {k:Nat} (hk:k≤234) (h16:b.getD 16 0=(k:Int)):
 recBody (beN (b.take 8)) (beN ((b.drop 8).take 8)) ((b.drop 17).take k)=b.take 251↔((b.drop (17+k)).take (234-k)).all (· ==0)=true:=by
 have la:(b.take 8).length=8:=by simp[h]
 have lb:((b.drop 8).take 8).length=8:=by simp[h]
 have lk:((b.drop 17).take k).length=k:=by simp[h];omega
 have lz:((b.drop (17+k)).take (234-k)).length=234-k:=by simp[h];omega
 have p1:=beP_beN _ (hb.take 8)
 have p2:=beP_beN _ ((hb.drop 8).take 8)
 rw[la]at p1;rw[lb]at p2
 rw[block_parts h hk,recBody,p1,p2,lk,h16,all0_rep,lz]
 simp only[List.append_cancel_left_eq]
 exact eq_comm
theorem refRead22 (b:List Int) (hb:B8 b) (hlen:b.length≤2^36):F_batonref22_Read b=some (recR b):=by
 classical
 unfold F_batonref22_Read recR
 by_cases h0:b.length=256
 rotate_left
 ·have:((((b.length):Nat):Int) != 256)=true:=by simp;omega
  simp only[this,cond_true,ne_eq,h0,not_false_eq_true,if_true]
 have e0:((((256):Nat):Int) != 256)=false:=rfl
 have g255:b[255]? = some (b.getD 255 0):=getD_some (by omega)
 have g16:b[16]? = some (b.getD 16 0):=getD_some (by omega)
 have g0:b[0]? = some (b.getD 0 0):=getD_some (by omega)
 have g8:b[8]? = some (b.getD 8 0):=getD_some (by omega)
 have k16:=getD_B8 hb 16
 simp only[h0,e0,cond_false,g255,g16,g0,g8,aB,ne_eq,not_true_eq_false,if_false]
 by_cases h1:b.getD 255 0=0
 ·simp only[h1,beq_self_eq_true,cond_true,if_true]
 have e1:(b.getD 255 0==0)=false:=by simpa using h1
 simp only[e1,cond_false,h1,if_false]
 by_cases h2:b.getD 255 0>1
 ·simp only[h2,decide_true,cond_true,if_true]
 simp only[h2,decide_false,cond_false,if_false]
 have d1:(0≤251/\251≤256):=by decide
 have d2:(251≤255/\255≤256):=by decide
 have d3:(0≤8/\8≤256):=by decide
 have d4:(8≤16/\16≤256):=by decide
 have d5:(0≤255/\255≤256):=by decide
 have t251:(b.take 251).length=251:=by simp[h0]
 simp only[d1,d2,d3,d4,d5,and_self,decide_true,cond_true,eO,hJ,Nat.reduceSub,refSum _ (hb.take 251) (by omega),aB,bsame (sum4 (b.take 251)) _ (by rw[sum4_len];omega)]
 by_cases h3:sum4 (b.take 251)=(b.drop 251).take 4
 rotate_left
 ·simp only[h3,decide_false,eP,cond_true,not_false_eq_true,if_true]
 simp only[h3,decide_true,cP,cond_false,not_true_eq_false,if_false]
 have la:(b.take 8).length=8:=by simp[h0]
 have lb:((b.drop 8).take 8).length=8:=by simp[h0]
 have q1:=beN_first (hb.take 8) la
 have q2:=beN_first ((hb.drop 8).take 8) lb
 rw[take_getD (by decide)]at q1
 rw[take_getD (by decide),drop_getD,iR]at q2
 obtain⟨k,hk⟩:=fX k16.1
 have w1:IntKind.wrap .i64 ((k:Nat):Int)=(k:Int):=w64 (by omega) (by omega)
 have w2:IntKind.wrap .i64 (17+((k:Nat):Int))=((17+k:Nat):Int):=by rw[w64 (by omega) (by omega)];omega
 have bn1:=(beN_lt _ (hb.take 8)).1
 have bn2:=(beN_lt _ ((hb.drop 8).take 8)).1
 have c1:∀x y z:Int,(bif ((x != 0)==false) then (bif ((y != 0)==false) then (some (decide (z>234))) else (some true)) else (some true))=some (decide (x≠0\/y≠0\/z>234)):=by
  intro x y z
  by_cases a:x=0
  ·subst a
   by_cases c:y=0
   ·subst c;simp
   ·have:(y != 0)=true:=by simpa using c
    simp[c,this]
  ·have:(x != 0)=true:=by simpa using a
   simp[a,this]
 simp only[c1,aB]
 by_cases p:b.getD 0 0≠0\/b.getD 8 0≠0\/b.getD 16 0>234
 ·have hbad:recBad b:=by
   rcases p with h|h|h
   ·exact .inl (q1.2 h)
   ·exact .inr (.inl (q2.2 h))
   ·exact .inr (.inr (.inl h))
  simp only[p,decide_true,cond_true,hbad,if_true]
 have hk2:k≤234:=by omega
 simp only[p,decide_false,cond_false]
 simp only[refGet (b.take 8) (hb.take 8) (by omega),refGet ((b.drop 8).take 8) ((hb.drop 8).take 8) (by omega),aB,hk,w1,w2,aP,aY,decide_true,cond_true]
 have hc:(17≤17+k/\17+k≤256):=by omega
 have e17:17+k-17=k:=by omega
 have lk:((b.drop 17).take k).length=k:=by simp[h0];omega
 have m1:(([]:List Int).length+k)*(1+1)≤bY:=by unfold bY;simp;omega
 have w3:IntKind.wrap .i64 (beN (b.take 8))=beN (b.take 8):=w64 (by omega) (by omega)
 have w4:IntKind.wrap .i64 (beN ((b.drop 8).take 8))=beN ((b.drop 8).take 8):=w64 (by omega) (by omega)
 have ok:recErr (beN (b.take 8)) (beN ((b.drop 8).take 8)) ((b.drop 17).take k)=0:=recErr_zero.2 (by rw[lk];omega)
 have hB:B8 ((b.drop 17).take k):=(hb.drop 17).take k
 have lr:=recB_len (beN (b.take 8)) (beN ((b.drop 8).take 8)) (d:=(b.drop 17).take k) (by rw[lk];exact hk2)
 have lbd:=recBody_len (beN (b.take 8)) (beN ((b.drop 8).take 8)) (d:=(b.drop 17).take k) (by rw[lk];exact hk2)
 simp only[hc,decide_true,cond_true,and_self,e17,lk,m1,bZ,w3,w4,refMake _ _ _ hB ok,aB,lr,d5,h0,bsame _ (b.take 255) (show ((recB (beN (b.take 8)) (beN ((b.drop 8).take 8)) ((b.drop 17).take k)).take 255).length<2^60 by rw[bP,lr];omega)]
 have t1:(recB (beN (b.take 8)) (beN ((b.drop 8).take 8)) ((b.drop 17).take k)).take 255=recBody (beN (b.take 8)) (beN ((b.drop 8).take 8)) ((b.drop 17).take k)++sum4 (recBody (beN (b.take 8)) (beN ((b.drop 8).take 8)) ((b.drop 17).take k)):=by
  rw[recB,<-bQ,dG (by rw[aV,lbd,sum4_len];omega)]
  rw[bU (by rw[aV,lbd,sum4_len];omega)]
 have t2:b.take 255=b.take 251++(b.drop 251).take 4:=by rw[<-wJ]
 have bad:recBad b↔¬(recB (beN (b.take 8)) (beN ((b.drop 8).take 8)) ((b.drop 17).take k)).take 255=b.take 255:=by
  rw[t1,t2]
  have hbe:=body_eq h0 hb hk2 hk
  constructor
  ·intro hbad heq
   have:=List.append_inj_left heq (by rw[lbd,t251])
   have hz:=hbe.1 this
   unfold recBad at hbad
   rw[hk]at hbad
   simp only[aP,hz]at hbad
   simp at hbad
   omega
  ·intro hne
   by_cases hz:((b.drop (17+k)).take (234-k)).all (· ==0)=true
   ·have:=hbe.2 hz
    rw[this,h3]at hne
    exact(hne rfl).elim
   ·unfold recBad;rw[hk];simp only[aP];exact .inr (.inr (.inr ((dT _).mp hz)))
 by_cases hbd:recBad b
 ·have:=bad.1 hbd
  simp only[hbd,this,decide_false,eP,cond_true,if_true]
 ·have:(recB (beN (b.take 8)) (beN ((b.drop 8).take 8)) ((b.drop 17).take k)).take 255=b.take 255:=Classical.not_not.1 (fun h=>hbd (bad.2 h))
  simp only[hbd,this,decide_true,cP,cond_false,if_false]
def markB (b:List Int) (is:Bool):List Int:=b.set 255 (if is then 1 else 0)
theorem markB_len (b:List Int) (is:Bool):(markB b is).length=b.length:=by simp[markB]
theorem markB_B8 {b:List Int} (h:B8 b) (is:Bool):B8 (markB b is):=h.set _ (by cases is<;>decide)
theorem marked_eq (b:List Int) (is:Bool) (h:b.length=256):O_record_Marked (b,is)=some (markB b is):=by
 unfold O_record_Marked markB
 have w:IntKind.wrap .i64 (((256:Nat):Int)-1)=((255:Nat):Int):=by decide
 have p:(((256:Nat):Int)>0):=by decide
 have g255:b[255]? = some (b.getD 255 0):=getD_some (by omega)
 have g2:(b.set 255 0)[255]? = some 0:=by rw[oY (by omega)]
 simp only[cloneB b (by omega),aB,h,p,w,decide_true,cond_true,aY,aP,eV,show (255<256) from by decide,g255,g2]
 cases is<;>simp[List.set_set]
theorem recR_made {g n:Int} {d:List Int} (he:recErr g n d=0) (hd:B8 d):recR (markB (recB g n d) true)=((g,n,d),0):=by
 classical
 obtain⟨h1,h2,h3,h4,h5⟩:=recErr_zero.1 he
 have hl:=recB_len g n h5
 have hbl:=recBody_len g n h5
 have b1:(markB (recB g n d) true).getD 255 0=1:=by
  rw[aX,markB,oY (by omega)];rfl
 have b2:(markB (recB g n d) true).take 251=recBody g n d:=by
  rw[markB,List.take_set_of_le (by omega),recB,dG (by omega),bU (by omega)]
 have b3:((markB (recB g n d) true).drop 251).take 4=sum4 (recBody g n d):=by
  have:(markB (recB g n d) true)=recBody g n d++(sum4 (recBody g n d)++[1]):=by
   rw[markB,recB,<-bQ,<-bQ]
   rw[lH _ _ (by rw[aV,hbl,sum4_len];omega),aV,hbl,sum4_len];rfl
  rw[this,hU (by omega),dN (by omega),bZ];rfl
 have bt:∀k,k≤251->(markB (recB g n d) true).take k=(recBody g n d).take k:=fun k hk=>by
  rw[<-b2,oX,iK hk]
 have g16:(markB (recB g n d) true).getD 16 0=(d.length:Int):=by
  rw[<-take_getD (n:=251) (by decide),b2,recBody,aX,fH (by rw[beP_len];omega),beP_len,fH (by rw[beP_len];omega),beP_len];rfl
 have hpl:=beP_len 8 g
 have hpn:=beP_len 8 n
 have b8:(markB (recB g n d) true).take 8=beP 8 g:=by
  rw[bt 8 (by omega),recBody,dG (by omega),bU (by omega)]
 have dt:∀i k,i+k≤251->((markB (recB g n d) true).drop i).take k=((recBody g n d).drop i).take k:=fun i k h=>by
  rw[List.take_drop,List.take_drop,bt _ (by omega)]
 have b16:((markB (recB g n d) true).drop 8).take 8=beP 8 n:=by
  rw[dt _ _ (by omega),recBody,hU (by omega),dN (by omega),bZ,dG (by omega),bU (by omega)]
 have rest:(recBody g n d).drop 17=d++List.replicate (234-d.length) 0:=by
  have:(recBody g n d)=(beP 8 g++beP 8 n++[(d.length:Int)])++(d++List.replicate (234-d.length) 0):=by simp[recBody]
  rw[this,hU (by simp[beP_len]),dN (by simp[beP_len]),bZ]
 have b17:((markB (recB g n d) true).drop 17).take d.length=d:=by
  rw[dt _ _ (by omega),rest,dG (by omega),bU (by omega)]
 have bz:(((markB (recB g n d) true).drop (17+d.length)).take (234-d.length)).all (· ==0)=true:=by
  rw[dt _ _ (by omega),<-cM,rest,hU (by omega),dN (by omega),bZ,bE]
  intro x hx
  rw[cA (bN hx)];rfl
 have n1:=beN_beP 8 g h1 (by rw[show (256:Int)^8=18446744073709551616 by decide];omega)
 have n2:=beN_beP 8 n h3 (by rw[show (256:Int)^8=18446744073709551616 by decide];omega)
 have hbad:¬recBad (markB (recB g n d) true):=by
  unfold recBad
  rw[b8,b16,n1,n2,g16,aP,bz]
  simp;omega
 unfold recR
 rw[if_neg (by rw[markB_len];omega),if_neg (by rw[b1];decide),if_neg (by rw[b1];decide),if_neg (by rw[b2,b3];simp),if_neg hbad,b8,b16,n1,n2,g16,aP,b17]
end Go.Ideal.Seat
namespace Go.Ideal.Seat
open Go.Ideal.Plain
abbrev Wr:=Int×List Int
abbrev DkT:=List (List Int)×List Wr×List Int×Bool×Int
structure Dsk where
 blocks:List (List Int)
 waits:List Wr
 bad:List Int
 down:Bool
 cut:Option Nat
namespace Dsk
def left:Option Nat->Int
 |none=>-1
 |some k=>(k:Int)
def toD (w:Dsk):List (List Int)×List Wr×List Int×Bool×Int:=(w.blocks,w.waits,w.bad,w.down,left w.cut)
def toR (w:Dsk):List (List Int)×List Wr×List Int×Bool×Bool×Int:=(w.blocks,w.waits,w.bad,w.down,w.cut.isSome,((w.cut.getD 0:Nat):Int))
def there (w:Dsk) (n:Int):Prop:=0≤n/\n<w.blocks.length
instance (w:Dsk) (n:Int):Decidable (w.there n):=by unfold there;exact inferInstance
end Dsk
def lastW (ws:List Wr) (n:Int) (b:List Int):List Int:=ws.foldl (fun b x=>if x.1=n then x.2 else b) b
def layB (bs:List (List Int)) (x:Wr) (k:Nat):List (List Int):=bs.set x.1.toNat (x.2.take k++(bs.getD x.1.toNat []).drop k)
def clampP (p:Int):Int:=if 256<(if 0>p then 0 else p) then 256 else (if 0>p then 0 else p)
namespace Dsk
def lies (w:Dsk) (n:Int):List Int:=if w.there n then w.blocks.getD n.toNat [] else []
def rd (w:Dsk) (n:Int):List Int×Int:=if w.down=true then ([],19) else if ¬w.there n then ([],1) else (lastW w.waits n (w.blocks.getD n.toNat []),0)
def step (w:Dsk):Dsk×Bool:=match w.cut with
 |some 0=>({ w with down:=true },false)
 |some (k+1)=>({ w with cut:=some k },true)
 |none=>(w,true)
def put (w:Dsk) (n:Int) (b:List Int):Dsk×Int:=if w.down=true then (w,19) else if ¬w.there n\/b.length≠256 then (w,1) else if n∈w.bad then (w,17)
 else if w.step.2=true then ({ w.step.1 with waits:=w.step.1.waits++[(n,b)] },0) else (w.step.1,19)
def sync (w:Dsk):Dsk×Int:=if w.down=true then (w,19) else if w.step.2=true then ({ w.step.1 with blocks:=w.waits.foldl (fun bs x=>layB bs x 256) w.blocks,waits:=[] },0) else (w.step.1,19)
def crash (w:Dsk) (picks:List Int):Dsk:={ w with blocks:=(w.waits.zip picks).foldl (fun bs x=>layB bs x.1 (clampP x.2).toNat) w.blocks,waits:=[],down:=false,cut:=none }
def cutAt (w:Dsk) (n:Int):Dsk:={ w with cut:=some n.toNat }
end Dsk
def mQ (bs:List (List Int)):Prop:=∀b∈bs,b.length=256/\B8 b
structure Dsk.Ok (w:Dsk) (m:Nat):Prop where
 few:w.blocks.length≤256
 blk:mQ w.blocks
 wts:∀x∈w.waits,w.there x.1/\x.2.length=256/\B8 x.2
 len:w.waits.length≤m
 bad:w.bad.length≤2^36
 cut:∀k,w.cut=some k->k<9223372036854775808
theorem layB_len (bs:List (List Int)) (x:Wr) (k:Nat):(layB bs x k).length=bs.length:=by simp[layB]
theorem layB_ok {bs:List (List Int)} {x:Wr} {k:Nat} (h:mQ bs) (h1:0≤x.1) (h2:x.1.toNat<bs.length) (h3:x.2.length=256) (h4:B8 x.2) (hk:k≤256):mQ (layB bs x k):=by
 intro b hb
 rcases jL hb with h'|rfl
 ·exact h b h'
 ·have e:bs.getD x.1.toNat []=bs[x.1.toNat]:=by rw[aX,aG h2];rfl
  have:=h _ (bH h2)
  rw[e]
  exact⟨by simp[h3,this.1];omega,(h4.take k).app (this.2.drop k)⟩
theorem lastW_ok {ws:List Wr} {n:Int}:∀{b:List Int},(∀x∈ws,x.2.length=256/\B8 x.2)->b.length=256/\B8 b->(lastW ws n b).length=256/\B8 (lastW ws n b):=by
 induction ws with
 |nil=>intro b _ h;exact h
 |cons x r ih=>
  intro b h1 h2
  show (lastW r n (if x.1=n then x.2 else b)).length=256/\_
  refine ih (fun y hy=>h1 y (by simp[hy])) ?_
  split
  ·exact h1 x (by simp)
  ·exact h2
theorem there_iff (w:Dsk) (n:Int):O_disk_Disk_there (w.toD,n)=some (w.toD,decide (w.there n)):=by
 unfold O_disk_Disk_there Dsk.there
 by_cases h:n≥0
 ·simp only[h,decide_true,beq_self_eq_true,cond_true]
  have:(n<(w.toD.1.length:Int))↔(True/\n<(w.blocks.length:Int)):=⟨fun h'=>⟨trivial,h'⟩,fun h=>h.2⟩
  exact congrArg (fun b=>some (w.toD,b)) (decide_eq_decide.2 this)
 ·have:¬(0≤n/\n<(w.blocks.length:Int)):=by omega
  simp only[h,this,decide_false];rfl
theorem refThere (w:Dsk) (n:Int):F_batonref21_There (w.toR,n)=some (decide (w.there n)):=by
 unfold F_batonref21_There Dsk.there
 by_cases h:n≥0
 ·simp only[h,decide_true,beq_self_eq_true,cond_true]
  have:(n<(w.toR.1.length:Int))↔(True/\n<(w.blocks.length:Int)):=⟨fun h'=>⟨trivial,h'⟩,fun h=>h.2⟩
  exact congrArg some (decide_eq_decide.2 this)
 ·have:¬(0≤n/\n<(w.blocks.length:Int)):=by omega
  simp only[h,this,decide_false];rfl
theorem there_get {w:Dsk} {n:Int} (h:w.there n):n.toNat<w.blocks.length/\w.blocks[n.toNat]? = some (w.blocks.getD n.toNat []):=by
 have h1:n.toNat<w.blocks.length:=by obtain⟨a,b⟩:=h;omega
 exact⟨h1,by rw[aX,aG h1];rfl⟩
theorem blk_get {w:Dsk} {m:Nat} (ok:w.Ok m) {n:Int} (h:w.there n):(w.blocks.getD n.toNat []).length=256/\B8 (w.blocks.getD n.toNat []):=
 ok.blk _ (aL (there_get h).2)
theorem lies_eq {w:Dsk} {m:Nat} (ok:w.Ok m) (n:Int):O_disk_Disk_Lies (w.toD,n)=some (w.toD,w.lies n):=by
 unfold O_disk_Disk_Lies
 rw[there_iff]
 by_cases h:w.there n
 ·obtain⟨h1,h2⟩:=there_get h
  have hb:=blk_get ok h
  have c1:0≤n:=h.1
  have c2:n.toNat<w.toD.1.length:=h1
  have c3:w.toD.1[n.toNat]? = some (w.blocks.getD n.toNat []):=h2
  have c4:w.toD.1.set n.toNat (w.blocks.getD n.toNat [])=w.toD.1:=by
   have e:w.blocks.getD n.toNat []=w.blocks[n.toNat]:=by rw[aX,aG h1];rfl
   rw[e];exact lG h1
  simp only[aB,h,decide_true,cP,cond_false,cond_true,c1,c2,c3,cloneB _ (by omega:(w.blocks.getD n.toNat []).length≤2^36),c4,Dsk.lies,if_true]
 ·simp only[aB,h,decide_false,eP,cond_true,Dsk.lies,if_false]
theorem backLoop {X Y:Type} {ws:List Wr} {n:Int} {F:Int->Option (Int⊕(X⊕Y))} {g:List Int->X} {z:Y} (h1:∀(i:Nat) e,ws[i]? = some e->F (i:Int)=some (if e.1=n then .inr (.inl (g e.2)) else .inl ((i:Int)-1)))
 (h2:F (-1)=some (.inr (.inr z))):∀k,k≤ws.length->(cL F ((k:Int)-1)=some (.inr z)/\∀b,lastW (ws.take k) n b=b)\/∃r,cL F ((k:Int)-1)=some (.inl (g r))/\∀b,lastW (ws.take k) n b=r:=by
 intro k
 induction k with
 |zero=>intro _;exact .inl ⟨by rw[show ((0:Nat):Int)-1 = -1 by decide,fU h2],fun b=>by rw[Yj];rfl⟩
 |succ k ih=>
  intro hk
  have hlt:k<ws.length:=by omega
  have e:=h1 k _ (aG hlt)
  have ht:∀b,lastW (ws.take (k+1)) n b=if ws[k].1=n then ws[k].2 else lastW (ws.take k) n b:=fun b=>by
   rw[<-List.take_append_getElem hlt,lastW,Nn];rfl
  rw[show ((k+1:Nat):Int)-1=(k:Int) by omega]
  by_cases hn:ws[k].1=n
  ·rw[if_pos hn]at e
   exact .inr ⟨ws[k].2,by rw[fU e],fun b=>by rw[ht,if_pos hn]⟩
  ·rw[if_neg hn]at e
   rw[iN e]
   rcases ih (by omega)with ⟨a,b⟩|⟨r,a,b⟩
   ·exact .inl ⟨a,fun b'=>by rw[ht,if_neg hn,b]⟩
   ·exact .inr ⟨r,a,fun b'=>by rw[ht,if_neg hn,b]⟩
theorem rd_eq {w:Dsk} {m:Nat} (ok:w.Ok m) (hm:m≤2^30) (n:Int):O_disk_Disk_Read (w.toD,n)=some (w.toD,w.rd n):=by
 unfold O_disk_Disk_Read Dsk.rd
 cases hd:w.down with
 |true=>
  have:w.toD.2.2.2.1=true:=hd
  simp only[this,cond_true,if_true]
 |false=>
  have hdd:w.toD.2.2.2.1=false:=hd
  simp only[hdd,cond_false,aR,if_false]
  rw[there_iff]
  simp only[aB]
  by_cases h:w.there n
  ·simp only[h,decide_true,cP,cond_false,not_true_eq_false,if_false]
   have hl:=ok.len
   have w1:IntKind.wrap .i64 (((w.toD.2.1.length:Nat):Int)-1)=((w.waits.length:Nat):Int)-1:=by
    have:w.toD.2.1.length=w.waits.length:=rfl
    rw[this,w64 (by omega) (by omega)]
   rw[w1]
   have key:=backLoop (X:=List Int×Int) (ws:=w.waits) (n:=n) (g:=fun r=>(r,0)) (z:=((-1:Int),false)) (F:=(fun s47=>(bif (decide (s47≥0)) then (bif decide (0≤s47) then (bif decide ((s47).toNat<w.toD.2.1.length) then ((w.toD.2.1[(s47).toNat]?).bind fun e48=>(bif (e48.1==n) then (bif decide (0≤s47) then (bif decide ((s47).toNat<w.toD.2.1.length) then ((w.toD.2.1[(s47).toNat]?).bind fun e49=>((O_slices_Clone_byte_byte e49.2).bind fun r50=>(some (Sum.inr (Sum.inl (r50,0)))))) else none) else none) else (some (Sum.inl (IntKind.wrap .i64 (s47-1)))))) else none) else none) else (some (Sum.inr (Sum.inr (s47,(decide (s47≥0))))))))) (fun i e he=>?_) (by rfl) w.waits.length (aK _)
   ·rw[eX]at key
    rcases key with ⟨a,b⟩|⟨r,a,b⟩
    ·rw[a,b]
     simp only[aB,lies_eq ok,Dsk.lies,if_pos h]
    ·rw[a,b]
     simp only[aB]
   ·have hi:=gU he
    have c1:(i:Int)≥0:=by omega
    have c2:(i<w.toD.2.1.length):=hi
    have c3:w.toD.2.1[i]? = some e:=he
    have hx:=ok.wts e (aL he)
    simp only[c1,c2,c3,decide_true,cond_true,aP,aB,cloneB e.2 (by omega)]
    by_cases hn:e.1=n
    ·simp only[hn,beq_self_eq_true,cond_true,if_true]
    ·have:(e.1==n)=false:=by simpa using hn
     simp only[this,cond_false,hn,if_false,w64 (show -9223372036854775808≤(i:Int)-1 by omega) (by omega)]
  ·simp only[h,decide_false,eP,cond_true,not_false_eq_true,if_true]
theorem refRd {w:Dsk} {m:Nat} (ok:w.Ok m) (hm:m≤2^30) (n:Int):O_batonref21_Read (w.toR,n)=some (w.rd n):=by
 unfold O_batonref21_Read Dsk.rd
 cases hd:w.down with
 |true=>
  have:w.toR.2.2.2.1=true:=hd
  simp only[this,cond_true,if_true]
 |false=>
  have hdd:w.toR.2.2.2.1=false:=hd
  simp only[hdd,cond_false,aR,if_false]
  rw[refThere]
  simp only[aB]
  by_cases h:w.there n
  ·obtain⟨h1,h2⟩:=there_get h
   have c1:0≤n:=h.1
   have c3:w.toR.1[n.toNat]? = some (w.blocks.getD n.toNat []):=h2
   have hl:=ok.len
   simp only[h,decide_true,cP,cond_false,cond_true,not_true_eq_false,if_false,c1,c3,aB]
   rw[foldLoop (l:=w.waits) (fun(a:List Int) i=>(a,i)) (fun b x=>if x.1=n then x.2 else b) (fun _ _=>True) (fin:=fun a=>a) trivial (fun a i e he hi _=>⟨?_,trivial⟩) (fun a _=>?_)]
   ·rfl
   ·have c4:(i:Int)<(w.toR.2.1.length:Int):=by have:w.toR.2.1.length=w.waits.length:=rfl;omega
    have c5:w.toR.2.1[i]? = some e:=he
    simp only[c4,decide_true,cond_true,aY,aP,c5,aB,iE (show i<2^62 by omega)]
    by_cases hn:e.1=n
    ·simp only[hn,beq_self_eq_true,cond_true,if_true,aB]
    ·have:(e.1==n)=false:=by simpa using hn
     simp only[this,cond_false,hn,if_false,aB]
   ·have:¬((w.waits.length:Int)<(w.toR.2.1.length:Int)):=by have:w.toR.2.1.length=w.waits.length:=rfl;omega
    simp only[this,decide_false,cond_false]
  ·simp only[h,decide_false,eP,cond_true,not_false_eq_true,if_true]
end Go.Ideal.Seat
namespace Go.Ideal.Seat
open Go.Ideal.Plain
theorem step_same (w:Dsk):w.step.1.blocks=w.blocks/\w.step.1.waits=w.waits/\w.step.1.bad=w.bad:=by
 unfold Dsk.step;split<;>exact⟨rfl,rfl,rfl⟩
theorem step_ok {w:Dsk} {m:Nat} (ok:w.Ok m):w.step.1.Ok m:=by
 unfold Dsk.step
 split
 ·exact⟨ok.few,ok.blk,ok.wts,ok.len,ok.bad,ok.cut⟩
 ·rename_i k h
  have:=ok.cut _ h
  exact⟨ok.few,ok.blk,ok.wts,ok.len,ok.bad,fun j hj=>by simp only[aD]at hj;omega⟩
 ·exact ok
theorem stepD {w:Dsk} {m:Nat} (ok:w.Ok m):O_disk_Disk_step w.toD=some (w.step.1.toD,w.step.2):=by
 unfold O_disk_Disk_step Dsk.step
 obtain⟨bs,ws,bd,dn,ct⟩:=w
 cases ct with
 |none=>rfl
 |some k=>
  cases k with
  |zero=>rfl
  |succ k=>
   have hk:=ok.cut _ rfl
   have c1:((((k+1:Nat):Int))==0)=false:=by simp;omega
   have c2:((((k+1:Nat):Int))>0):=by omega
   have c3:IntKind.wrap .i64 (((k+1:Nat):Int)-1)=(k:Int):=by rw[w64 (by omega) (by omega)];omega
   simp only[Dsk.toD,Dsk.left,c1,c2,c3,decide_true,cond_false,cond_true]
theorem stepR {w:Dsk} {m:Nat} (ok:w.Ok m):O_batonref21_step w.toR=some (w.step.1.toR,w.step.2):=by
 unfold O_batonref21_step Dsk.step
 obtain⟨bs,ws,bd,dn,ct⟩:=w
 cases ct with
 |none=>rfl
 |some k=>
  cases k with
  |zero=>rfl
  |succ k=>
   have hk:=ok.cut _ rfl
   have c1:((((k+1:Nat):Int))==0)=false:=by simp;omega
   have c3:IntKind.wrap .i64 (((k+1:Nat):Int)-1)=(k:Int):=by rw[w64 (by omega) (by omega)];omega
   simp only[Dsk.toR,Option.isSome,Option.getD,beq_self_eq_true,cond_true,c1,aB,cond_false,c3]
theorem idx_eq (l:List Int) (n:Int) (h:l.length≤2^36):F_slices_Contains_int_int (l,n)=some (decide (n∈l)):=by
 unfold F_slices_Contains_int_int F_slices_Index_int_int
 rw[findLoop (l:=l) (fun x=>n==x) (z:=((l.length:Int),false)) (fun i e he=>?_) (by simp)]
 ·simp only[aB]
  cases hf:l.findIdx? (fun x=>n==x) with
  |none=>
   rw[findIdx_none]at hf
   have:¬n∈l:=fun hm=>by have:=hf n hm;simp at this
   simp only[aB,this,decide_false];rfl
  |some i=>
   have hm:n∈l:=by
    obtain⟨hl,h1,_⟩:=List.findIdx?_eq_some_iff_getElem.1 hf
    have:n=l[i]:=by simpa using h1
    rw[this];exact bH hl
   have:((i:Int)≥0):=by omega
   simp only[aB,hm,this,decide_true]
 ·have hi:=gU he
  have c1:(i:Int)<(l.length:Int):=by omega
  simp only[c1,decide_true,cond_true,aY,aP,he,aB,iE (show i<2^62 by omega)]
  by_cases hn:(n==e)=true
  ·simp only[hn,cond_true,if_true]
  ·simp only[(dT _).mp hn,cond_false,aR,if_false]
theorem put_eq {w:Dsk} {m:Nat} (ok:w.Ok m) (hm:m≤2^30) (n:Int) (b:List Int):O_disk_Disk_Write (w.toD,n,b)=some ((w.put n b).1.toD,(w.put n b).2):=by
 unfold O_disk_Disk_Write Dsk.put
 cases hd:w.down with
 |true=>
  have:w.toD.2.2.2.1=true:=hd
  simp only[this,cond_true,if_true]
 |false=>
  have hdd:w.toD.2.2.2.1=false:=hd
  simp only[hdd,cond_false,aR,if_false,there_iff,aB]
  by_cases h:w.there n
  ·by_cases hl:b.length=256
   ·have c1:(((256:Nat):Int) != 256)=false:=rfl
    have hbd:w.toD.2.2.1=w.bad:=rfl
    simp only[h,decide_true,cP,beq_self_eq_true,cond_true,hl,c1,aB,cond_false,not_true_eq_false,ne_eq,or_self,if_false,hbd,idx_eq _ n ok.bad]
    by_cases hb:n∈w.bad
    ·simp only[hb,decide_true,cond_true,if_true]
    ·simp only[hb,decide_false,cond_false,if_false,stepD ok,aB]
     cases hs:w.step.2 with
     |false=>simp only[eP,cond_true,aR,if_false]
     |true=>
      have l2:w.step.1.toD.2.1=w.waits:=(step_same w).2.1
      have hwl:=ok.len
      have c2:((w.step.1.toD.2.1.length+([(n,b)]:List Wr).length)*(32+1)≤bY):=by rw[l2];unfold bY;simp;omega
      simp only[cP,cond_false,if_true,cloneC b (by omega),aB,c2,decide_true,cond_true]
      rfl
   ·have c1:(((b.length:Nat):Int) != 256)=true:=by simp;omega
    simp only[h,decide_true,cP,beq_self_eq_true,cond_true,c1,aB,hl,not_true_eq_false,ne_eq,not_false_eq_true,or_true,if_true]
  ·simp only[h,decide_false,eP,show (true==false)=false from rfl,cond_false,aB,cond_true,not_false_eq_true,true_or,if_true]
theorem memRun {X:Type} {n:Int} {u v:X}:∀(r:List Int) (i:Nat),sS (A:=Unit) (X:=X) (fun _ _ e=>some (if e=n then Sum.inr u else Sum.inl ())) (fun _=>some v) i () r=some (if n∈r then u else v):=by
 intro r
 induction r with
 |nil=>intro i;simp[sS]
 |cons x r ih=>
  intro i
  simp only[sS]
  by_cases hx:x=n
  ·simp[hx]
  ·rw[if_neg hx]
   have:(n∈x::r)↔n∈r:=by simp[Ne.symm hx]
   simp only[this]
   exact ih (i+1)
theorem refPut {w:Dsk} {m:Nat} (ok:w.Ok m) (hm:m≤2^30) (n:Int) (b:List Int):O_batonref21_Put (w.toR,n,b)=some ((w.put n b).1.toR,(w.put n b).2):=by
 unfold O_batonref21_Put Dsk.put
 cases hd:w.down with
 |true=>
  have:w.toR.2.2.2.1=true:=hd
  simp only[this,cond_true,if_true]
 |false=>
  have hdd:w.toR.2.2.2.1=false:=hd
  simp only[hdd,cond_false,aR,if_false,refThere,aB]
  by_cases h:w.there n
  ·by_cases hl:b.length=256
   ·have c1:(((256:Nat):Int) != 256)=false:=rfl
    have hbd:w.toR.2.2.1=w.bad:=rfl
    have hbl:=ok.bad
    simp only[h,decide_true,cP,beq_self_eq_true,cond_true,hl,c1,aB,cond_false,not_true_eq_false,ne_eq,or_self,if_false,hbd]
    rw[runLoop (l:=w.bad) (fun(_:Unit) i=>(([]:List (List Int)),([]:List Wr),([]:List Int),false,false,(0:Int),i)) (fun _ i e=>if e=n then .inr (.inl (w.toR.1,w.toR.2.1,w.bad,false,w.toR.2.2.2.2.1,w.toR.2.2.2.2.2,17)) else .inl ()) (fun _ _=>True) (a:=()) (fin:=fun _=>.inr (([]:List (List Int)),([]:List Wr),([]:List Int),false,false,(0:Int),(w.bad.length:Int),false)) trivial (fun a i e he hi _=>?_) (fun a _=>by simp)]
    ·rw[memRun]
     simp only[aB]
     by_cases hb:n∈w.bad
     ·simp only[hb,if_true]
      have:w.toR=(w.toR.1,w.toR.2.1,w.bad,false,w.toR.2.2.2.2.1,w.toR.2.2.2.2.2):=by rw[<-hdd,<-hbd]
      rw[<-this]
     ·simp only[hb,if_false,stepR ok,aB]
      cases hs:w.step.2 with
      |false=>simp only[eP,cond_true,aR,if_false]
      |true=>
       have l2:w.step.1.toR.2.1=w.waits:=(step_same w).2.1
       have hwl:=ok.len
       have c2:((([]:List Wr).length+w.step.1.toR.2.1.length)*(32+1)≤bY):=by rw[l2];unfold bY;simp;omega
       have c3:((([]:List Int).length+256)*(1+1)≤bY):=by unfold bY;decide
       have c4:(((([]:List Wr)++w.step.1.toR.2.1).length+([(n,([]:List Int)++b)]:List Wr).length)*(32+1)≤bY):=by rw[l2];unfold bY;simp;omega
       simp only[cP,cond_false,if_true,c2,c3,c4,decide_true,cond_true,bZ]
       simp only[bZ]at c4
       simp only[c4,decide_true,cond_true]
       rfl
    ·have hi':(i:Int)<(w.bad.length:Int):=by omega
     simp only[hi',decide_true,cond_true,aY,aP,he,aB,iE (show i<2^62 by omega)]
     by_cases hn:e=n
     ·exact .inr ⟨_,by rw[if_pos hn],by simp only[hn,beq_self_eq_true,cond_true]⟩
     ·have:(e==n)=false:=by simpa using hn
      exact .inl ⟨(),by rw[if_neg hn],by simp only[this,cond_false],trivial⟩
   ·have c1:(((b.length:Nat):Int) != 256)=true:=by simp;omega
    simp only[h,decide_true,cP,beq_self_eq_true,cond_true,c1,aB,hl,not_true_eq_false,ne_eq,not_false_eq_true,or_true,if_true]
  ·simp only[h,decide_false,eP,show (true==false)=false from rfl,cond_false,aB,cond_true,not_false_eq_true,true_or,if_true]
theorem nH {w:Dsk} {m:Nat} (ok:w.Ok m) {n:Int} {b:List Int} (hb:B8 b):(w.put n b).1.Ok (m+1):=by
 have up:∀{w:Dsk},w.Ok m->w.Ok (m+1):=fun ok=>⟨ok.few,ok.blk,ok.wts,by have:=ok.len;omega,ok.bad,ok.cut⟩
 unfold Dsk.put
 split
 ·exact up ok
 ·split
  ·exact up ok
  ·rename_i h
   split
   ·exact up ok
   ·split
    ·have so:=step_ok ok
     obtain⟨e1,e2,e3⟩:=step_same w
     refine⟨so.few,so.blk,fun x hx=>?_,?_,so.bad,so.cut⟩
     ·rcases aE.1 hx with hx|hx
      ·exact so.wts x hx
      ·rw[eI]at hx
       subst hx
       have ht:w.there n:=Classical.not_not.1 (fun h'=>h (.inl h'))
       refine⟨?_,Classical.not_not.1 (fun h'=>h (.inr h')),hb⟩
       unfold Dsk.there at ht |-
       rw[<-e1]at ht;exact ht
     ·have:=so.len
      rw[aV,gS];omega
    ·exact up (step_ok ok)
theorem lays_ok {k:Wr->Nat}:∀{l:List (Wr×Int)} {bs:List (List Int)} {f:Int->Nat},(∀p,f p≤256)->mQ bs->(∀x∈l,0≤x.1.1/\x.1.1.toNat<bs.length/\x.1.2.length=256/\B8 x.1.2)->mQ (l.foldl (fun bs x=>layB bs x.1 (f x.2)) bs)/\(l.foldl (fun bs x=>layB bs x.1 (f x.2)) bs).length=bs.length
 |[],bs,f,_,h,_=>⟨h,rfl⟩
 |x::l,bs,f,hf,h,hx=>by
  obtain⟨a1,a2,a3,a4⟩:=hx x (by simp)
  obtain⟨i1,i2⟩:=lays_ok (k:=k) (l:=l) (f:=f) hf (layB_ok h a1 a2 a3 a4 (hf x.2)) (fun y hy=>by rw[layB_len];exact hx y (by simp[hy]))
  exact⟨i1,by rw[layB_len]at i2;exact i2⟩
theorem sync_all {l:List Wr} {bs:List (List Int)} (h:mQ bs) (hx:∀x∈l,0≤x.1/\x.1.toNat<bs.length/\x.2.length=256/\B8 x.2):mQ (l.foldl (fun bs x=>layB bs x 256) bs)/\(l.foldl (fun bs x=>layB bs x 256) bs).length=bs.length:=by
 induction l generalizing bs with
 |nil=>exact⟨h,rfl⟩
 |cons x l ih=>
  obtain⟨a1,a2,a3,a4⟩:=hx x (by simp)
  obtain⟨i1,i2⟩:=ih (layB_ok h a1 a2 a3 a4 (aK _)) (fun y hy=>by rw[layB_len];exact hx y (by simp[hy]))
  exact⟨i1,by rw[layB_len]at i2;exact i2⟩
theorem wts_nat {w:Dsk} {m:Nat} (ok:w.Ok m):∀x∈w.waits,0≤x.1/\x.1.toNat<w.blocks.length/\x.2.length=256/\B8 x.2:=fun x hx=>by
 obtain⟨a,b,c⟩:=ok.wts x hx
 exact⟨a.1,(there_get a).1,b,c⟩
theorem sync_ok {w:Dsk} {m:Nat} (ok:w.Ok m):w.sync.1.Ok m:=by
 unfold Dsk.sync
 split
 ·exact ok
 ·split
  ·have so:=step_ok ok
   obtain⟨e1,e2,e3⟩:=step_same w
   obtain⟨i1,i2⟩:=sync_all ok.blk (wts_nat ok)
   exact⟨cQ (Nat.le_of_eq i2) ok.few,i1,(fun x hx=>by cases hx),fO _,so.bad,so.cut⟩
  ·exact step_ok ok
theorem clampP_le (p:Int):0≤clampP p/\clampP p≤256:=by unfold clampP;split<;>split<;>omega
theorem zip_mem {ws:List Wr} {ps:List Int} {x:Wr×Int} (h:x∈ws.zip ps):x.1∈ws:=(List.of_mem_zip h).1
theorem crash_ok {w:Dsk} {m:Nat} (ok:w.Ok m) (picks:List Int):(w.crash picks).Ok m:=by
 obtain⟨i1,i2⟩:=lays_ok (k:=fun _=>0) (l:=w.waits.zip picks) (f:=fun p=>(clampP p).toNat) (fun p=>by have:=clampP_le p;omega) ok.blk (fun x hx=>wts_nat ok x.1 (zip_mem hx))
 exact⟨cQ (Nat.le_of_eq i2) ok.few,i1,(fun x hx=>by cases hx),fO _,ok.bad,fun k hk=>by cases hk⟩
theorem cut_ok {w:Dsk} {m:Nat} (ok:w.Ok m) {n:Int} (hn:n<9223372036854775808):(w.cutAt n).Ok m:=
 ⟨ok.few,ok.blk,ok.wts,ok.len,ok.bad,fun k hk=>by simp only[Dsk.cutAt,aD]at hk;omega⟩
end Go.Ideal.Seat
namespace Go.Ideal.Seat
open Go.Ideal.Plain
theorem laid_eq {bs:List (List Int)} {x:Wr} (h:mQ bs) (h2:x.1.toNat<bs.length) (h3:x.2.length=256):
 bs.set x.1.toNat (((bs.getD x.1.toNat []).take 0)++x.2.take (min x.2.length (bs.getD x.1.toNat []).length)++(bs.getD x.1.toNat []).drop (0+min x.2.length (bs.getD x.1.toNat []).length))=layB bs x 256:=by
 have e:bs.getD x.1.toNat []=bs[x.1.toNat]:=by rw[aX,aG h2];rfl
 have:=(h _ (bH h2)).1
 rw[<-e]at this
 rw[this,h3,layB];simp
theorem getD_blk {bs:List (List Int)} {i:Nat} (h:i<bs.length):bs[i]? = some (bs.getD i []):=by
 rw[aX,aG h];rfl
theorem sync_eq {w:Dsk} {m:Nat} (ok:w.Ok m) (hm:m≤2^30):O_disk_Disk_Sync w.toD=some (w.sync.1.toD,w.sync.2):=by
 unfold O_disk_Disk_Sync Dsk.sync
 cases hd:w.down with
 |true=>
  have:w.toD.2.2.2.1=true:=hd
  simp only[this,show (true==false)=false from rfl,cond_false,aB,cond_true,if_true]
 |false=>
  have hdd:w.toD.2.2.2.1=false:=hd
  simp only[hdd,beq_self_eq_true,cond_true,aR,if_false,stepD ok,aB]
  cases hs:w.step.2 with
  |false=>simp only[eP,cond_true,aR,if_false]
  |true=>
   obtain⟨e1,e2,e3⟩:=step_same w
   have hw:=wts_nat ok
   have hlen:=ok.len
   simp only[cP,cond_false,if_true]
   rw[foldLoop (l:=w.waits) (fun(a:List (List Int)) i=>(a,w.step.1.toD.2.1,w.step.1.toD.2.2.1,w.step.1.toD.2.2.2.1,w.step.1.toD.2.2.2.2,w.step.1.toD.2.1,i)) (fun bs x=>layB bs x 256) (fun _ a=>mQ a/\a.length=w.blocks.length) (a:=w.step.1.toD.1)
    (fin:=fun a=>(a,w.step.1.toD.2.1,w.step.1.toD.2.2.1,w.step.1.toD.2.2.2.1,w.step.1.toD.2.2.2.2,w.step.1.toD.2.1,(w.waits.length:Int),false)) (by show mQ w.step.1.blocks/\w.step.1.blocks.length=_;rw[e1];exact⟨ok.blk,rfl⟩) (fun a i e he hi ha=>?_) (fun a ha=>?_)]
   ·simp only[aB]
    have:w.step.1.toD.1=w.blocks:=e1
    rw[this];rfl
   ·obtain⟨x1,x2,x3,x4⟩:=hw e (aL he)
    have l2:w.step.1.toD.2.1=w.waits:=e2
    have c1:(i:Int)<((w.waits.length:Nat):Int):=by omega
    have c2:e.1.toNat<a.length:=by rw[ha.2];exact x2
    refine⟨?_,layB_ok ha.1 x1 c2 x3 x4 (aK _),by rw[layB_len];exact ha.2⟩
    simp only[l2,c1,decide_true,cond_true,aY,aP,he,aB,x1,c2,getD_blk c2,iE (show i<2^62 by omega),laid_eq ha.1 c2 x3]
   ·have l2:w.step.1.toD.2.1=w.waits:=e2
    simp[l2]
theorem refLay {w:Dsk} {x:Wr} {p:Int} (hb:mQ w.blocks) (hf:w.blocks.length≤256) (h1:0≤x.1) (h2:x.1.toNat<w.blocks.length) (h3:x.2.length=256) (hp:0≤p/\p≤256):
 O_batonref21_lay (w.toR,x,p)=some ({ w with blocks:=layB w.blocks x p.toNat }).toR:=by
 unfold O_batonref21_lay
 have hB:w.toR.1=w.blocks:=rfl
 have g:=getD_blk h2
 have gl:(w.blocks.getD x.1.toNat []).length=256:=(hb _ (aL g)).1
 have c1:((([]:List (List Int)).length+w.blocks.length)*(24+1)≤bY):=by unfold bY;simp;omega
 have c2:p.toNat≤256:=by omega
 have c3:((([]:List Int).length+((x.2.drop 0).take (p.toNat-0)).length)*(1+1)≤bY):=by unfold bY;simp;omega
 have c4:(((([]:List Int)++((x.2.drop 0).take (p.toNat-0))).length+(((w.blocks.getD x.1.toNat []).drop p.toNat).take (256-p.toNat)).length)*(1+1)≤bY):=by unfold bY;simp;omega
 have c5:x.1.toNat<(([]:List (List Int))++w.blocks).length:=by simpa using h2
 have c6:(0≤p.toNat/\p.toNat≤256):=⟨fO _,c2⟩
 have c7:(p.toNat≤256/\256≤256):=⟨c2,aK _⟩
 have t1:((w.blocks.getD x.1.toNat []).drop p.toNat).take (256-p.toNat)=(w.blocks.getD x.1.toNat []).drop p.toNat:=bU (by rw[bW,gl];exact aK _)
 simp only[hB,c1,decide_true,cond_true,hp.1,h3,c6,h1,g,aB,gl,c7,c3,c4,c5,bZ,t1]
 simp only[bZ]at c3 c4 c5
 simp only[t1,eO,hJ]at c4
 simp only[c4,c5,decide_true,cond_true,g,aB,eO,hJ,and_self]
 rfl
theorem refSync {w:Dsk} {m:Nat} (ok:w.Ok m) (hm:m≤2^30):O_batonref21_Sync w.toR=some (w.sync.1.toR,w.sync.2):=by
 unfold O_batonref21_Sync Dsk.sync
 cases hd:w.down with
 |true=>
  have:w.toR.2.2.2.1=true:=hd
  simp only[this,cond_true,if_true]
 |false=>
  have hdd:w.toR.2.2.2.1=false:=hd
  simp only[hdd,cond_false,aR,if_false,stepR ok,aB]
  cases hs:w.step.2 with
  |false=>simp only[eP,cond_true,aR,if_false]
  |true=>
   obtain⟨e1,e2,e3⟩:=step_same w
   have hw:=wts_nat ok
   have hlen:=ok.len
   have eb:w.step.1.toR.1=w.blocks:=e1
   have ew:w.step.1.toR.2.1=w.waits:=e2
   simp only[cP,cond_false,if_true,eb,ew]
   rw[foldLoop (l:=w.waits) (fun(a:List (List Int)) i=>(a,w.waits,w.step.1.toR.2.2.1,w.step.1.toR.2.2.2.1,w.step.1.toR.2.2.2.2.1,w.step.1.toR.2.2.2.2.2,i)) (fun bs x=>layB bs x 256) (fun _ a=>mQ a/\a.length=w.blocks.length) (a:=w.blocks)
    (fin:=fun a=>(a,w.waits,w.step.1.toR.2.2.1,w.step.1.toR.2.2.2.1,w.step.1.toR.2.2.2.2.1,w.step.1.toR.2.2.2.2.2,(w.waits.length:Int),false)) ⟨ok.blk,rfl⟩ (fun a i e he hi ha=>?_) (fun a ha=>?_)]<;>first|rfl|skip
   ·obtain⟨x1,x2,x3,x4⟩:=hw e (aL he)
    have c1:(i:Int)<((w.waits.length:Nat):Int):=by omega
    have c2:e.1.toNat<a.length:=by rw[ha.2];exact x2
    refine⟨?_,layB_ok ha.1 x1 c2 x3 x4 (aK _),by rw[layB_len];exact ha.2⟩
    have rl:=refLay (w:={ w.step.1 with blocks:=a,waits:=w.waits }) (x:=e) (p:=256) ha.1 (by have:=ok.few;have:=ha.2;simp only;omega) x1 c2 x3 ⟨by decide,by decide⟩
    have rl':O_batonref21_lay ((a,w.waits,w.step.1.toR.2.2.1,w.step.1.toR.2.2.2.1,w.step.1.toR.2.2.2.2.1,w.step.1.toR.2.2.2.2.2),e,256)=some (layB a e 256,w.waits,w.step.1.toR.2.2.1,w.step.1.toR.2.2.2.1,w.step.1.toR.2.2.2.2.1,w.step.1.toR.2.2.2.2.2):=rl
    simp only[c1,decide_true,cond_true,aY,aP,he,aB,rl',iE (show i<2^62 by omega)]
   ·simp
theorem clamp_nat (p:Int):clampP p=(if 256<(if 0>p then 0 else p) then 256 else (if 0>p then 0 else p)):=rfl
theorem cpy_eq {bs:List (List Int)} {x:Wr} {k:Nat} (h:mQ bs) (h2:x.1.toNat<bs.length) (h3:x.2.length=256) (hk:k≤256):
 bs.set x.1.toNat (((bs.getD x.1.toNat []).take 0)++(((x.2.drop 0).take (k-0)).take (min ((x.2.drop 0).take (k-0)).length (bs.getD x.1.toNat []).length))++(bs.getD x.1.toNat []).drop (0+min ((x.2.drop 0).take (k-0)).length (bs.getD x.1.toNat []).length))=layB bs x k:=by
 have e:bs.getD x.1.toNat []=bs[x.1.toNat]:=by rw[aX,aG h2];rfl
 have:=(h _ (bH h2)).1
 rw[<-e]at this
 have l1:((x.2.drop 0).take (k-0)).length=k:=by simp[h3];omega
 rw[this,l1,iK hk,layB];simp[oX]
theorem crash_eq {w:Dsk} {m:Nat} (ok:w.Ok m) (hm:m≤2^30) (picks:List Int) (hp:picks.length<2^60):O_disk_Disk_Crash (w.toD,picks)=some (w.crash picks).toD:=by
 unfold O_disk_Disk_Crash Dsk.crash
 have hw:=wts_nat ok
 have hlen:=ok.len
 have eb:w.toD.1=w.blocks:=rfl
 dsimp only
 simp only[eb]
 rw[uC (l:=w.waits) (mk:=fun(a:List (List Int)) (i:Int)=>(a,w.toD.2.1,w.toD.2.2.1,w.toD.2.2.2.1,w.toD.2.2.2.2,w.toD.2.1,i)) (step:=fun a i e=>some (.inl (if h:i<picks.length then layB a e (clampP picks[i]).toNat else a))) (fin:=fun a=>some (a,w.toD.2.1,w.toD.2.2.1,w.toD.2.2.2.1,w.toD.2.2.2.2,w.toD.2.1,(w.waits.length:Int),false)) (fun _ a=>mQ a/\a.length=w.blocks.length) (fun a i e he ha=>?_) (fun a i e a' he ha hs=>?_) (fun a ha=>?_) ⟨ok.blk,rfl⟩]
 ·have key:∀(l:List Wr) (i:Nat) (a:List (List Int)),sS (fun a i e=>some (Sum.inl (if h:i<picks.length then layB a e (clampP picks[i]).toNat else a))) (fun a=>some (a,w.toD.2.1,w.toD.2.2.1,w.toD.2.2.2.1,w.toD.2.2.2.2,w.toD.2.1,(w.waits.length:Int),false)) i a l=some ((l.zip (picks.drop i)).foldl (fun bs x=>layB bs x.1 (clampP x.2).toNat) a,w.toD.2.1,w.toD.2.2.1,w.toD.2.2.2.1,w.toD.2.2.2.2,w.toD.2.1,(w.waits.length:Int),false):=by
   intro l
   induction l with
   |nil=>intro i a;rfl
   |cons x l ih=>
    intro i a
    simp only[sS,aB]
    rw[ih]
    by_cases h:i<picks.length
    ·rw[dif_pos h,gO h,List.zip_cons_cons,kZ]
    ·rw[dif_neg h,dN (by omega),dN (by omega),List.zip_nil_right,List.zip_nil_right]
  rw[key]
  rfl
 ·obtain⟨x1,x2,x3,x4⟩:=hw e (aL he)
  have hi:=gU he
  have l2:w.toD.2.1=w.waits:=rfl
  have c1:(i:Int)<((w.waits.length:Nat):Int):=by omega
  have c2:e.1.toNat<a.length:=by rw[ha.2];exact x2
  simp only[l2,c1,decide_true,cond_true,aY,aP,he,aB,iE (show i<2^62 by omega)]
  by_cases h:i<picks.length
  ·have c3:(i:Int)<(picks.length:Int):=by omega
   have hcl:=clampP_le picks[i]
   have c4:(0≤(clampP picks[i]).toNat/\(clampP picks[i]).toNat≤e.2.length):=by omega
   simp only[c3,decide_true,cond_true,x1,c2,getD_blk c2,aB,aG h,<-clamp_nat,hcl.1,c4,and_self,cpy_eq ha.1 c2 x3 (show (clampP picks[i]).toNat≤256 by omega),h,dif_pos,cK]
  ·have c3:¬(i:Int)<(picks.length:Int):=by omega
   simp only[c3,decide_false,cond_false,h,dif_neg,not_false_eq_true,cK]
 ·obtain⟨x1,x2,x3,x4⟩:=hw e (aL he)
  simp only[aD,Sum.inl.injEq]at hs
  subst hs
  have c2:e.1.toNat<a.length:=by rw[ha.2];exact x2
  split
  ·rename_i h
   have hcl:=clampP_le picks[i]
   exact⟨layB_ok ha.1 x1 c2 x3 x4 (by omega),by rw[layB_len];exact ha.2⟩
  ·exact ha
 ·have l2:w.toD.2.1=w.waits:=rfl
  simp[l2]
theorem refCrash {w:Dsk} {m:Nat} (ok:w.Ok m) (hm:m≤2^30) (picks:List Int) (hp:picks.length<2^60):O_batonref21_Crash (w.toR,picks)=some (w.crash picks).toR:=by
 unfold O_batonref21_Crash Dsk.crash
 have hw:=wts_nat ok
 have hlen:=ok.len
 have zl:(w.waits.zip picks).length=min w.waits.length picks.length:=List.length_zip
 have eb:w.toR.1=w.blocks:=rfl
 have ew:w.toR.2.1=w.waits:=rfl
 dsimp only
 simp only[eb,ew]
 rw[foldLoop (l:=w.waits.zip picks) (fun(a:List (List Int)) i=>(a,w.waits,w.toR.2.2.1,w.toR.2.2.2.1,w.toR.2.2.2.2.1,w.toR.2.2.2.2.2,i)) (fun bs x=>layB bs x.1 (clampP x.2).toNat) (fun _ a=>mQ a/\a.length=w.blocks.length) (a:=w.blocks)
     (fin:=fun a=>(a,w.waits,w.toR.2.2.1,w.toR.2.2.2.1,w.toR.2.2.2.2.1,w.toR.2.2.2.2.2,(((w.waits.zip picks).length:Nat):Int),false)) ⟨ok.blk,rfl⟩ (fun a i e he hi ha=>?_) (fun a ha=>?_)]<;>first|rfl|skip
 ·obtain⟨g1,g2⟩:=Yu.1 he
  obtain⟨x1,x2,x3,x4⟩:=hw e.1 (aL g1)
  have b1:=gU g1
  have b2:=gU g2
  have c1:(i:Int)<((w.waits.length:Nat):Int):=by omega
  have c3:(i:Int)<(picks.length:Int):=by omega
  have c2:e.1.1.toNat<a.length:=by rw[ha.2];exact x2
  have hcl:=clampP_le e.2
  refine⟨?_,layB_ok ha.1 x1 c2 x3 x4 (by omega),by rw[layB_len];exact ha.2⟩
  have rl:=refLay (w:={ w with blocks:=a }) (x:=e.1) (p:=clampP e.2) ha.1 (by have:=ok.few;have:=ha.2;simp only;omega) x1 c2 x3 hcl
  have rl':O_batonref21_lay ((a,w.waits,w.toR.2.2.1,w.toR.2.2.2.1,w.toR.2.2.2.2.1,w.toR.2.2.2.2.2),e.1,clampP e.2)=some (layB a e.1 (clampP e.2).toNat,w.waits,w.toR.2.2.1,w.toR.2.2.2.1,w.toR.2.2.2.2.1,w.toR.2.2.2.2.2):=rl
  simp only[c1,c3,decide_true,beq_self_eq_true,cond_true,aY,aP,g1,g2,aB,<-clamp_nat,rl',iE (show i<2^62 by omega)]
 ·by_cases h:w.waits.length≤picks.length
  ·have:¬((((w.waits.zip picks).length:Nat):Int)<((w.waits.length:Nat):Int)):=by omega
   simp only[this,decide_false,show (false==true)=false from rfl,cond_false,aB]
  ·have h1:((((w.waits.zip picks).length:Nat):Int)<((w.waits.length:Nat):Int)):=by omega
   have h2:¬((((w.waits.zip picks).length:Nat):Int)<(picks.length:Int)):=by omega
   simp only[h1,h2,decide_true,decide_false,beq_self_eq_true,cond_true,cond_false,aB]
theorem cut_eq (w:Dsk) (n:Int):O_disk_Disk_Cut (w.toD,n)=some (w.cutAt n).toD:=by
 unfold O_disk_Disk_Cut Dsk.cutAt
 have:(if 0>n then 0 else n)=((n.toNat:Nat):Int):=by split<;>omega
 rw[this];rfl
theorem refCut (w:Dsk) (n:Int):O_batonref21_Cut (w.toR,n)=some (w.cutAt n).toR:=by
 unfold O_batonref21_Cut Dsk.cutAt
 have:(if 0>n then 0 else n)=((n.toNat:Nat):Int):=by split<;>omega
 rw[this];rfl
end Go.Ideal.Seat
namespace Go.Ideal.Seat
open Go.Ideal.Plain
namespace Dsk
def lay (w:Dsk) (n:Int) (b:List Int):Dsk×Int:=if (w.put n b).2≠0 then w.put n b else (w.put n b).1.sync
end Dsk
theorem Ok.up {w:Dsk} {m k:Nat} (ok:w.Ok m) (h:m≤k):w.Ok k:=⟨ok.few,ok.blk,ok.wts,cQ ok.len h,ok.bad,ok.cut⟩
theorem lay_ok {w:Dsk} {m:Nat} (ok:w.Ok m) {n:Int} {b:List Int} (hb:B8 b):(w.lay n b).1.Ok (m+1):=by
 unfold Dsk.lay
 split
 ·exact nH ok hb
 ·exact sync_ok (nH ok hb)
theorem rd_good {w:Dsk} {m:Nat} (ok:w.Ok m) {n:Int} (h:(w.rd n).2=0):(w.rd n).1.length=256/\B8 (w.rd n).1:=by
 unfold Dsk.rd at h |-
 split at h
 ·cases h
 ·split at h
  ·cases h
  ·rename_i h1 h2
   rw[if_neg h1,if_neg h2]
   exact lastW_ok (fun x hx=>(ok.wts x hx).2) (blk_get ok (Classical.not_not.1 h2))
def unmark (w:Dsk) (n:Int) (was:List Int):Dsk×Int:=if was.getD 255 0≠0 then w.lay n (markB was false) else (w,0)
def laid (s:Dsk×Int) (n:Int) (b:List Int):Dsk×Int:=if s.2≠0 then s else s.1.lay n b
theorem unmark_ok {w:Dsk} {m:Nat} (ok:w.Ok m) {n:Int} {b:List Int} (hb:B8 b):(unmark w n b).1.Ok (m+1):=by
 unfold unmark
 split
 ·exact lay_ok ok (markB_B8 hb false)
 ·exact Ok.up ok (by omega)
theorem laid_ok {s:Dsk×Int} {m:Nat} (ok:s.1.Ok m) {n:Int} {b:List Int} (hb:B8 b):(laid s n b).1.Ok (m+1):=by
 unfold laid
 split
 ·exact Ok.up ok (by omega)
 ·exact lay_ok ok hb
end Go.Ideal.Seat
namespace Go.Ideal.Seat
open Go.Ideal.Plain
def zB:List Int:=List.replicate 256 0
theorem zB_ok:zB.length=256/\B8 zB:=⟨eA,B8.rep _⟩
def newD (n:Nat):Dsk:=⟨List.replicate n zB,[],[],false,none⟩
theorem newD_ok (n:Nat) (h:n≤256):(newD n).Ok 0:=
 ⟨by show (List.replicate n zB).length≤256;rw[eA];exact h,(fun b hb=>by rw[cA hb];exact zB_ok),(fun x hx=>by cases hx),aK _,by show 0≤2^36;decide,(fun k hk=>by cases hk)⟩
theorem cloneI:O_slices_Clone_int_int []=some []:=by
 unfold O_slices_Clone_int_int
 have hm:(([]:List Int).length+([]:List Int).length)*(8+1)≤bY:=by unfold bY;decide
 simp only[hm,decide_true,cond_true,bZ]
 exact Mz
theorem newD_eq (n:Nat) (h1:1≤n) (h2:n≤256):O_disk_New ((n:Int),[])=some (some (newD n).toD,0):=by
 unfold O_disk_New
 have a:¬((n:Int)<1):=by omega
 have b:¬((n:Int)>256):=by omega
 have hm:decide ((0:Nat)≤256/\(256:Int)*((1+1:Nat):Int)≤bY)=true:=by unfold bY;decide
 have hz:List.replicate (Int.toNat 256) (0:Int)=zB:=rfl
 simp only[a,b,decide_false,beq_self_eq_true,cond_true,aB,cond_false,cloneI,hm,hz]
 rw[countLoop n (fun(l:List (List Int)) i=>(l,([]:List Wr),([]:List Int),false,(-1:Int),i)) (fun _ l=>l++[zB]) (fun i l=>l.length=i) (fin:=fun l=>(l,([]:List Wr),([]:List Int),false,(-1:Int),(n:Int),false)) rfl (fun l i hi hl=>?_) (fun l hl=>by simp)]
 ·rw[append_fold];rfl
 ·have c:(i:Int)<(n:Int):=by omega
  have m1:((l.length+([zB]:List (List Int)).length)*(24+1)≤bY):=by unfold bY;simp;omega
  refine⟨?_,by simp[hl]⟩
  simp only[c,m1,hm,decide_true,cond_true,iE (show i<2^62 by omega)]
theorem refNew (n:Nat) (h2:n≤256):F_batonref21_New ((n:Int),[])=some (newD n).toR:=by
 unfold F_batonref21_New
 have hm:decide ((0:Nat)≤256/\(256:Int)*((1+1:Nat):Int)≤bY)=true:=by unfold bY;decide
 have hz:List.replicate (Int.toNat 256) (0:Int)=zB:=rfl
 simp only[hm,cond_true,hz]
 rw[countLoop n (fun(l:List (List Int)) i=>(l,([]:List Wr),([]:List Int),false,false,(0:Int),i)) (fun _ l=>l++[zB]) (fun i l=>l.length=i) (fin:=fun l=>(l,([]:List Wr),([]:List Int),false,false,(0:Int),(n:Int),false)) rfl (fun l i hi hl=>?_) (fun l hl=>by simp)]
 ·rw[append_fold];rfl
 ·have c:(i:Int)<(n:Int):=by omega
  have m1:((l.length+([zB]:List (List Int)).length)*(24+1)≤bY):=by unfold bY;simp;omega
  refine⟨?_,by simp[hl]⟩
  simp only[c,m1,hm,decide_true,cond_true,iE (show i<2^62 by omega)]
end Go.Ideal.Seat
namespace Go.Ideal.Seat
open Go.Ideal.Plain
theorem set_getD {bs:List (List Int)} {i:Nat} {b:List Int} (h:i<bs.length):(bs.set i b).getD i []=b:=by
 rw[aX,oY h];rfl
theorem set_getD_ne {bs:List (List Int)} {i j:Nat} {b:List Int} (h:i≠j):(bs.set i b).getD j []=bs.getD j []:=by
 rw[aX,List.getElem?_set_ne h,<-aX]
theorem set_same {bs:List (List Int)} {i:Nat} (h:i<bs.length):bs.set i (bs.getD i [])=bs:=by
 have e:bs.getD i []=bs[i]:=by rw[aX,aG h];rfl
 rw[e];exact lG h
def idle (bs:List (List Int)) (c:Option Nat):Dsk:=⟨bs,[],[],false,c⟩
theorem idle_there {bs:List (List Int)} {c:Option Nat} {n:Nat} (h:n<bs.length):(idle bs c).there (n:Int):=⟨by omega,by show (n:Int)<(bs.length:Int);omega⟩
theorem idle_rd {bs:List (List Int)} {c:Option Nat} {n:Nat} (h:n<bs.length):(idle bs c).rd (n:Int)=(bs.getD n [],0):=by
 unfold Dsk.rd
 have:(idle bs c).down=false:=rfl
 rw[if_neg (by rw[this];decide),if_neg (fun h'=>h' (idle_there h))]
 rfl
theorem layB_all {bs:List (List Int)} {n:Nat} {b:List Int} (hb:mQ bs) (h:n<bs.length) (hl:b.length=256):layB bs ((n:Int),b) 256=bs.set n b:=by
 have:=(hb _ (aL (getD_blk h))).1
 rw[layB]
 simp only[aP]
 rw[bU (by omega),dN (by omega),bA]
theorem idle_lay {bs:List (List Int)} {c:Option Nat} {n:Nat} {b:List Int} (hb:mQ bs) (h:n<bs.length) (hl:b.length=256):(idle bs c).lay (n:Int) b=match c with
 |none=>(idle (bs.set n b) none,0)
 |some 0=>(⟨bs,[],[],true,some 0⟩,19)
 |some 1=>(⟨bs,[((n:Int),b)],[],true,some 0⟩,19)
 |some (k+2)=>(idle (bs.set n b) (some k),0):=by
 have hp:∀c:Option Nat,(idle bs c).put (n:Int) b=if (idle bs c).step.2=true then ({ (idle bs c).step.1 with waits:=[((n:Int),b)] },0) else ((idle bs c).step.1,19):=fun c=>by
  unfold Dsk.put
  have:(idle bs c).down=false:=rfl
  rw[if_neg (by rw[this];decide),if_neg (by rintro (h'|h');exact h' (idle_there h);exact h' hl),if_neg (by show ¬(n:Int)∈[];simp)]
  have:(idle bs c).step.1.waits=[]:=(step_same _).2.1
  rw[this];rfl
 have hs:∀c:Option Nat,(⟨bs,[((n:Int),b)],[],false,c⟩:Dsk).sync=if (⟨bs,[((n:Int),b)],[],false,c⟩:Dsk).step.2=true then ({ (⟨bs,[((n:Int),b)],[],false,c⟩:Dsk).step.1 with blocks:=bs.set n b,waits:=[] },0) else ((⟨bs,[((n:Int),b)],[],false,c⟩:Dsk).step.1,19):=fun c=>by
  unfold Dsk.sync
  simp only[kZ,List.foldl_nil,layB_all hb h hl]
  rfl
 unfold Dsk.lay
 rw[hp]
 match c with
 |none=>
  have:=hs none
  simpa [Dsk.step,idle]using this
 |some 0=>simp[Dsk.step,idle]
 |some 1=>
  have:=hs (some 0)
  simpa [Dsk.step,idle]using this
 |some (k+2)=>
  have:=hs (some (k+1))
  simpa [Dsk.step,idle]using this
def fullB (g no:Int) (d:List Int):List Int:=markB (recB g no d) true
theorem crash_none {bs:List (List Int)} {c:Option Nat} {dn:Bool} (picks:List Int):((⟨bs,[],[],dn,c⟩:Dsk).crash picks)=idle bs none:=by
 unfold Dsk.crash;simp[idle]
theorem crash_one {bs:List (List Int)} {c:Option Nat} {dn:Bool} {x:Wr} (picks:List Int):∃k,k≤256/\(((⟨bs,[x],[],dn,c⟩:Dsk).crash picks)=idle bs none\/((⟨bs,[x],[],dn,c⟩:Dsk).crash picks)=idle (layB bs x k) none):=by
 match picks with
 |[]=>exact⟨0,by omega,.inl (by simp[Dsk.crash,idle])⟩
 |p::ps=>exact⟨(clampP p).toNat,by have:=clampP_le p;omega,.inr (by simp[Dsk.crash,idle])⟩
theorem take_drop_mark {b:List Int} {is:Bool} (h:b.length=256) {k:Nat} (hk:k≤256):(markB b is).take k++b.drop k=b\/(markB b is).take k++b.drop k=markB b is:=by
 by_cases hk2:k=256
 ·subst hk2
  refine .inr ?_
  rw[bU (by rw[markB_len];omega),dN (by omega),bA]
 ·refine .inl ?_
  rw[markB,List.take_set_of_le (by omega),gR]
theorem mark_zero {b:List Int} (h:b.length=256):(markB b false).getD 255 0=0:=by
 rw[aX,markB,oY (by omega)];rfl
theorem recB_zero {g no:Int} {d:List Int} (h:d.length≤234):(recB g no d).getD 255 0=0:=by
 have hb:=recBody_len g no h
 rw[recB,<-bQ,aX,fH (by rw[aV,hb,sum4_len];omega),aV,hb,sum4_len];rfl
theorem torn_zero {a b:List Int} (ha:a.length=256) (hb:b.length=256) (h1:a.getD 255 0=0) (h2:b.getD 255 0=0) {k:Nat} (hk:k≤256):(a.take k++b.drop k).getD 255 0=0/\(a.take k++b.drop k).length=256:=by
 refine⟨?_,by simp[ha,hb];omega⟩
 by_cases h:k=256
 ·subst h
  rw[bU (by omega),dN (by omega),bA];exact h1
 ·have hl:(a.take k).length=k:=by rw[bP];omega
  rw[aX,fH (by omega),hl,gX,show k+(255-k)=255 by omega,<-aX];exact h2
theorem ok_of {bs ws:List _} {c:Option Nat} {dn:Bool} (hb:mQ bs) (hf:bs.length≤256) (hw:∀x∈ws,(0≤x.1/\x.1<(bs.length:Int))/\x.2.length=256/\B8 x.2) (hl:ws.length≤1) (hc:∀k,c=some k->k<9223372036854775808):(⟨bs,ws,[],dn,c⟩:Dsk).Ok 1:=
 ⟨hf,hb,hw,hl,by show 0≤2^36;decide,hc⟩
theorem mQ.set {bs:List (List Int)} (h:mQ bs) {n:Nat} {b:List Int} (hl:b.length=256) (h8:B8 b):mQ (bs.set n b):=fun x hx=>by
 rcases jL hx with h'|rfl
 ·exact h x h'
 ·exact⟨hl,h8⟩
theorem crash_lay {bs:List (List Int)} {n:Nat} {b o:List Int} {g:Int} {c:Option Nat} (hn:n<bs.length) (ho:(bs.getD n [])=o) (P:List Int->Prop) (h0:P o) (h1:∀k,k≤256->P (b.take k++o.drop k)) (picks:List Int):
 ∃b',(⟨bs,[((n:Int),b)],[],true,c⟩:Dsk).crash picks=idle (bs.set n b') none/\P b':=by
 obtain⟨k,hk,h|h⟩:=crash_one (bs:=bs) (c:=c) (dn:=true) (x:=((n:Int),b)) picks
 ·exact⟨o,by rw[h,<-ho,set_same hn],h0⟩
 ·exact⟨b.take k++o.drop k,by rw[h,layB];simp only[aP];rw[ho],h1 k hk⟩
theorem laid_stop (w:Dsk) (n:Int) (b:List Int):laid (w,19) n b=(w,19):=if_pos (show (19:Int)≠0 by decide)
end Go.Ideal.Seat
namespace Go.Ideal.Seat
open Go.Ideal.Plain
section
variable {S X A E:Type}
theorem invLoop {l:List E} {F:S->Option (S⊕X)} (mk:A->Int->S) (inv:Nat->A->Prop) (Q:X->Prop) {a:A} (h0:inv 0 a)
 (h1:∀a i e,l[i]? = some e->i<l.length->inv i a->(∃a',F (mk a i)=some (.inl (mk a' ((i+1:Nat):Int)))/\inv (i+1) a')\/∃x,F (mk a i)=some (.inr x)/\Q x)
 (h2:∀a,inv l.length a->∃x,F (mk a l.length)=some (.inr x)/\Q x):∃x,cL F (mk a 0)=some x/\Q x:=by
 have key:∀k a,k≤l.length->inv (l.length-k) a->∃x,cL F (mk a ((l.length-k:Nat):Int))=some x/\Q x:=by
  intro k
  induction k with
  |zero=>intro a _ h;obtain⟨x,e,q⟩:=h2 a h;exact⟨x,by rw[hJ,fU e],q⟩
  |succ k ih=>
   intro a hk h
   have hlt:l.length-(k+1)<l.length:=by omega
   have hs:l.length-(k+1)+1=l.length-k:=by omega
   rcases h1 a _ _ (aG hlt) hlt h with ⟨a',e,h'⟩|⟨x,e,q⟩
   ·rw[hs]at e h'
    obtain⟨x,e2,q⟩:=ih a' (by omega) h'
    exact⟨x,by rw[iN e,e2],q⟩
   ·exact⟨x,fU e,q⟩
 have:=key l.length a (aK _) (by simpa using h0)
 simpa using this
end
theorem rep_blk (n:Nat):mQ (List.replicate n zB):=fun b hb=>by rw[cA hb];exact zB_ok
theorem rep_get {n i:Nat} (h:i<n):(List.replicate n zB).getD i []=zB:=by
 rw[aX,kD,if_pos h];rfl
theorem bind_ex' {α β:Type} {o:Option α} {k:α->Option β} {r:β} {Q:α->Prop} (h:∃x,o=some x/\Q x) (hk:∀x,Q x->k x=some r):o.bind k=some r:=by
 obtain⟨x,e,q⟩:=h
 rw[e];exact hk x q
theorem b8_of {l:List Int} (h:∀x∈l,IntKind.min .u8≤x/\x≤IntKind.max .u8):B8 l:=fun x hx=>⟨(h x hx).1,Jh (h x hx).2 (by decide)⟩
theorem i64_of {x:Int} (h:IntKind.min .i64≤x/\x≤IntKind.max .i64):-9223372036854775808≤x/\x<9223372036854775808:=⟨h.1,Jh h.2 (by decide)⟩
end Go.Ideal.Seat
namespace Go.Ideal.Seat
open Go.Ideal.Plain
end Go.Ideal.Seat
namespace Go.Ideal.Seat
open Go.Ideal.Plain
end Go.Ideal.Seat
namespace Go.Ideal.Seat
open Go.Ideal.Plain
def repB (v:Int):List Int:=List.replicate 256 v
theorem repB_len (v:Int):(repB v).length=256:=eA
def blkOf (fill last:Int) (short:Bool):List Int:=if short=true then ((repB fill).set 255 last).take 255 else (repB fill).set 255 last
theorem blkOf_B8 {fill last:Int} (h1:0≤fill/\fill<256) (h2:0≤last/\last<256) (short:Bool):B8 (blkOf fill last short):=by
 have hr:B8 (repB fill):=fun x hx=>by rw[cA hx];exact h1
 unfold blkOf
 split
 ·exact(hr.set _ h2).take _
 ·exact hr.set _ h2
abbrev DOp:=Int×Int×Int×Int×Bool×List Int
theorem block_eq (o:DOp):F_batonlaw21_block o=some (blkOf o.2.2.1 o.2.2.2.1 o.2.2.2.2.1):=by
 obtain⟨k,n,fill,last,short,picks⟩:=o
 unfold F_batonlaw21_block
 have hm:decide ((0:Nat)≤256/\(256:Int)*((1+1:Nat):Int)≤bY)=true:=by unfold bY;decide
 have hz:List.replicate (Int.toNat 256) (0:Int)=repB 0:=rfl
 simp only[hm,cond_true,hz]
 rw[countLoop 256 (fun(l:List Int) i=>(l,i)) (fun i l=>l.set i fill) (fun _ l=>l.length=256) (a:=repB 0) (fin:=fun l=>(l,((256:Nat):Int),false)) (repB_len 0) (fun l i hi hl=>?_) (fun l hl=>by rfl)]
 ·have hr:upTo (fun i l=>l.set i fill) 256 (repB 0)=repB fill:=replicate_fold fill 0
  have g:(repB fill)[255]? = some ((repB fill).getD 255 0):=getD_some (by rw[repB_len];omega)
  have l1:((repB fill).set 255 last).length=256:=by rw[eV,repB_len]
  simp only[hr,aB,repB_len,show decide (255<256)=true from rfl,cond_true,g,l1]
  cases short with
  |true=>simp only[cond_true,blkOf,if_true,eO,hJ,show decide (0≤255/\255≤256)=true from rfl]
  |false=>simp only[cond_false,blkOf,aR,if_false]
 ·have c:(i:Int)<256:=by omega
  have c2:i<l.length:=by omega
  refine⟨?_,by rw[eV];exact hl⟩
  simp only[c,c2,decide_true,cond_true,aY,aP,aG c2,aB,iE (show i<2^62 by omega)]
def doOp (w:Dsk) (o:DOp):Dsk:=if o.1=0 then (w.put o.2.1 (blkOf o.2.2.1 o.2.2.2.1 o.2.2.2.2.1)).1 else if o.1=1 then w.sync.1 else if o.1=2 then w.cutAt o.2.1 else w.crash o.2.2.2.2.2
theorem doOp_ok {w:Dsk} {m:Nat} (ok:w.Ok m) (o:DOp) (hn:o.2.1<9223372036854775808) (hf:0≤o.2.2.1/\o.2.2.1<256) (hl:0≤o.2.2.2.1/\o.2.2.2.1<256):(doOp w o).Ok (m+1):=by
 unfold doOp
 split
 ·exact nH ok (blkOf_B8 hf hl _)
 ·split
  ·exact Ok.up (sync_ok ok) (by omega)
  ·split
   ·exact Ok.up (cut_ok ok hn) (by omega)
   ·exact Ok.up (crash_ok ok _) (by omega)
theorem do_eq {w:Dsk} {m:Nat} (ok:w.Ok m) (hm:m≤2^30) (o:DOp) (hp:o.2.2.2.2.2.length<2^60):O_batonlaw21_Do (w.toD,w.toR,o)=some ((doOp w o).toD,(doOp w o).toR,true):=by
 unfold O_batonlaw21_Do doOp
 by_cases a:o.1=0
 ·simp only[a,beq_self_eq_true,cond_true,if_true,block_eq,aB,put_eq ok hm,refPut ok hm]
 ·have a':(o.1==0)=false:=by simpa using a
  simp only[a',cond_false,a,if_false]
  by_cases b:o.1=1
  ·simp only[b,beq_self_eq_true,cond_true,if_true,aB,sync_eq ok hm,refSync ok hm]
  ·have b':(o.1==1)=false:=by simpa using b
   simp only[b',cond_false,b,if_false]
   by_cases c:o.1=2
   ·simp only[c,beq_self_eq_true,cond_true,if_true,aB,cut_eq,refCut]
   ·have c':(o.1==2)=false:=by simpa using c
    simp only[c',cond_false,c,if_false,crash_eq ok hm _ hp,refCrash ok hm _ hp,aB]
theorem shows_eq {w:Dsk} {m:Nat} (ok:w.Ok m) (hm:m≤2^30):O_batonlaw21_Shows (w.toD,w.toR)=some (w.toD,true):=by
 unfold O_batonlaw21_Shows O_disk_Disk_Blocks O_disk_Disk_Up O_disk_Disk_Waits
 have e1:w.toD.1.length=w.blocks.length:=rfl
 have e2:w.toR.1.length=w.blocks.length:=rfl
 have e3:w.toD.2.2.2.1=w.down:=rfl
 have e4:w.toR.2.2.2.1=w.down:=rfl
 have e5:w.toD.2.1.length=w.waits.length:=rfl
 have e6:w.toR.2.1.length=w.waits.length:=rfl
 have e7:((!w.down)==w.down)=false:=by cases w.down<;>rfl
 simp only[aB,e1,e2,e3,e4,e5,e6,e7,bne_self_eq_false,beq_self_eq_true,cond_true,cond_false]
 rw[countLoop w.blocks.length (fun(_:Unit) i=>(w.toD.1,w.toD.2.1,w.toD.2.2.1,w.down,w.toD.2.2.2.2,i)) (fun _ a=>a) (fun _ _=>True) (a:=()) (fin:=fun _=>.inr w.toD) trivial (fun a i hi _=>⟨?_,trivial⟩) (fun a _=>?_)]
 ·rfl
 ·have c:(i:Int)<(w.blocks.length:Int):=by omega
  have ht:w.there (i:Int):=⟨by omega,c⟩
  have hbk:(w.toD.1,w.toD.2.1,w.toD.2.2.1,w.down,w.toD.2.2.2.2)=w.toD:=rfl
  have hl:(w.rd (i:Int)).1.length<2^60:=by
   unfold Dsk.rd
   split
   ·simp
   ·have:=(lastW_ok (n:=(i:Int)) (fun x hx=>(ok.wts x hx).2) (blk_get ok ht)).1
    show (lastW w.waits (i:Int) (w.blocks.getD (i:Int).toNat [])).length<_
    omega
  have hlies:w.lies (i:Int)=w.blocks.getD i []:=by unfold Dsk.lies;rw[if_pos ht];rfl
  have g:w.toR.1[i]? = some (w.blocks.getD i []):=getD_blk hi
  have hbl:=(blk_get ok ht).1
  rw[aP]at hbl
  simp only[c,decide_true,cond_true,hbk,rd_eq ok hm,refRd ok hm,aB,bne_self_eq_false,beq_self_eq_true,bsame _ _ hl,cP,aY,aP,g,lies_eq ok,hlies,bsame _ _ (show (w.blocks.getD i []).length<2^60 by omega),cond_false,iE (show i<2^62 by have:=ok.few;omega)]
  rfl
 ·have c:¬((w.blocks.length:Int)<(w.blocks.length:Int)):=by omega
  simp only[c,decide_false,cond_false]
  rfl
theorem u8_of {x:Int} (h:IntKind.min .u8≤x/\x≤IntKind.max .u8):0≤x/\x<256:=⟨h.1,Jh h.2 (by decide)⟩
end Go.Ideal.Seat
namespace Go.Ideal.Seat
open Go.Ideal.Plain
theorem bindS {α β:Type} {o:Option α} {k:α->Option β} {v:α} {r:Option β} (h:o=some v) (hk:k v=r):o.bind k=r:=by rw[h];exact hk
theorem bindE {α β γ:Type} {o:Option α} {k:α->Option β} {v:γ->α} {r:Option β} (h:∃j,o=some (v j)) (hk:∀j,k (v j)=r):o.bind k=r:=by
 obtain⟨j,e⟩:=h
 rw[e];exact hk j
abbrev Sl:=Unit×Int×Int
theorem slay_eq {w:Dsk} {m:Nat} (ok:w.Ok m) (hm:m<2^30) {p:Int} (fr n:Int) {b:List Int} (hb:B8 b):O_slots_Slots_lay (w.toD,(((),fr,n):Sl),p,b)=some ((w.lay p b).1.toD,((),fr,n),(w.lay p b).2):=by
 unfold O_slots_Slots_lay Dsk.lay
 simp only[put_eq ok (by omega),aB]
 by_cases h:(w.put p b).2=0
 ·simp only[h,bne_self_eq_false,cond_false,ne_eq,not_true_eq_false,if_false,sync_eq (nH ok hb) (by omega),aB]
 ·have:((w.put p b).2 != 0)=true:=by simpa using h
  simp only[this,cond_true,ne_eq,h,not_false_eq_true,if_true]
theorem refSput {w:Dsk} {m:Nat} (ok:w.Ok m) (hm:m<2^30) {n:Int} {b:List Int} (hb:B8 b):O_batonref24_put (w.toR,n,b,true)=some ((w.lay n b).1.toR,(w.lay n b).2):=by
 unfold O_batonref24_put Dsk.lay
 simp only[refPut ok (by omega),aB]
 by_cases h:(w.put n b).2=0
 ·simp only[h,bne_self_eq_false,beq_self_eq_true,cP,cond_true,cond_false,ne_eq,not_true_eq_false,if_false,refSync (nH ok hb) (by omega),aB]
 ·have:((w.put n b).2 != 0)=true:=by simpa using h
  simp only[this,show (true==false)=false from rfl,cond_true,cond_false,ne_eq,h,not_false_eq_true,if_true,aB]
theorem refPut0 {w:Dsk} {m:Nat} (ok:w.Ok m) (hm:m<2^30) {n:Int} {b:List Int}:O_batonref24_put (w.toR,n,b,false)=some ((w.put n b).1.toR,(w.put n b).2):=by
 unfold O_batonref24_put
 simp only[refPut ok (by omega),aB]
 have:(bif ((w.put n b).2 != 0)==false then some (!false) else some true)=some true:=by cases ((w.put n b).2 != 0)<;>rfl
 rw[this]
 simp only[aB,cond_true]
def partI (b:List Int) (i:Nat):List Int:=(b.drop (256*i)).take 256
def blkI (b:List Int) (i:Nat):List Int:=partI b i++List.replicate (256-(partI b i).length) 0
theorem partI_len (b:List Int) (i:Nat):(partI b i).length≤256:=by unfold partI;rw[bP];omega
theorem blkI_len (b:List Int) (i:Nat):(blkI b i).length=256:=by
 have:=partI_len b i
 unfold blkI;rw[aV,eA];omega
theorem blkI_B8 {b:List Int} (hb:B8 b) (i:Nat):B8 (blkI b i):=((hb.drop _).take _).app (B8.rep _)
def putN (b:List Int) (p:Int):Nat->Dsk->Nat->Dsk×Int
 |0,w,_=>(w,0)
 |k+1,w,i=>if (w.put (p+1+i) (blkI b i)).2≠0 then w.put (p+1+i) (blkI b i) else putN b p k (w.put (p+1+i) (blkI b i)).1 (i+1)
theorem putN_ok {b:List Int} (hb:B8 b) (p:Int):∀(k:Nat) (w:Dsk) (i m:Nat),w.Ok m->(putN b p k w i).1.Ok (m+k)
 |0,w,i,m,ok=>ok
 |k+1,w,i,m,ok=>by
  have:=nH (n:=p+1+i) ok (blkI_B8 hb i)
  unfold putN
  split
  ·exact Ok.up this (by omega)
  ·exact Ok.up (putN_ok hb p k _ (i+1) (m+1) this) (by omega)
theorem putLoop {S X:Type} {F:S->Option (S⊕X)} {b:List Int} {p:Int} (K:Nat) (mk:Dsk->Nat->S) (bad:Dsk->Int->Nat->X) (good:Dsk->X) {m0:Nat} (hb:B8 b)
 (h1:∀i w,i<K->w.Ok (m0+i)->(w.put (p+1+i) (blkI b i)).2=0->F (mk w i)=some (.inl (mk (w.put (p+1+i) (blkI b i)).1 (i+1))))
 (h2:∀i w,i<K->w.Ok (m0+i)->(w.put (p+1+i) (blkI b i)).2≠0->cL F (mk w i)=some (bad (w.put (p+1+i) (blkI b i)).1 (w.put (p+1+i) (blkI b i)).2 i))
 (h3:∀w,w.Ok (m0+K)->F (mk w K)=some (.inr (good w))):∀(k i:Nat) (w:Dsk),i+k=K->w.Ok (m0+i)->
 ∃j,cL F (mk w i)=some (if (putN b p k w i).2≠0 then bad (putN b p k w i).1 (putN b p k w i).2 j else good (putN b p k w i).1):=by
 intro k
 induction k with
 |zero=>
  intro i w hi ok
  have:i=K:=by omega
  subst this
  exact⟨0,by rw[fU (h3 w ok)];rfl⟩
 |succ k ih=>
  intro i w hi ok
  unfold putN
  by_cases h:(w.put (p+1+i) (blkI b i)).2=0
  ·rw[iN (h1 i w (by omega) ok h),if_neg (fun h'=>h' h)]
   exact ih (i+1) _ (by omega) (nH ok (blkI_B8 hb i))
  ·refine⟨i,?_⟩
   rw[if_pos h,h2 i w (by omega) ok h,if_pos h]
theorem putLoop0 {S X:Type} {F:S->Option (S⊕X)} {b:List Int} {p:Int} (K:Nat) (mk:Dsk->Nat->S) (bad:Dsk->Int->Nat->X) (good:Dsk->X) {m0:Nat} (hb:B8 b) {w:Dsk} {s0:S} (h0:mk w 0=s0) (ok:w.Ok m0)
 (h1:∀i w,i<K->w.Ok (m0+i)->(w.put (p+1+i) (blkI b i)).2=0->F (mk w i)=some (.inl (mk (w.put (p+1+i) (blkI b i)).1 (i+1))))
 (h2:∀i w,i<K->w.Ok (m0+i)->(w.put (p+1+i) (blkI b i)).2≠0->cL F (mk w i)=some (bad (w.put (p+1+i) (blkI b i)).1 (w.put (p+1+i) (blkI b i)).2 i))
 (h3:∀w,w.Ok (m0+K)->F (mk w K)=some (.inr (good w))):
 ∃j,cL F s0=some (if (putN b p K w 0).2≠0 then bad (putN b p K w 0).1 (putN b p K w 0).2 j else good (putN b p K w 0).1):=by
 subst h0
 exact putLoop K mk bad good hb h1 h2 h3 K 0 w (by omega) ok
def parts (b:List Int):Nat:=(b.length+255)/256
def sTail (s:Dsk×Int) (b:List Int) (p:Int) (hd:List Int):Dsk×Int:=laid (laid (if s.2≠0 then s else putN b p (parts b) s.1 0) p hd) p (markB hd true)
def sWrite (w:Dsk) (fr n g:Int) (b:List Int):Dsk×Int:=
 if g<0 then (w,1) else if (b.length:Int)>(n-1)*256 then (w,22) else if recErr g b.length (sum4 b)≠0 then (w,recErr g b.length (sum4 b)) else
 if (w.rd (fr+g%2*n)).2≠0 then (w,(w.rd (fr+g%2*n)).2) else
 sTail (unmark w (fr+g%2*n) (w.rd (fr+g%2*n)).1) b (fr+g%2*n) (recB g b.length (sum4 b))
theorem sumsS_eq (b:List Int) (hb:B8 b) (hl:b.length<2^60):O_slots_sums b=some (sum4 b):=sums_eq b hb hl
theorem sTail_ok {s:Dsk×Int} {m:Nat} (ok:s.1.Ok m) {b:List Int} (hb:B8 b) (p:Int) {hd:List Int} (hh:B8 hd):(sTail s b p hd).1.Ok (m+parts b+2):=by
 unfold sTail
 refine laid_ok (laid_ok ?_ hh) (markB_B8 hh true)
 split
 ·exact Ok.up ok (by omega)
 ·exact putN_ok hb p _ _ _ _ ok
theorem sWrite_ok {w:Dsk} {m:Nat} (ok:w.Ok m) (fr n g:Int) {b:List Int} (hb:B8 b):(sWrite w fr n g b).1.Ok (m+parts b+3):=by
 unfold sWrite
 split
 ·exact Ok.up ok (by omega)
 ·split
  ·exact Ok.up ok (by omega)
  ·split
   ·exact Ok.up ok (by omega)
   ·rename_i h
    split
    ·exact Ok.up ok (by omega)
    ·rename_i h2
     have he:=recErr_zero.1 (Classical.not_not.1 h)
     exact Ok.up (sTail_ok (unmark_ok ok (rd_good ok (Classical.not_not.1 h2)).2) hb _ (recB_B8 g _ he.2.2.2.2 (sum4_B8 b))) (by omega)
theorem blk_prog {p:List Int} (h:p.length≤256):zB.take 0++p.take (min p.length zB.length)++zB.drop (0+min p.length zB.length)=p++List.replicate (256-p.length) 0:=by
 have:zB.length=256:=zB_ok.1
 rw[this,iK h,bV,Yj,bZ,eX]
 congr 1
 exact List.drop_replicate
theorem part_facts {b:List Int} {i:Nat} (hl:b.length<32768) (h:256*i<b.length):
 IntKind.wrap .i64 ((b.length:Int)-256*(i:Int))=(b.length:Int)-256*(i:Int)/\(if (b.length:Int)-256*(i:Int)<256 then (b.length:Int)-256*(i:Int) else 256)=((partI b i).length:Int)/\
 IntKind.wrap .i64 (256*(i:Int)+((partI b i).length:Int))=((256*i+(partI b i).length:Nat):Int)/\(256*(i:Int)).toNat=256*i/\256*i+(partI b i).length≤b.length/\
 (b.drop (256*i)).take (256*i+(partI b i).length-256*i)=partI b i/\IntKind.wrap .i64 (256*(i:Int)+256)=256*((i+1:Nat):Int):=by
 have hp:(partI b i).length=min 256 (b.length-256*i):=by unfold partI;rw[bP,bW]
 refine⟨w64 (by omega) (by omega),?_,?_,by omega,by omega,?_,?_⟩
 ·rw[hp];split<;>omega
 ·rw[w64 (by omega) (by omega)];omega
 ·rw[show 256*i+(partI b i).length-256*i=(partI b i).length by omega,hp]
  unfold partI
  by_cases h':b.length-256*i≤256
  ·rw[Ro h',bU (by simp),bU (by simp;omega)]
  ·rw[iK (by omega)]
 ·rw[w64 (by omega) (by omega)];omega
theorem tm2 {g:Int} (h:0≤g):Int.tmod g 2=g%2:=gG h
theorem at_in {fr n g:Int} (h1:0≤fr) (h2:fr≤256) (h3:2≤n) (h4:n≤128) (hg:0≤g):g%2*n=(if g%2=0 then 0 else n)/\IntKind.wrap .i64 (g%2*n)=g%2*n/\IntKind.wrap .i64 (fr+g%2*n)=fr+g%2*n/\0≤fr+g%2*n/\fr+g%2*n≤384:=by
 have:g%2*n=(if g%2=0 then 0 else n):=by
  rcases Int.emod_two_eq g with h|h<;>rw[h]<;>simp
 refine⟨this,w64 ?_ ?_,w64 ?_ ?_,?_,?_⟩<;>rw[this]<;>split<;>omega
theorem parts_lt {b:List Int} {i:Nat}:i<parts b↔256*i<b.length:=by unfold parts;omega
end Go.Ideal.Seat
namespace Go.Ideal.Seat
open Go.Ideal.Plain
theorem sWrite_eq {w:Dsk} {m:Nat} (ok:w.Ok m) (hm:m≤2^29) {fr n g:Int} {b:List Int} (hb:B8 b) (h1:0≤fr) (h2:fr≤256) (h3:2≤n) (h4:n≤128):
 O_slots_Slots_Write (w.toD,(((),fr,n):Sl),g,b)=some ((sWrite w fr n g b).1.toD,((),fr,n),(sWrite w fr n g b).2):=by
 unfold O_slots_Slots_Write sWrite
 by_cases a:g<0
 ·simp only[a,decide_true,cond_true,if_true]
 obtain⟨q1,q2,q3,q4,q5⟩:=at_in h1 h2 h3 h4 (show 0≤g by omega)
 have w1:IntKind.wrap .i64 ((IntKind.wrap .i64 (n-1))*256)=(n-1)*256:=by rw[w64 (x:=n-1) (by omega) (by omega),w64 (by omega) (by omega)]
 simp only[a,decide_false,cond_false,if_false,O_slots_Slots_Room,aB,w1]
 by_cases c:(b.length:Int)>(n-1)*256
 ·simp only[c,decide_true,cond_true,if_true]
 have hl:b.length<32768:=by omega
 simp only[c,decide_false,cond_false,if_false,sumsS_eq b hb (by omega),aB,make_eq g _ _ (sum4_B8 b) (show (sum4 b).length≤2^36 by rw[sum4_len];omega)]
 by_cases e:recErr g (b.length:Int) (sum4 b)=0
 rotate_left
 ·have:(recErr g (b.length:Int) (sum4 b) != 0)=true:=by simpa using e
  simp only[this,cond_true,ne_eq,e,not_false_eq_true,if_true]
 simp only[e,bne_self_eq_false,cond_false,ne_eq,not_true_eq_false,if_false,if_true,tm2 (show 0≤g by omega),q2,q3,rd_eq ok (show m≤2^30 by omega),aB]
 generalize hp:fr+g%2*n=p at *
 by_cases r:(w.rd p).2=0
 rotate_left
 ·have:((w.rd p).2 != 0)=true:=by simpa using r
  simp only[this,cond_true,r,not_false_eq_true,if_true]
 obtain⟨rl,r8⟩:=rd_good ok r
 have he:=recErr_zero.1 e
 have hB:=recB_B8 g (b.length:Int) he.2.2.2.2 (sum4_B8 b)
 have hL:=recB_len g (b.length:Int) he.2.2.2.2
 generalize hh:recB g (b.length:Int) (sum4 b)=hd at *
 have g255:(w.rd p).1[255]? = some ((w.rd p).1.getD 255 0):=getD_some (by omega)
 have w2:IntKind.wrap .i64 (((256:Nat):Int)-1)=((255:Nat):Int):=by decide
 simp only[r,bne_self_eq_false,cond_false,not_true_eq_false,if_false,rl,w2,aY,aP,decide_true,cond_true,show (255<256) from by decide,g255,aB]
 have okU:=unmark_ok ok (n:=p) r8
 refine bindS (v:=if (unmark w p (w.rd p).1).2≠0 then .inl ((unmark w p (w.rd p).1).1.toD,(),fr,n,(unmark w p (w.rd p).1).2) else .inr ((unmark w p (w.rd p).1).1.toD,(),fr,n,0,hd)) ?_ ?_
 ·by_cases z:(w.rd p).1.getD 255 0=0
  ·have eu:unmark w p (w.rd p).1=(w,0):=by unfold unmark;rw[if_neg (fun h=>h z)]
   simp only[z,bne_self_eq_false,cond_false,eu,ne_eq,not_true_eq_false,if_false]
  ·have:((w.rd p).1.getD 255 0 != 0)=true:=by simpa using z
   have eu:unmark w p (w.rd p).1=w.lay p (markB (w.rd p).1 false):=by unfold unmark;rw[if_pos z]
   simp only[this,cond_true,marked_eq _ false rl,aB,slay_eq ok (by omega) fr n (markB_B8 r8 false),eu]
   by_cases h:(w.lay p (markB (w.rd p).1 false)).2=0
   ·simp only[h,bne_self_eq_false,cond_false,ne_eq,not_true_eq_false,if_false]
   ·have h':((w.lay p (markB (w.rd p).1 false)).2 != 0)=true:=by simpa using h
    simp only[h',cond_true,ne_eq,h,not_false_eq_true,if_true]
 generalize unmark w p (w.rd p).1=s at *
 by_cases u:s.2=0
 rotate_left
 ·have e1:sTail s b p hd=s:=by unfold sTail laid;simp only[ne_eq,u,not_false_eq_true,if_true]
  rw[if_pos u,e1]
 have e1:sTail s b p hd=laid (laid (putN b p (parts b) s.1 0) p hd) p (markB hd true):=by unfold sTail;rw[if_neg (fun h=>h u)]
 rw[if_neg (fun h=>h u),e1]
 have hlt:((b.length:Int)<32768):=by omega
 simp only[hlt,decide_true,cond_true]
 have hz:List.replicate (Int.toNat 256) (0:Int)=zB:=rfl
 have hm256:decide ((0:Nat)≤256/\(256:Int)*((1+1:Nat):Int)≤bY)=true:=by unfold bY;decide
 refine bindE (putLoop0 (b:=b) (p:=p) (m0:=m+1) (parts b) (fun w i=>(w.toD,(),fr,n,0,p+i,256*(i:Int))) (fun w c _=>Sum.inl (w.toD,(),fr,n,c)) (fun w=>Sum.inr (w.toD,(),fr,n,0)) hb (by simp) okU ?_ ?_ ?_) ?_
 ·intro i w' hi ok' h
  have hi':=parts_lt.1 hi
  obtain⟨f1,f2,f3,f4,f5,f6,f7⟩:=part_facts hl hi'
  have c1:256*(i:Int)<(b.length:Int):=by omega
  have c2:(0:Int)≤256*(i:Int):=by omega
  have c3:256*i≤256*i+(partI b i).length:=Nat.le_add_right _ _
  have w3:IntKind.wrap .i64 (p+(i:Int)+1)=p+1+(i:Int):=by rw[w64 (by omega) (by omega)];omega
  have w4:p+1+(i:Int)=p+((i+1:Nat):Int):=by omega
  simp only[c1,c2,decide_true,cond_true,f1,f2,f3,f4,f5,f6,c3,aY,aP,aK,and_self,hm256,hz,blk_prog (partI_len b i),w3,f7]
  have hblk:partI b i++List.replicate (256-(partI b i).length) 0=blkI b i:=rfl
  simp only[hblk,put_eq ok' (show m+1+i≤2^30 by omega),aB,h,bne_self_eq_false,cond_false,<-w4]
 ·intro i w' hi ok' h
  have hi':=parts_lt.1 hi
  obtain⟨f1,f2,f3,f4,f5,f6,f7⟩:=part_facts hl hi'
  have c1:256*(i:Int)<(b.length:Int):=by omega
  have c2:(0:Int)≤256*(i:Int):=by omega
  have c3:256*i≤256*i+(partI b i).length:=Nat.le_add_right _ _
  have w3:IntKind.wrap .i64 (p+(i:Int)+1)=p+1+(i:Int):=by rw[w64 (by omega) (by omega)];omega
  have h':((w'.put (p+1+(i:Int)) (blkI b i)).2 != 0)=true:=by simpa using h
  have hblk:partI b i++List.replicate (256-(partI b i).length) 0=blkI b i:=rfl
  refine fU ?_
  simp only[c1,c2,decide_true,cond_true,f1,f2,f3,f4,f5,f6,c3,aY,aP,aK,and_self,hm256,hz,blk_prog (partI_len b i),w3,f7]
  simp only[hblk,put_eq ok' (show m+1+i≤2^30 by omega),aB,h',cond_true]
 ·intro w' ok'
  have c1:¬(256*(parts b:Int)<(b.length:Int)):=by
   have:¬256*parts b<b.length:=fun h=>Nat.lt_irrefl _ (parts_lt.2 h)
   omega
  simp only[c1,decide_false,cond_false]
 ·intro j
  have okP:=putN_ok hb p (parts b) _ 0 _ okU
  have hpl:parts b≤128:=by unfold parts;omega
  by_cases v:(putN b p (parts b) s.1 0).2=0
  ·rw[if_neg (fun h=>h v)]
   have e2:laid (putN b p (parts b) s.1 0) p hd=(putN b p (parts b) s.1 0).1.lay p hd:=by unfold laid;rw[if_neg (fun h=>h v)]
   rw[e2]
   simp only[slay_eq okP (show m+1+parts b<2^30 by omega) fr n hB,aB]
   by_cases y:((putN b p (parts b) s.1 0).1.lay p hd).2=0
   ·have e3:laid ((putN b p (parts b) s.1 0).1.lay p hd) p (markB hd true)=((putN b p (parts b) s.1 0).1.lay p hd).1.lay p (markB hd true):=by unfold laid;rw[if_neg (fun h=>h y)]
    rw[e3]
    simp only[y,bne_self_eq_false,cond_false,marked_eq _ true hL,aB,slay_eq (lay_ok okP hB) (show m+1+parts b+1<2^30 by omega) fr n (markB_B8 hB true)]
   ·have y':(((putN b p (parts b) s.1 0).1.lay p hd).2 != 0)=true:=by simpa using y
    have e3:laid ((putN b p (parts b) s.1 0).1.lay p hd) p (markB hd true)=((putN b p (parts b) s.1 0).1.lay p hd):=by unfold laid;rw[if_pos y]
    rw[e3]
    simp only[y',cond_true]
  ·rw[if_pos v]
   have e2:laid (laid (putN b p (parts b) s.1 0) p hd) p (markB hd true)=putN b p (parts b) s.1 0:=by unfold laid;simp only[ne_eq,v,not_false_eq_true,if_true]
   rw[e2]
end Go.Ideal.Seat
namespace Go.Ideal.Seat
open Go.Ideal.Plain
theorem with_eq (b:List Int) (v:Int) (h:b.length=256):F_batonref24_with (b,v)=some (b.set 255 v):=by
 unfold F_batonref24_with
 have m1:((([]:List Int).length+b.length)*(1+1)≤bY):=by unfold bY;simp;omega
 have c:(255<(([]:List Int)++b).length):=by simp;omega
 have g:(([]:List Int)++b)[255]? = some (b.getD 255 0):=getD_some (b:=b) (by omega)
 simp only[m1,c,g,decide_true,cond_true,aB]
 rfl
theorem head24 (g:Int) (b:List Int) (hb:B8 b) (hl:b.length<2^60):F_batonref24_Head (g,b)=some (g,(b.length:Int),sum4 b):=by
 unfold F_batonref24_Head
 simp only[refSum b hb hl,aB]
theorem fill_part (d:List Int) (n:Nat) (h:d.length≤n):upTo (fun k l=>l.set k (d.getD k 0)) d.length (List.replicate n 0)=d++List.replicate (n-d.length) 0:=by
 have key:∀q,q≤d.length->upTo (fun k l=>l.set k (d.getD k 0)) q (List.replicate n 0)=d.take q++List.replicate (n-q) 0:=by
  intro q
  induction q with
  |zero=>intro _;simp[upTo]
  |succ q ih=>
   intro hq
   show (upTo (fun k (l:List Int)=>l.set k (d.getD k 0)) q (List.replicate n 0)).set q (d.getD q 0)=_
   rw[ih (by omega)]
   have hl:(d.take q).length=q:=by rw[bP];omega
   have hr:List.replicate (n-q) (0:Int)=0::List.replicate (n-(q+1)) 0:=by
    rw[show n-q=(n-(q+1))+1 by omega,sI]
   rw[lH _ _ (by omega),hl,Nat.sub_self,hr,List.set_cons_zero,List.take_add_one,getD_some (show q<d.length by omega)]
   simp
 have:=key d.length (aK _)
 rwa [eX]at this
theorem part_get {b:List Int} {i k:Nat} (h:k<(partI b i).length):b[256*i+k]? = some ((partI b i).getD k 0):=by
 have hp:(partI b i).length=min 256 (b.length-256*i):=by unfold partI;rw[bP,bW]
 have:256*i+k<b.length:=by omega
 rw[aX,aG h,aG this]
 simp[partI]
theorem block24 {b:List Int} {i:Nat} (hl:b.length<32768) (h:256*i<b.length):∃j:Int×Bool,cL (S:=List Int×Int) (X:=List Int×Int×Bool) (fun s=>(bif decide (s.2<256)==true then some (decide (IntKind.i64.wrap ((i:Int)*256+s.2)<(b.length:Int))) else some false).bind fun v=>bif v then bif decide (0≤IntKind.i64.wrap ((i:Int)*256+s.2)) then
 (b[(IntKind.i64.wrap ((i:Int)*256+s.2)).toNat]?).bind fun e=>bif decide (0≤s.2) then bif decide (s.2.toNat<s.1.length) then (s.1[s.2.toNat]?).bind fun _=>some (Sum.inl (s.1.set s.2.toNat e,IntKind.i64.wrap (s.2+1))) else none else none else none else some (Sum.inr (s.1,s.2,v))) (zB,0)=some (blkI b i,j.1,j.2):=by
 have hp:(partI b i).length=min 256 (b.length-256*i):=by unfold partI;rw[bP,bW]
 refine⟨((partI b i).length,false),?_⟩
 rw[countLoop (partI b i).length (fun(l:List Int) k=>(l,k)) (fun k l=>l.set k ((partI b i).getD k 0)) (fun _ l=>l.length=256) (a:=zB) (fin:=fun l=>(l,(((partI b i).length:Nat):Int),false)) zB_ok.1 (fun l k hk hlen=>?_) (fun l hlen=>?_)]
 ·rw[show zB=List.replicate 256 0 from rfl,fill_part _ 256 (partI_len b i)];rfl
 ·have c1:(k:Int)<256:=by omega
  have w1:IntKind.wrap .i64 ((i:Int)*256+(k:Int))=((256*i+k:Nat):Int):=by rw[w64 (by omega) (by omega)];omega
  have c2:((256*i+k:Nat):Int)<(b.length:Int):=by omega
  have c3:k<l.length:=by omega
  refine⟨?_,by rw[eV];exact hlen⟩
  simp only[c1,w1,c2,c3,decide_true,beq_self_eq_true,cond_true,aB,aY,aP,part_get hk,aG c3,iE (show k<2^62 by omega)]
 ·by_cases c:(((partI b i).length:Nat):Int)<256
  ·have w1:IntKind.wrap .i64 ((i:Int)*256+(((partI b i).length:Nat):Int))=(i:Int)*256+(((partI b i).length:Nat):Int):=by rw[w64 (by omega) (by omega)]
   have c2:¬((i:Int)*256+(((partI b i).length:Nat):Int)<(b.length:Int)):=by omega
   simp only[c,w1,c2,decide_true,decide_false,beq_self_eq_true,cond_true,cond_false,aB]
  ·simp only[c,decide_false,show (false==true)=false from rfl,cond_false,aB]
theorem refSWrite {w:Dsk} {m:Nat} (ok:w.Ok m) (hm:m≤2^29) {fr n g:Int} {b:List Int} (hb:B8 b) (h1:0≤fr) (h2:fr≤256) (h3:2≤n) (h4:n≤128):
 O_batonref24_Write (w.toR,fr,n,g,b)=some ((sWrite w fr n g b).1.toR,(sWrite w fr n g b).2):=by
 unfold O_batonref24_Write sWrite
 by_cases a:g<0
 ·simp only[a,decide_true,cond_true,if_true]
 obtain⟨q1,q2,q3,q4,q5⟩:=at_in h1 h2 h3 h4 (show 0≤g by omega)
 have w1:IntKind.wrap .i64 (256*(IntKind.wrap .i64 (n-1)))=(n-1)*256:=by rw[w64 (x:=n-1) (by omega) (by omega),w64 (by omega) (by omega)];omega
 simp only[a,decide_false,cond_false,if_false,w1]
 by_cases c:(b.length:Int)>(n-1)*256
 ·simp only[c,decide_true,cond_true,if_true]
 have hl:b.length<32768:=by omega
 simp only[c,decide_false,cond_false,if_false,head24 g b hb (show b.length<2^60 by omega),aB,refCheck]
 by_cases e:recErr g (b.length:Int) (sum4 b)=0
 rotate_left
 ·have:(recErr g (b.length:Int) (sum4 b) != 0)=true:=by simpa using e
  simp only[this,cond_true,ne_eq,e,not_false_eq_true,if_true]
 have v1:(bif (g%2==1) then (some (IntKind.wrap .i64 (fr+n))) else (some fr))=some (fr+g%2*n):=by
  rcases Int.emod_two_eq g with h|h<;>rw[h]
  ·simp
  ·rw[w64 (by omega) (by omega)];simp
 simp only[e,bne_self_eq_false,cond_false,ne_eq,not_true_eq_false,if_false,if_true,tm2 (show 0≤g by omega),v1,refRd ok (show m≤2^30 by omega),aB]
 generalize hp:fr+g%2*n=p at *
 by_cases r:(w.rd p).2=0
 rotate_left
 ·have:((w.rd p).2 != 0)=true:=by simpa using r
  simp only[this,cond_true,r,not_false_eq_true,if_true]
 obtain⟨rl,r8⟩:=rd_good ok r
 have he:=recErr_zero.1 e
 have hB:=recB_B8 g (b.length:Int) he.2.2.2.2 (sum4_B8 b)
 have hL:=recB_len g (b.length:Int) he.2.2.2.2
 have hM:=refMake g (b.length:Int) (sum4 b) (sum4_B8 b) e
 generalize hh:recB g (b.length:Int) (sum4 b)=hd at *
 have g255:(w.rd p).1[255]? = some ((w.rd p).1.getD 255 0):=getD_some (by omega)
 simp only[r,bne_self_eq_false,cond_false,not_true_eq_false,if_false,g255,aB]
 have okU:=unmark_ok ok (n:=p) r8
 refine bindS (v:=((unmark w p (w.rd p).1).1.blocks,(unmark w p (w.rd p).1).1.waits,(unmark w p (w.rd p).1).1.bad,(unmark w p (w.rd p).1).1.down,(unmark w p (w.rd p).1).1.cut.isSome,(((unmark w p (w.rd p).1).1.cut.getD 0:Nat):Int),(unmark w p (w.rd p).1).2)) ?_ ?_
 ·by_cases z:(w.rd p).1.getD 255 0=0
  ·have eu:unmark w p (w.rd p).1=(w,0):=by unfold unmark;rw[if_neg (fun h=>h z)]
   simp only[z,bne_self_eq_false,cond_false,eu]
   rfl
  ·have:((w.rd p).1.getD 255 0 != 0)=true:=by simpa using z
   have eu:unmark w p (w.rd p).1=w.lay p ((w.rd p).1.set 255 0):=by unfold unmark;rw[if_pos z];rfl
   have h8:B8 ((w.rd p).1.set 255 0):=r8.set _ (by decide)
   simp only[this,cond_true,with_eq _ 0 rl,aB,refSput ok (by omega) h8,eu]
   rfl
 generalize unmark w p (w.rd p).1=s at *
 have hz:List.replicate (Int.toNat 256) (0:Int)=zB:=rfl
 have hm256:decide ((0:Nat)≤256/\(256:Int)*((1+1:Nat):Int)≤bY)=true:=by unfold bY;decide
 have bR:∀w:Dsk,(w.blocks,w.waits,w.bad,w.down,w.cut.isSome,((w.cut.getD 0:Nat):Int))=w.toR:=fun _=>rfl
 by_cases u:s.2=0
 rotate_left
 ·have e1:sTail s b p hd=s:=by unfold sTail laid;simp only[ne_eq,u,not_false_eq_true,if_true]
  rw[e1]
  refine bindS (v:=(s.1.blocks,s.1.waits,s.1.bad,s.1.down,s.1.cut.isSome,((s.1.cut.getD 0:Nat):Int),s.2,0,false)) (fU ?_) ?_
  ·have u':(s.2==0)=false:=by simpa using u
   simp only[u']
   cases decide (IntKind.i64.wrap (0*256)<(b.length:Int))<;>rfl
  ·have u':(s.2 != 0)=true:=by simpa using u
   simp only[u',cond_true,bR]
 have e1:sTail s b p hd=laid (laid (putN b p (parts b) s.1 0) p hd) p (markB hd true):=by unfold sTail;rw[if_neg (fun h=>h u)]
 rw[e1]
 refine bindE (putLoop0 (b:=b) (p:=p) (m0:=m+1) (parts b) (fun w i=>(w.blocks,w.waits,w.bad,w.down,w.cut.isSome,((w.cut.getD 0:Nat):Int),(0:Int),(i:Int))) (fun w c i=>(w.blocks,w.waits,w.bad,w.down,w.cut.isSome,((w.cut.getD 0:Nat):Int),c,((i+1:Nat):Int),false))
  (fun w=>(w.blocks,w.waits,w.bad,w.down,w.cut.isSome,((w.cut.getD 0:Nat):Int),(0:Int),(parts b:Int),false)) hb (by rw[u];rfl) okU ?_ ?_ ?_) ?_
 ·intro i w' hi ok' h
  have hi':=parts_lt.1 hi
  have c1:((i:Int)*256<(b.length:Int)):=by omega
  have w3:IntKind.wrap .i64 ((i:Int)*256)=(i:Int)*256:=w64 (by omega) (by omega)
  have w4:IntKind.wrap .i64 (IntKind.wrap .i64 (p+1)+(i:Int))=p+1+(i:Int):=by rw[w64 (x:=p+1) (by omega) (by omega),w64 (by omega) (by omega)]
  simp only[w3,c1,decide_true,beq_self_eq_true,cond_true,aB,hm256,hz]
  refine bindE (v:=fun j:Int×Bool=>(blkI b i,j.1,j.2)) (block24 hl hi') ?_
  intro j
  simp only[w4,bR,refPut0 ok' (show m+1+i<2^30 by omega),aB,h,iE (show i<2^62 by omega)]
  rfl
 ·intro i w' hi ok' h
  have hi':=parts_lt.1 hi
  have c1:((i:Int)*256<(b.length:Int)):=by omega
  have w3:IntKind.wrap .i64 ((i:Int)*256)=(i:Int)*256:=w64 (by omega) (by omega)
  have w4:IntKind.wrap .i64 (IntKind.wrap .i64 (p+1)+(i:Int))=p+1+(i:Int):=by rw[w64 (x:=p+1) (by omega) (by omega),w64 (by omega) (by omega)]
  have hs:∀w'':Dsk,∀c:Int,c≠0->(c==0)=false:=fun _ c h=>by simpa using h
  rw[iN (s':=((w'.put (p+1+i) (blkI b i)).1.blocks,(w'.put (p+1+i) (blkI b i)).1.waits,(w'.put (p+1+i) (blkI b i)).1.bad,(w'.put (p+1+i) (blkI b i)).1.down,(w'.put (p+1+i) (blkI b i)).1.cut.isSome,(((w'.put (p+1+i) (blkI b i)).1.cut.getD 0:Nat):Int),(w'.put (p+1+i) (blkI b i)).2,((i+1:Nat):Int))) ?_]
  ·refine fU ?_
   simp only[hs w' _ h]
   cases decide (IntKind.i64.wrap (((i+1:Nat):Int)*256)<(b.length:Int))<;>rfl
  ·simp only[w3,c1,decide_true,beq_self_eq_true,cond_true,aB,hm256,hz]
   refine bindE (v:=fun j:Int×Bool=>(blkI b i,j.1,j.2)) (block24 hl hi') ?_
   intro j
   simp only[w4,bR,refPut0 ok' (show m+1+i<2^30 by omega),aB,iE (show i<2^62 by omega)]
   rfl
 ·intro w' ok'
  have c1:¬((parts b:Int)*256<(b.length:Int)):=by
   have:¬256*parts b<b.length:=fun h=>Nat.lt_irrefl _ (parts_lt.2 h)
   omega
  have hpl:parts b≤128:=by unfold parts;omega
  have w3:IntKind.wrap .i64 ((parts b:Int)*256)=(parts b:Int)*256:=w64 (by omega) (by omega)
  simp only[w3,c1,decide_false]
  rfl
 ·intro j
  have okP:=putN_ok hb p (parts b) _ 0 _ okU
  have hpl:parts b≤128:=by unfold parts;omega
  by_cases v:(putN b p (parts b) s.1 0).2=0
  ·rw[if_neg (fun h=>h v)]
   have e2:laid (putN b p (parts b) s.1 0) p hd=(putN b p (parts b) s.1 0).1.lay p hd:=by unfold laid;rw[if_neg (fun h=>h v)]
   rw[e2]
   simp only[bne_self_eq_false,cond_false,head24 g b hb (show b.length<2^60 by omega),aB,hM,bR,refSput okP (show m+1+parts b<2^30 by omega) hB]
   by_cases y:((putN b p (parts b) s.1 0).1.lay p hd).2=0
   ·have e3:laid ((putN b p (parts b) s.1 0).1.lay p hd) p (markB hd true)=((putN b p (parts b) s.1 0).1.lay p hd).1.lay p (hd.set 255 1):=by unfold laid;rw[if_neg (fun h=>h y)];rfl
    have h8:B8 (hd.set 255 1):=hB.set _ (by decide)
    rw[e3]
    simp only[y,bne_self_eq_false,cond_false,with_eq _ 1 hL,aB,refSput (lay_ok okP hB) (show m+1+parts b+1<2^30 by omega) h8]
   ·have y':(((putN b p (parts b) s.1 0).1.lay p hd).2 != 0)=true:=by simpa using y
    have e3:laid ((putN b p (parts b) s.1 0).1.lay p hd) p (markB hd true)=((putN b p (parts b) s.1 0).1.lay p hd):=by unfold laid;rw[if_pos y]
    rw[e3]
    simp only[y',cond_true]
  ·rw[if_pos v]
   have v':((putN b p (parts b) s.1 0).2 != 0)=true:=by simpa using v
   have e2:laid (laid (putN b p (parts b) s.1 0) p hd) p (markB hd true)=putN b p (parts b) s.1 0:=by unfold laid;simp only[ne_eq,v,not_false_eq_true,if_true]
   rw[e2]
   simp only[v',cond_true,bR]
end Go.Ideal.Seat
namespace Go.Ideal.Seat
open Go.Ideal.Plain
theorem recR_pos {b:List Int} (hb:B8 b):0≤(recR b).1.1/\0≤(recR b).1.2.1/\(recR b).1.2.2.length≤256/\B8 (recR b).1.2.2:=by
 classical
 have z:(0:Int)≤((0,0,[]):Rec).1/\(0:Int)≤((0,0,[]):Rec).2.1/\((0,0,[]):Rec).2.2.length≤256/\B8 ((0,0,[]):Rec).2.2:=⟨by decide,by decide,by decide,fun x hx=>by cases hx⟩
 unfold recR
 split
 ·exact z
 ·rename_i h
  split
  ·exact z
  ·split
   ·exact z
   ·split
    ·exact z
    ·split
     ·exact z
     ·exact⟨(beN_lt _ (hb.take 8)).1,(beN_lt _ ((hb.drop 8).take 8)).1,by simp;omega,(hb.drop _).take _⟩
abbrev Hd:=Rec×Bool×Int
def noHd (e:Int):Hd:=((0,0,[]),false,e)
noncomputable def sHead (w:Dsk) (fr n pl:Int):Hd:=
 if (w.rd (fr+pl*n)).2≠0 then noHd (w.rd (fr+pl*n)).2 else if (recR (w.rd (fr+pl*n)).1).2=21 then noHd 21
 else if (recR (w.rd (fr+pl*n)).1).2≠0\/Int.tmod (recR (w.rd (fr+pl*n)).1).1.1 2≠pl\/(recR (w.rd (fr+pl*n)).1).1.2.1>(n-1)*256 then noHd 0
 else ((recR (w.rd (fr+pl*n)).1).1,true,0)
theorem sHead_good {w:Dsk} {m:Nat} (ok:w.Ok m) {fr n pl:Int} (h:(sHead w fr n pl).2.1=true):(w.rd (fr+pl*n)).2=0/\(sHead w fr n pl).2.2=0/\Int.tmod (sHead w fr n pl).1.1 2=pl/\0≤(sHead w fr n pl).1.1/\0≤(sHead w fr n pl).1.2.1/\(sHead w fr n pl).1.2.1≤(n-1)*256/\(sHead w fr n pl).1.2.2.length≤256:=by
 unfold sHead at h |-
 by_cases a:(w.rd (fr+pl*n)).2=0
 rotate_left
 ·rw[if_pos a]at h;cases h
 rw[if_neg (fun h=>h a)]at h |-
 obtain⟨rl,r8⟩:=rd_good ok a
 obtain⟨p1,p2,p3,_⟩:=recR_pos r8
 split at h
 ·cases h
 ·split at h
  ·cases h
  ·rename_i b c
   rw[if_neg b,if_neg c]
   exact⟨a,rfl,Classical.not_not.1 fun h=>c (.inr (.inl h)),p1,p2,by show _≤_;exact Int.not_lt.1 fun h=>c (.inr (.inr h)),p3⟩
theorem pl_in {fr n pl:Int} (h1:0≤fr) (h2:fr≤256) (h3:2≤n) (h4:n≤128) (hp:pl=0\/pl=1):IntKind.wrap .i64 (pl*n)=pl*n/\IntKind.wrap .i64 (fr+pl*n)=fr+pl*n/\0≤fr+pl*n/\fr+pl*n≤fr+n:=by
 rcases hp with rfl|rfl
 ·refine⟨w64 ?_ ?_,w64 ?_ ?_,?_,?_⟩<;>omega
 ·refine⟨w64 ?_ ?_,w64 ?_ ?_,?_,?_⟩<;>omega
theorem sHead_eq {w:Dsk} {m:Nat} (ok:w.Ok m) (hm:m≤2^30) {fr n pl:Int} (h1:0≤fr) (h2:fr≤256) (h3:2≤n) (h4:n≤128) (hp:pl=0\/pl=1):
 O_slots_Slots_head (w.toD,(((),fr,n):Sl),pl)=some (w.toD,((),fr,n),sHead w fr n pl):=by
 unfold O_slots_Slots_head sHead
 obtain⟨p1,p2,p3,p4⟩:=pl_in h1 h2 h3 h4 hp
 have w1:IntKind.wrap .i64 ((IntKind.wrap .i64 (n-1))*256)=(n-1)*256:=by rw[w64 (x:=n-1) (by omega) (by omega),w64 (by omega) (by omega)]
 simp only[p1,p2,rd_eq ok hm,aB]
 generalize hq:fr+pl*n=q at *
 by_cases a:(w.rd q).2=0
 rotate_left
 ·have:((w.rd q).2 != 0)=true:=by simpa using a
  simp only[this,cond_true,ne_eq,a,not_false_eq_true,if_true,noHd]
 obtain⟨rl,r8⟩:=rd_good ok a
 have hr:=recRead_eq _ r8 (by omega)
 simp only[a,bne_self_eq_false,cond_false,hr,aB,ne_eq,not_true_eq_false,if_false]
 generalize recR (w.rd q).1=x at *
 by_cases b:x.2=21
 ·simp only[b,beq_self_eq_true,cond_true,if_true,noHd]
 have b':(x.2==21)=false:=by simpa using b
 simp only[b',cond_false,b,if_false,O_slots_Slots_Room,w1,aB]
 refine bindS (v:=(w.toD,(),fr,n,decide (x.2≠0\/Int.tmod x.1.1 2≠pl\/x.1.2.1>(n-1)*256))) ?_ ?_
 ·by_cases c:x.2=0
  ·by_cases d:Int.tmod x.1.1 2=pl
   ·simp[c,d]
   ·have d':(Int.tmod x.1.1 2 != pl)=true:=by simpa using d
    simp[c,d,d']
  ·have c':(x.2 != 0)=true:=by simpa using c
   simp[c,c']
 ·by_cases c:x.2≠0\/Int.tmod x.1.1 2≠pl\/x.1.2.1>(n-1)*256
  ·simp only[c,decide_true,cond_true]
   rw[if_pos (by simp)];rfl
  ·simp only[c,decide_false,cond_false]
   rw[if_neg (by simp)]
def allB (w:Dsk) (p:Int):Nat->List Int
 |0=>[]
 |k+1=>allB w p k++(w.rd (p+1+k)).1
def Reads (w:Dsk) (p:Int) (k:Nat):Prop:=∀i:Nat,i<k->(w.rd (p+1+i)).2=0
theorem allB_len {w:Dsk} {m:Nat} (ok:w.Ok m) {p:Int}:∀{k:Nat},Reads w p k->(allB w p k).length=256*k/\B8 (allB w p k)
 |0,_=>⟨rfl,fun x hx=>by cases hx⟩
 |k+1,h=>by
  obtain⟨i1,i2⟩:=allB_len ok (k:=k) (fun i hi=>h i (by omega))
  obtain⟨r1,r2⟩:=rd_good ok (h k (by omega))
  exact⟨by rw[allB,aV,i1,r1];omega,i2.app r2⟩
theorem allB_take {w:Dsk} {m:Nat} (ok:w.Ok m) {p:Int} {k:Nat}:∀{j:Nat},Reads w p (k+j)->∀n,n≤256*k->(allB w p (k+j)).take n=(allB w p k).take n
 |0,_,n,_=>rfl
 |j+1,h,n,hn=>by
  have ih:=allB_take ok (k:=k) (j:=j) (fun i hi=>h i (by omega)) n hn
  have hl:=(allB_len ok (k:=k+j) (fun i hi=>h i (by omega))).1
  rw[<-ih,show k+(j+1)=(k+j)+1 by omega,allB,dG (by omega)]
noncomputable def sText (w:Dsk) (fr n:Int) (x:Rec):List Int×Int:=
 if x.2.2=sum4 ((allB w (fr+Int.tmod x.1 2*n) (n.toNat-1)).take x.2.1.toNat) then ((allB w (fr+Int.tmod x.1 2*n) (n.toNat-1)).take x.2.1.toNat,0) else ([],21)
theorem sText_eq {w:Dsk} {m:Nat} (ok:w.Ok m) (hm:m≤2^30) {fr n:Int} {x:Rec} (h1:0≤fr) (h2:fr≤256) (h3:2≤n) (h4:n≤128) (hp:Int.tmod x.1 2=0\/Int.tmod x.1 2=1)
 (hx:0≤x.2.1/\x.2.1≤(n-1)*256) (hd:x.2.2.length≤256) (hr:Reads w (fr+Int.tmod x.1 2*n) (n.toNat-1)):O_slots_Slots_text (w.toD,(((),fr,n):Sl),x)=some (w.toD,((),fr,n),sText w fr n x):=by
 unfold O_slots_Slots_text sText
 obtain⟨p1,p2,p3,p4⟩:=pl_in h1 h2 h3 h4 hp
 simp only[p1,p2]
 generalize hq:fr+Int.tmod x.1 2*n=q at *
 have w1:IntKind.wrap .i64 (q+1)=q+1:=w64 (by omega) (by omega)
 obtain⟨L,hL⟩:=fX hx.1
 have hK:(L+255)/256≤n.toNat-1:=by omega
 generalize hKK:(L+255)/256=K at *
 rw[w1]
 have key:∀(k i:Nat),i+k=K->∀F:(DkT×Unit×Int×Int×List Int×Int)->Option ((DkT×Unit×Int×Int×List Int×Int)⊕((DkT×Unit×Int×Int×List Int×Int)⊕(DkT×Unit×Int×Int×List Int×Int×Bool))),
  (∀j:Nat,j<K->F (w.toD,(),fr,n,allB w q j,q+1+j)=some (.inl (w.toD,(),fr,n,allB w q (j+1),q+1+((j+1:Nat):Int))))->
  F (w.toD,(),fr,n,allB w q K,q+1+K)=some (.inr (.inr (w.toD,(),fr,n,allB w q K,q+1+K,false)))->
  ∀s0,s0=(w.toD,(),fr,n,allB w q i,q+1+(i:Int))->cL F s0=some (.inr (w.toD,(),fr,n,allB w q K,q+1+K,false)):=by
  intro k
  induction k with
  |zero=>
   intro i hi F _ h2 s0 hs
   subst hs
   have:i=K:=by omega
   subst this
   exact fU h2
  |succ k ih=>
   intro i hi F h1 h2 s0 hs
   subst hs
   rw[iN (h1 i (by omega))]
   exact ih (i+1) (by omega) F h1 h2 _ rfl
 have hall:=fun(j:Nat) (hj:j≤K)=>allB_len ok (p:=q) (k:=j) (fun i hi=>hr i (by omega))
 refine bindS (v:=.inr (w.toD,(),fr,n,allB w q K,q+1+K,false)) ?_ ?_
 ·refine key K 0 (by omega) _ ?_ ?_ _ (by simp[allB])
  ·intro j hj
   have hl:=(hall j (by omega)).1
   have c1:(((allB w q j).length:Nat):Int)<x.2.1:=by rw[hl,hL];omega
   have hrd:=hr j (by omega)
   obtain⟨r1,_⟩:=rd_good ok hrd
   have m1:(((allB w q j).length+(w.rd (q+1+j)).1.length)*(1+1)≤bY):=by unfold bY;rw[hl,r1];omega
   have w2:IntKind.wrap .i64 (q+1+(j:Int)+1)=q+1+((j+1:Nat):Int):=by rw[w64 (by omega) (by omega)];omega
   simp only[c1,decide_true,cond_true,rd_eq ok hm,aB,hrd,bne_self_eq_false,cond_false,m1,w2]
   rfl
  ·have hl:=(hall K (aK _)).1
   have c1:¬((((allB w q K).length:Nat):Int)<x.2.1):=by rw[hl,hL];omega
   simp only[c1,decide_false,cond_false]
 ·obtain⟨hl,h8⟩:=hall K (aK _)
  have c1:(0≤x.2.1.toNat/\x.2.1.toNat≤(allB w q K).length):=by rw[hl,hL];simp;omega
  have et:(allB w q K).take x.2.1.toNat=(allB w q (n.toNat-1)).take x.2.1.toNat:=by
   have:=allB_take ok (w:=w) (p:=q) (k:=K) (j:=n.toNat-1-K) (by rw[show K+(n.toNat-1-K)=n.toNat-1 by omega];exact hr) x.2.1.toNat (by rw[hL];simp;omega)
   rw[show K+(n.toNat-1-K)=n.toNat-1 by omega]at this
   exact this.symm
  have hs:=sumsS_eq ((allB w q K).take x.2.1.toNat) (h8.take _) (by rw[bP,hl];omega)
  simp only[hx.1,c1,decide_true,cond_true,eO,hJ,hs,aB,bequal _ _ (show x.2.2.length<2^60 by omega),and_self]
  rw[et]
  by_cases d:x.2.2=sum4 ((allB w q (n.toNat-1)).take x.2.1.toNat)
  ·rw[if_pos d]
   simp only[d.symm,decide_true,cP,cond_false]
  ·rw[if_neg d]
   simp only[d,decide_false,eP,cond_true]
noncomputable def sRead (w:Dsk) (fr n:Int):Int×List Int×Int:=
 if (sHead w fr n 0).2.2≠0 then (0,[],(sHead w fr n 0).2.2) else if (sHead w fr n 1).2.2≠0 then (0,[],(sHead w fr n 1).2.2)
 else if (sHead w fr n 0).2.1=false/\(sHead w fr n 1).2.1=false then (0,[],3)
 else
  let x:=if (sHead w fr n 0).2.1=false\/((sHead w fr n 1).2.1=true/\(sHead w fr n 1).1.1>(sHead w fr n 0).1.1) then (sHead w fr n 1).1 else (sHead w fr n 0).1
  if (sText w fr n x).2≠0 then (0,[],(sText w fr n x).2) else (x.1,(sText w fr n x).1,0)
theorem rd_more {w:Dsk} {p q:Int} (h:(w.rd p).2=0) (h1:0≤q) (h2:q<w.blocks.length):(w.rd q).2=0:=by
 have hd:w.down=false:=by
  cases hd:w.down with
  |false=>rfl
  |true=>rw[Dsk.rd,if_pos hd]at h;cases h
 rw[Dsk.rd,if_neg (by rw[hd];decide),if_neg (fun h=>h ⟨h1,h2⟩)]
theorem reads_of {w:Dsk} {p q n:Int} (h:(w.rd p).2=0) (h1:0≤q) (h2:q+n≤w.blocks.length) (hn:2≤n):Reads w q (n.toNat-1):=fun i hi=>rd_more h (by omega) (by omega)
theorem sRead_eq {w:Dsk} {m:Nat} (ok:w.Ok m) (hm:m≤2^30) {fr n:Int} (h1:0≤fr) (h3:2≤n) (hb:fr+2*n≤w.blocks.length):
 O_slots_Slots_Read (w.toD,(((),fr,n):Sl))=some (w.toD,((),fr,n),sRead w fr n):=by
 have hfew:=ok.few
 have h2:fr≤256:=by omega
 have h4:n≤128:=by omega
 unfold O_slots_Slots_Read sRead
 simp only[sHead_eq ok hm h1 h2 h3 h4 (.inl rfl),sHead_eq ok hm h1 h2 h3 h4 (.inr rfl),aB]
 have g0:=fun h=>sHead_good ok (fr:=fr) (n:=n) (pl:=0) h
 have g1:=fun h=>sHead_good ok (fr:=fr) (n:=n) (pl:=1) h
 generalize sHead w fr n 0=a at *
 generalize sHead w fr n 1=b at *
 by_cases e:a.2.2=0
 rotate_left
 ·have:(a.2.2 != 0)=true:=by simpa using e
  simp only[this,cond_true,ne_eq,e,not_false_eq_true,if_true,aB]
 by_cases f:b.2.2=0
 rotate_left
 ·have:(b.2.2 != 0)=true:=by simpa using f
  simp only[e,bne_self_eq_false,cond_false,not_true_eq_false,if_false,this,cond_true,ne_eq,f,not_false_eq_true,if_true,aB]
 have tx:∀x:Rec,(x=a.1/\a.2.1=true)\/(x=b.1/\b.2.1=true)->O_slots_Slots_text (w.toD,(((),fr,n):Sl),x)=some (w.toD,((),fr,n),sText w fr n x):=by
  rintro x (⟨rfl,h⟩|⟨rfl,h⟩)
  ·obtain⟨q1,q2,q3,q4,q5,q6,q7⟩:=g0 h
   refine sText_eq ok hm h1 h2 h3 h4 (.inl q3) ⟨q5,q6⟩ q7 (reads_of q1 ?_ ?_ h3)<;>rw[q3]<;>omega
  ·obtain⟨q1,q2,q3,q4,q5,q6,q7⟩:=g1 h
   refine sText_eq ok hm h1 h2 h3 h4 (.inr q3) ⟨q5,q6⟩ q7 (reads_of q1 ?_ ?_ h3)<;>rw[q3]<;>omega
 have fin:∀x:Rec,(x=a.1/\a.2.1=true)\/(x=b.1/\b.2.1=true)->((O_slots_Slots_text (w.toD,(((),fr,n):Sl),x)).bind fun r45=>(bif (r45.2.2.2 != 0) then (some (r45.1,(((),r45.2.1.2),(0,(([]:List (Int)),r45.2.2.2))))) else (some (r45.1,(((),r45.2.1.2),(x.1,(r45.2.2.1,0)))))))=some (w.toD,((),fr,n),if (sText w fr n x).2≠0 then (0,[],(sText w fr n x).2) else (x.1,(sText w fr n x).1,0)):=by
  intro x hx
  simp only[tx x hx,aB]
  by_cases g:(sText w fr n x).2=0
  ·simp only[g,bne_self_eq_false,cond_false,ne_eq,not_true_eq_false,if_false]
  ·have:((sText w fr n x).2 != 0)=true:=by simpa using g
   simp only[this,cond_true,ne_eq,g,not_false_eq_true,if_true]
 simp only[e,f,bne_self_eq_false,cond_false,ne_eq,not_true_eq_false,if_false]
 obtain⟨ax,ai,ae⟩:=a
 obtain⟨bx,bi,be⟩:=b
 dsimp only at fin e f |-
 cases ai<;>cases bi
 ·simp
 ·have:=fin bx (.inr ⟨rfl,rfl⟩)
  simpa using this
 ·have:=fin ax (.inl ⟨rfl,rfl⟩)
  simpa using this
 ·by_cases c:bx.1>ax.1
  ·have:=fin bx (.inr ⟨rfl,rfl⟩)
   simpa [c]using this
  ·have:=fin ax (.inl ⟨rfl,rfl⟩)
   simpa [c]using this
end Go.Ideal.Seat
namespace Go.Ideal.Seat
open Go.Ideal.Plain
noncomputable def bestOf (x:Rec) (h:Hd):Rec:=if h.2.1=true/\h.1.1>x.1 then h.1 else x
theorem refText {w:Dsk} {m:Nat} (ok:w.Ok m) (hm:m≤2^30) {q n:Int} (h1:0≤q) (h2:q≤400) (h3:2≤n) (h4:n≤128) (hr:Reads w q (n.toNat-1)) {X:Type} {F:List Int×Int->Option ((List Int×Int)⊕X)} {fin:List Int->X}
 (hF:∀(j:Nat),j<n.toNat-1->F (allB w q j,((j+1:Nat):Int))=some (.inl (allB w q (j+1),((j+1+1:Nat):Int)))) (hG:F (allB w q (n.toNat-1),n)=some (.inr (fin (allB w q (n.toNat-1))))):cL F ([],1)=some (fin (allB w q (n.toNat-1))):=by
 have key:∀(k i:Nat),i+k=n.toNat-1->cL F (allB w q i,((i+1:Nat):Int))=some (fin (allB w q (n.toNat-1))):=by
  intro k
  induction k with
  |zero=>
   intro i hi
   have:i=n.toNat-1:=by omega
   subst this
   rw[show ((n.toNat-1+1:Nat):Int)=n by omega]
   exact fU hG
  |succ k ih=>
   intro i hi
   rw[iN (hF i (by omega))]
   exact ih (i+1) (by omega)
 exact key (n.toNat-1) 0 (by omega)
theorem refSRead {w:Dsk} {m:Nat} (ok:w.Ok m) (hm:m≤2^30) {fr n:Int} (h1:0≤fr) (h3:2≤n) (hb:fr+2*n≤w.blocks.length):
 F_batonref24_Read (w.toR,fr,n)=some (sRead w fr n):=by
 have hfew:=ok.few
 have h2:fr≤256:=by omega
 have h4:n≤128:=by omega
 have w1:IntKind.wrap .i64 (256*(IntKind.wrap .i64 (n-1)))=(n-1)*256:=by rw[w64 (x:=n-1) (by omega) (by omega),w64 (by omega) (by omega)];omega
 unfold F_batonref24_Read
 have step:∀(x:Rec) (errs:List Int) (k:Nat),errs.length=2->(k=0\/k=1)->errs.getD k 0=0->
  ((O_batonref21_Read (w.toR,(IntKind.wrap .i64 (fr+(IntKind.wrap .i64 ((k:Int)*n)))))).bind fun r167=>(bif (r167.2 != 0) then (bif decide ((0:Int)≤k) then (bif decide (((k:Int)).toNat<2) then ((errs[((k:Int)).toNat]?).bind fun e168=>(some (x.1,(x.2.1,(x.2.2,(errs.set ((k:Int)).toNat r167.2)))))) else none) else none) else ((F_batonref22_Read r167.1).bind fun r169=>((bif (r169.2==21) then (bif decide ((0:Int)≤k) then (bif decide (((k:Int)).toNat<2) then ((errs[((k:Int)).toNat]?).bind fun e170=>(some (errs.set ((k:Int)).toNat 21))) else none) else none) else (some errs)).bind fun v171=>((bif ((r169.2==0)==true) then (bif (((Int.tmod r169.1.1 2)==(k:Int))==true) then (bif ((decide (r169.1.2.1≤(IntKind.wrap .i64 (256*(IntKind.wrap .i64 (n-1))))))==true) then (some (decide (r169.1.1>x.1))) else (some false)) else (some false)) else (some false)).bind fun v172=>(bif v172 then (some (r169.1.1,(r169.1.2.1,(r169.1.2.2,v171)))) else (some (x.1,(x.2.1,(x.2.2,v171)))))))))) =
  some ((bestOf x (sHead w fr n k)).1,(bestOf x (sHead w fr n k)).2.1,(bestOf x (sHead w fr n k)).2.2,errs.set k (sHead w fr n k).2.2):=by
  intro x errs k hl hk he
  obtain⟨p1,p2,p3,p4⟩:=pl_in (pl:=(k:Int)) h1 h2 h3 h4 (by omega)
  have hk2:k<2:=by omega
  have ge:errs[k]? = some 0:=by rw[<-he];exact getD_some (by omega)
  have hset:errs.set k 0=errs:=by
   have:errs[k]'(by omega)=0:=by
    have:=ge
    rw[aG (by omega)]at this
    injection this
   rw[<-this];exact lG (by omega)
  simp only[p1,p2,w1,refRd ok hm,aB,aY,aP,hk2,ge,decide_true,cond_true]
  unfold sHead
  generalize hq:fr+(k:Int)*n=q at *
  by_cases a:(w.rd q).2=0
  rotate_left
  ·have:((w.rd q).2 != 0)=true:=by simpa using a
   simp only[this,cond_true]
   rw[if_pos a]
   simp[bestOf,noHd]
  obtain⟨rl,r8⟩:=rd_good ok a
  have hr:=refRead22 _ r8 (by omega)
  rw[if_neg (fun h=>h a)]
  simp only[a,bne_self_eq_false,cond_false,hr,aB]
  generalize recR (w.rd q).1=y at *
  by_cases b:y.2=21
  ·rw[if_pos b]
   simp[b,bestOf,noHd]
  have b':(y.2==21)=false:=by simpa using b
  rw[if_neg b]
  simp only[b',cond_false,aB]
  by_cases c:y.2≠0\/Int.tmod y.1.1 2≠(k:Int)\/y.1.2.1>(n-1)*256
  ·rw[if_pos c]
   have:(bif (y.2==0)==true then bif (Int.tmod y.1.1 2==(k:Int))==true then bif decide (y.1.2.1≤(n-1)*256)==true then some (decide (y.1.1>x.1)) else some false else some false else some false)=some false:=by
    rcases c with c|c|c
    ·have:(y.2==0)=false:=by simpa using c
     simp[this]
    ·have:(Int.tmod y.1.1 2==(k:Int))=false:=by simpa using c
     simp[this]
    ·have:¬(y.1.2.1≤(n-1)*256):=by omega
     simp[this]
   simp only[this,aB,cond_false,bestOf,noHd,hset]
   simp
  ·rw[if_neg c]
   have c1:y.2=0:=Classical.not_not.1 fun h=>c (.inl h)
   have c2:Int.tmod y.1.1 2=(k:Int):=Classical.not_not.1 fun h=>c (.inr (.inl h))
   have c3:y.1.2.1≤(n-1)*256:=Int.not_lt.1 fun h=>c (.inr (.inr h))
   simp only[c1,c2,c3,beq_self_eq_true,decide_true,cond_true,aB,bestOf,hset]
   by_cases d:y.1.1>x.1<;>simp[d]
 have Ke:∀F:(Int×Int×List Int×List Int×Int)->Option ((Int×Int×List Int×List Int×Int)⊕(Int×Int×List Int×List Int×Int×Bool)),
  (∀(x:Rec) (errs:List Int) (k:Nat),errs.length=2->(k=0\/k=1)->errs.getD k 0=0->F (x.1,x.2.1,x.2.2,errs,(k:Int))=some (.inl ((bestOf x (sHead w fr n k)).1,(bestOf x (sHead w fr n k)).2.1,(bestOf x (sHead w fr n k)).2.2,errs.set k (sHead w fr n k).2.2,((k+1:Nat):Int))))->
  (∀(x:Rec) (errs:List Int),F (x.1,x.2.1,x.2.2,errs,2)=some (.inr (x.1,x.2.1,x.2.2,errs,2,false)))->
  cL F (-1,0,[],[0,0],0)=some ((bestOf (bestOf (-1,0,[]) (sHead w fr n 0)) (sHead w fr n 1)).1,(bestOf (bestOf (-1,0,[]) (sHead w fr n 0)) (sHead w fr n 1)).2.1,(bestOf (bestOf (-1,0,[]) (sHead w fr n 0)) (sHead w fr n 1)).2.2,[(sHead w fr n 0).2.2,(sHead w fr n 1).2.2],2,false):=by
  intro F f1 f2
  have e1:=f1 (-1,0,[]) [0,0] 0 rfl (.inl rfl) rfl
  have e2:=f1 (bestOf (-1,0,[]) (sHead w fr n 0)) [(sHead w fr n 0).2.2,0] 1 rfl (.inr rfl) rfl
  have e3:=f2 (bestOf (bestOf (-1,0,[]) (sHead w fr n 0)) (sHead w fr n 1)) [(sHead w fr n 0).2.2,(sHead w fr n 1).2.2]
  exact(iN e1).trans ((iN e2).trans (fU e3))
 refine bindS (Ke _ ?_ ?_) ?_
 ·intro x errs k hl hk he
  have c:((k:Int)<2):=by omega
  have:=step x errs k hl hk he
  dsimp only at this |-
  simp only[c,decide_true,cond_true]
  rw[this]
  simp only[aB,iE (show k<2^62 by omega)]
 ·intro x errs
  rfl
 have g0:=fun h=>sHead_good ok (fr:=fr) (n:=n) (pl:=0) h
 have g1:=fun h=>sHead_good ok (fr:=fr) (n:=n) (pl:=1) h
 unfold sRead
 have fl:∀h:Hd,h.2.1=true\/h.2.1=false:=fun h=>by cases h.2.1<;>simp
 have fix:=fun(a b:Hd) (ha:a=sHead w fr n 0) (hb':b=sHead w fr n 1)=>ha
 generalize sHead w fr n 0=a at *
 generalize sHead w fr n 1=b at *
 simp only[oE,kE,aB]
 by_cases e:a.2.2=0
 rotate_left
 ·have:(a.2.2 != 0)=true:=by simpa using e
  simp only[this,cond_true,ne_eq,e,not_false_eq_true,if_true,aB]
 by_cases f:b.2.2=0
 rotate_left
 ·have:(b.2.2 != 0)=true:=by simpa using f
  simp only[e,bne_self_eq_false,cond_false,not_true_eq_false,if_false,this,cond_true,ne_eq,f,not_false_eq_true,if_true,aB]
 simp only[e,f,bne_self_eq_false,cond_false,ne_eq,not_true_eq_false,if_false]
 by_cases z:a.2.1=false/\b.2.1=false
 ·have eb:bestOf (bestOf (-1,0,[]) a) b=(-1,0,[]):=by
   have:bestOf (-1,0,[]) a=(-1,0,[]):=if_neg (by rw[z.1];simp)
   rw[this];exact if_neg (by rw[z.2];simp)
  rw[if_pos z,eb]
  rfl
 rw[if_neg z]
 have hx:∃x:Rec,(if a.2.1=false\/b.2.1=true/\b.1.1>a.1.1 then b.1 else a.1)=x/\bestOf (bestOf (-1,0,[]) a) b=x/\((x=a.1/\a.2.1=true)\/(x=b.1/\b.2.1=true)):=by
  refine⟨_,rfl,?_,?_⟩
  ·rcases fl a with ha|ha
   ·have e1:bestOf (-1,0,[]) a=a.1:=if_pos ⟨ha,by have:=(g0 ha).2.2.2.1;show a.1.1 > -1;omega⟩
    rw[e1]
    unfold bestOf
    by_cases hc:b.2.1=true/\b.1.1>a.1.1
    ·rw[if_pos hc,if_pos (.inr hc)]
    ·rw[if_neg hc,if_neg (by rintro (h|h);rw[ha]at h;cases h;exact hc h)]
   ·have e1:bestOf (-1,0,[]) a=(-1,0,[]):=if_neg (by rw[ha];simp)
    have hb2:b.2.1=true:=(fl b).resolve_right fun h=>z ⟨ha,h⟩
    rw[e1,if_pos (.inl ha)]
    exact if_pos ⟨hb2,by have:=(g1 hb2).2.2.2.1;show b.1.1 > -1;omega⟩
  ·by_cases hc:a.2.1=false\/b.2.1=true/\b.1.1>a.1.1
   ·rw[if_pos hc]
    refine .inr ⟨rfl,?_⟩
    rcases hc with hc|hc
    ·exact(fl b).resolve_right fun h=>z ⟨hc,h⟩
    ·exact hc.1
   ·rw[if_neg hc]
    exact .inl ⟨rfl,(fl a).resolve_right fun h=>hc (.inl h)⟩
 obtain⟨x,hx1,hx2,hx3⟩:=hx
 rw[hx1,hx2]
 have hg:(w.rd fr).2=0\/(w.rd (fr+n)).2=0:=by
  rcases hx3 with ⟨_,h⟩|⟨_,h⟩
  ·refine .inl ?_
   have:=(g0 h).1
   rwa [show fr+0*n=fr by omega]at this
  ·refine .inr ?_
   have:=(g1 h).1
   rwa [show fr+1*n=fr+n by omega]at this
 have hq:(Int.tmod x.1 2=0\/Int.tmod x.1 2=1)/\0≤x.1/\0≤x.2.1/\x.2.1≤(n-1)*256/\x.2.2.length≤256:=by
  rcases hx3 with ⟨rfl,h⟩|⟨rfl,h⟩
  ·obtain⟨q1,q2,q3,q4,q5,q6,q7⟩:=g0 h
   exact⟨.inl q3,q4,q5,q6,q7⟩
  ·obtain⟨q1,q2,q3,q4,q5,q6,q7⟩:=g1 h
   exact⟨.inr q3,q4,q5,q6,q7⟩
 obtain⟨hp,q4,q5,q6,q7⟩:=hq
 have c0:¬(x.1<0):=by omega
 obtain⟨p1,p2,p3,p4⟩:=pl_in h1 h2 h3 h4 hp
 simp only[c0,decide_false,cond_false,p1,p2]
 unfold sText
 have hr:Reads w (fr+Int.tmod x.1 2*n) (n.toNat-1):=by
  rcases hg with h|h<;>exact reads_of h p3 (by omega) h3
 generalize hqq:fr+Int.tmod x.1 2*n=q at *
 refine bindS (refText ok hm (q:=q) (n:=n) (fin:=Sum.inr) p3 (by omega) h3 h4 hr ?_ ?_) ?_
 ·intro j hj
  have hl:=(allB_len ok (p:=q) (k:=j) (fun i hi=>hr i (by omega))).1
  have hrd:=hr j (by omega)
  obtain⟨r1,_⟩:=rd_good ok hrd
  have m1:(((allB w q j).length+(w.rd (q+1+j)).1.length)*(1+1)≤bY):=by unfold bY;rw[hl,r1];omega
  have c1:((j+1:Nat):Int)<n:=by omega
  have w2:IntKind.wrap .i64 (q+((j+1:Nat):Int))=q+1+(j:Int):=by rw[w64 (by omega) (by omega)];omega
  simp only[c1,decide_true,cond_true,w2,refRd ok hm,aB,hrd,bne_self_eq_false,cond_false,m1,iE (show j+1<2^62 by omega)]
  rfl
 ·have c1:¬(n<n):=by omega
  simp only[c1,decide_false,cond_false]
 ·obtain⟨hl,h8⟩:=allB_len ok (p:=q) hr
  have c1:(0≤x.2.1.toNat/\x.2.1.toNat≤(allB w q (n.toNat-1)).length):=by rw[hl];omega
  have hs:=refSum ((allB w q (n.toNat-1)).take x.2.1.toNat) (h8.take _) (by rw[bP,hl];omega)
  simp only[q5,c1,decide_true,cond_true,eO,hJ,hs,aB,bsame _ _ (show x.2.2.length<2^60 by omega),and_self]
  by_cases d:x.2.2=sum4 ((allB w q (n.toNat-1)).take x.2.1.toNat)
  ·rw[if_pos d]
   simp only[d.symm,decide_true,cP,cond_false]
   simp
  ·rw[if_neg d]
   simp only[d,decide_false,eP,cond_true]
   simp
end Go.Ideal.Seat
