/- Loops and numbers: plain facts. -/
import Derived.Test.YtbkfoogenhinfaaJc
import Derived.Test.YtbkfoogenhinfaaSd
set_option linter.unusedVariables false
set_option linter.unusedSimpArgs false
namespace Go.Ideal.Plain
theorem w64 {x:Int} (h1:-9223372036854775808≤x) (h2:x≤9223372036854775807):IntKind.wrap .i64 x=x:=Go.IntWalk.i64_in _ ⟨h1,h2⟩
section
variable {S X A E:Type}
theorem foldLoop {l:List E} (mk:A→Int→S) (g:A→E→A) (inv:Nat→A→Prop) {fin:A→X} {F:S→Option (S⊕X)} {a:A} (h0:inv 0 a)
 (h1:∀a i e,l[i]? = some e→i<l.length→inv i a→F (mk a i)=some (.inl (mk (g a e) ((i+1:Nat):Int)))∧inv (i+1) (g a e))
 (h2:∀a,inv l.length a→F (mk a l.length)=some (.inr (fin a))):iterL F (mk a 0)=some (fin (l.foldl g a)):=by
 rw[iter_run (l:=l) (mk:=mk) (step:=stepS g) (fin:=fun a=>some (fin a)) inv (fun a i e he hv=>?_) (fun a i e a' he hv hs=>?_) (fun a hv=>?_) h0,runL_fold]
 ·rw[(h1 a i e he (getE_bound he) hv).1];rfl
 ·simp only[stepS,Option.some.injEq,Sum.inl.injEq]at hs
  rw[←hs];exact(h1 a i e he (getE_bound he) hv).2
 ·rw[h2 a hv];rfl
theorem runLoop {l:List E} (mk:A→Int→S) (step:A→Nat→E→A⊕X) (inv:Nat→A→Prop) {fin:A→X} {F:S→Option (S⊕X)} {a:A} (h0:inv 0 a)
 (h1:∀a i e,l[i]? = some e→i<l.length→inv i a→(∃a',step a i e = .inl a'∧F (mk a i)=some (.inl (mk a' ((i+1:Nat):Int)))∧inv (i+1) a')∨∃x,step a i e = .inr x∧F (mk a i)=some (.inr x))
 (h2:∀a,inv l.length a→F (mk a l.length)=some (.inr (fin a))):iterL F (mk a 0)=runL (fun a i e=>some (step a i e)) (fun a=>some (fin a)) 0 a l:=by
 refine iter_run (l:=l) (mk:=mk) inv (fun a i e he hv=>?_) (fun a i e a' he hv hs=>?_) (fun a hv=>?_) h0
 ·rcases h1 a i e he (getE_bound he) hv with ⟨a',e1,e2,_⟩|⟨x,e1,e2⟩<;>simp[e1,e2]
 ·rcases h1 a i e he (getE_bound he) hv with ⟨a'',e1,e2,e3⟩|⟨x,e1,e2⟩
  ·simp only[e1,Option.some.injEq,Sum.inl.injEq]at hs;rw[←hs];exact e3
  ·simp[e1]at hs
 ·rw[h2 a hv];rfl
def upTo (g:Nat→A→A):Nat→A→A
 |0,a=>a
 |n+1,a=>g n (upTo g n a)
theorem countLoop (n:Nat) (mk:A→Int→S) (g:Nat→A→A) (inv:Nat→A→Prop) {fin:A→X} {F:S→Option (S⊕X)} {a:A} (h0:inv 0 a)
 (h1:∀a i,i<n→inv i a→F (mk a i)=some (.inl (mk (g i a) ((i+1:Nat):Int)))∧inv (i+1) (g i a))
 (h2:∀a,inv n a→F (mk a n)=some (.inr (fin a))):iterL F (mk a 0)=some (fin (upTo g n a)):=by
 have key:∀m,m≤n→inv m (upTo g m a)∧iterL F (mk a 0)=iterL F (mk (upTo g m a) (m:Nat)):=by
  intro m
  induction m with
  |zero=>intro _;exact⟨h0,rfl⟩
  |succ m ih=>
   intro hm
   obtain⟨i1,i2⟩:=ih (by omega)
   obtain⟨j1,j2⟩:=h1 _ m (by omega) i1
   exact⟨j2,i2.trans (iterL_inl j1)⟩
 obtain⟨i1,i2⟩:=key n (Nat.le_refl _)
 rw[i2,iterL_inr (h2 _ i1)]
theorem allLoop {X:Type} {l:List E} (p:E→Bool) {F:Int→Option (Int⊕(Bool⊕X))} {z:X} (h1:∀(i:Nat) e,l[i]? = some e→F i=some (if p e=true then .inl ((i+1:Nat):Int) else .inr (.inl false)))
 (h2:F (l.length:Int)=some (.inr (.inr z))):iterL F 0=some (if l.all p=true then .inr z else .inl false):=by
 rw[iter_run (l:=l) (mk:=fun(_:Unit) i=>i) (step:=fun _ _ e=>if p e=true then some (.inl ()) else some (.inr (.inl false))) (fin:=fun _=>some (.inr z)) (fun _ _=>True) ?_ (fun _ _ _ _ _ _ _=>trivial) ?_ trivial]
 ·have key:∀(r:List E) (i:Nat),runL (A:=Unit) (X:=Bool⊕X) (fun _ _ e=>if p e=true then some (.inl ()) else some (.inr (.inl false))) (fun _=>some (.inr z)) i () r=some (if r.all p=true then .inr z else .inl false):=by
   intro r
   induction r with
   |nil=>intro i;rfl
   |cons c r ih=>
    intro i
    simp only[runL]
    by_cases hc:p c=true
    ·have:(c::r).all p=r.all p:=by rw[List.all_cons,hc];rfl
     rw[if_pos hc,this]
     exact ih (i+1)
    ·have:(c::r).all p=false:=by rw[List.all_cons,(Bool.not_eq_true _).mp hc];rfl
     rw[if_neg hc,this];rfl
  exact key l 0
 ·intro _ i c hc _
  rw[h1 i c hc]
  by_cases hk:p c=true
  ·rw[if_pos hk,if_pos hk];rfl
  ·rw[if_neg hk,if_neg hk];rfl
 ·intro _ _;rw[h2];rfl
theorem sameLoop {X:Type} {l m:List E} (hl:l.length=m.length) (p:E→E→Bool) {F:Int→Option (Int⊕(Bool⊕X))} {z:X} (h1:∀(i:Nat) d e,l[i]? = some d→m[i]? = some e→F i=some (if p d e=true then .inl ((i+1:Nat):Int) else .inr (.inl false)))
 (h2:F (l.length:Int)=some (.inr (.inr z))):iterL F 0=some (if (l.zip m).all (fun x=>p x.1 x.2)=true then .inr z else .inl false):=by
 refine allLoop (l:=l.zip m) (fun x=>p x.1 x.2) (fun i e he=>?_) ?_
 ·rw[List.getElem?_zip_eq_some]at he
  exact h1 i e.1 e.2 he.1 he.2
 ·rw[List.length_zip,←hl,Nat.min_self];exact h2
theorem zip_all_eq {l m:List E} (hl:l.length=m.length) {p:E×E→Bool} (hp:∀x,p x=true↔x.1=x.2):((l.zip m).all p=true)↔l=m:=by
 induction l generalizing m with
 |nil=>cases m<;>simp_all
 |cons a l ih=>
  cases m with
  |nil=>simp at hl
  |cons b m=>
   simp only[List.zip_cons_cons,List.all_cons,Bool.and_eq_true,hp,List.cons.injEq]
   rw[ih (by simpa using hl)]
theorem replicate_fold {n:Nat} (c d:E):upTo (fun i a=>a.set i c) n (List.replicate n d)=List.replicate n c:=by
 have key:∀m k,upTo (fun i a=>a.set i c) m (List.replicate (m+k) d)=List.replicate m c++List.replicate k d:=by
  intro m
  induction m with
  |zero=>intro k;simp[upTo]
  |succ m ih=>
   intro k
   simp only[upTo]
   have:=ih (k+1)
   rw[show m+1+k=m+(k+1) by omega,this,List.set_append_right _ _ (by simp)]
   rw[List.replicate_succ' (n:=m),List.append_assoc]
   simp[List.replicate_succ]
 have:=key n 0
 simpa using this
theorem append_fold {n:Nat} (c:E):upTo (fun _ a=>a++[c]) n []=List.replicate n c:=by
 induction n with
 |zero=>rfl
 |succ n ih=>simp only[upTo,ih,List.replicate_succ']
end
end Go.Ideal.Plain
set_option linter.unusedVariables false
set_option linter.unusedSimpArgs false
namespace Go.Ideal.Seat
open Go.Ideal.Plain
def B8 (l:List Int):Prop:=∀x∈l,0≤x∧x<256
theorem B8.app {a b:List Int} (ha:B8 a) (hb:B8 b):B8 (a++b):=fun x hx=>(List.mem_append.1 hx).elim (ha x) (hb x)
theorem B8.take {a:List Int} (ha:B8 a) (n:Nat):B8 (a.take n):=fun x hx=>ha x (List.mem_of_mem_take hx)
theorem B8.drop {a:List Int} (ha:B8 a) (n:Nat):B8 (a.drop n):=fun x hx=>ha x (List.mem_of_mem_drop hx)
theorem B8.rep (n:Nat):B8 (List.replicate n 0):=fun x hx=>by rw[(List.mem_replicate.1 hx).2];omega
theorem B8.set {a:List Int} (ha:B8 a) (n:Nat) {v:Int} (h:0≤v∧v<256):B8 (a.set n v):=fun x hx=>(List.mem_or_eq_of_mem_set hx).elim (ha x) (fun e=>e▸h)
theorem wu8' (x:Int):IntKind.wrap .u8 x=x%256:=rfl
theorem wu32 (x:Int):IntKind.wrap .u32 x=x%4294967296:=rfl
theorem wu64 (x:Int):IntKind.wrap .u64 x=x%18446744073709551616:=rfl
def beP:Nat→Int→List Int
 |0,_=>[]
 |k+1,n=>beP k (n/256)++[n%256]
def beN (b:List Int):Int:=b.foldl (fun n x=>n*256+x) 0
theorem beP_len:∀(k:Nat) (n:Int),(beP k n).length=k
 |0,_=>rfl
 |k+1,n=>by simp[beP,beP_len k]
theorem beP_B8:∀(k:Nat) (n:Int),B8 (beP k n)
 |0,_=>fun x hx=>by cases hx
 |k+1,n=>(beP_B8 k _).app fun x hx=>by rw[List.mem_singleton]at hx;omega
theorem beN_snoc (b:List Int) (x:Int):beN (b++[x])=beN b*256+x:=by simp[beN]
theorem beN_beP:∀(k:Nat) (n:Int),0≤n→n<256^k→beN (beP k n)=n
 |0,n,h1,h2=>by simp at h2;simp[beP,beN];omega
 |k+1,n,h1,h2=>by
  rw[Int.pow_succ]at h2
  rw[beP,beN_snoc,beN_beP k (n/256) (by omega) (by generalize (256:Int)^k=p at h2 ⊢;omega)];omega
theorem snocInd {P:List Int→Prop} (h0:P []) (h1:∀l x,P l→P (l++[x])) (l:List Int):P l:=by
 have key:∀r:List Int,P r.reverse:=fun r=>by
  induction r with
  |nil=>exact h0
  |cons x r ih=>rw[List.reverse_cons];exact h1 _ x ih
 have:=key l.reverse
 rwa [List.reverse_reverse]at this
theorem beN_lt:∀(l:List Int),B8 l→0≤beN l∧beN l<256^l.length:=by
 refine snocInd ?_ ?_
 ·intro _;simp[beN]
 ·intro l x ih h
  have hx:=h x (by simp)
  obtain⟨i1,i2⟩:=ih (fun y hy=>h y (by simp[hy]))
  rw[beN_snoc,List.length_append,List.length_singleton,Int.pow_succ]
  generalize (256:Int)^l.length=p at i2 ⊢
  omega
theorem beP_beN:∀(l:List Int),B8 l→beP l.length (beN l)=l:=by
 refine snocInd ?_ ?_
 ·intro _;rfl
 ·intro l x ih h
  have hx:=h x (by simp)
  rw[List.length_append,List.length_singleton,beP,beN_snoc]
  have e1:(beN l*256+x)/256=beN l:=by omega
  have e2:(beN l*256+x)%256=x:=by omega
  rw[e1,e2,ih (fun y hy=>h y (by simp[hy]))]
theorem beP8 (n:Int):beP 8 n=[n/72057594037927936%256,n/281474976710656%256,n/1099511627776%256,n/4294967296%256,n/16777216%256,n/65536%256,n/256%256,n%256]:=by
 simp only[beP,List.nil_append,List.cons_append]
 congr 1
 ·omega
 congr 1
 ·omega
 congr 1
 ·omega
 congr 1
 ·omega
 congr 1
 ·omega
 congr 1
 ·omega
theorem fdivP (n:Int) (k:Nat):Int.fdiv n (2^k)=n/2^k:=Int.fdiv_eq_ediv_of_nonneg _ (Int.le_of_lt (Int.pow_pos (by decide)))
theorem put8 (n:Int) (h1:0≤n) (h2:n<18446744073709551616):F_word_Put (n,8)=some (beP 8 n,0):=by
 unfold F_word_Put
 have c1:(bif ((decide ((8:Int)<1))==false) then (some (decide ((8:Int)>8))) else (some true))=some false:=rfl
 have c2:(bif ((decide ((8:Int)<8))==true) then (bif decide ((IntKind.wrap .u64 ((IntKind.wrap .i64 (8*8))))<0) then none else (some ((Int.fdiv n (2^min (Int.toNat (IntKind.wrap .u64 ((IntKind.wrap .i64 (8*8))))) (IntKind.bits .u64))) != 0))) else (some false))=some false:=rfl
 have c3:decide ((0:Int)≤8∧(8:Int)*((1+1:Nat):Int)≤most)=true:=by unfold most;decide
 simp only[c1,c2,c3,Option.bind_some,cond_false,cond_true]
 rw[countLoop 8 (fun l i=>(l,i)) (fun i l=>l.set (7-i) (n/2^(8*i)%256)) (fun _ l=>l.length=8) (fin:=fun l=>(l,8,false)) (by rfl) (fun l i hi hl=>?_) (fun l hl=>?_)]
 ·simp only[Option.bind_some,upTo,beP8]
  simp only[show (Int.toNat 8)=8 from rfl,List.replicate,List.set,Nat.reduceSub,Nat.reduceMul]
  simp
 ·refine⟨?_,by simp[hl]⟩
  have hr:(((List.replicate (Int.toNat 8) (0:Int)).length:Nat):Int)=8:=rfl
  have a1:(i:Int)<8:=by omega
  have a2:IntKind.wrap .i64 (8*(i:Int))=((8*i:Nat):Int):=by rw[w64 (by omega) (by omega)];omega
  have a3:IntKind.wrap .u64 ((8*i:Nat):Int)=((8*i:Nat):Int):=by rw[wu64];omega
  have a4:IntKind.wrap .i64 ((IntKind.wrap .i64 (8-1))-(i:Int))=((7-i:Nat):Int):=by rw[show IntKind.wrap .i64 (8-1)=7 from rfl,w64 (by omega) (by omega)];omega
  have a5:¬(((8*i:Nat):Int)<0):=by omega
  have a6:min (8*i) (IntKind.bits .u64)=8*i:=Nat.min_eq_left (by show 8*i≤64;omega)
  have a7:7-i<l.length:=by omega
  simp only[hr,a1,a2,a3,a4,a5,a6,decide_true,decide_false,cond_true,cond_false,Int.natCast_nonneg,Int.toNat_natCast,a7,List.getElem?_eq_getElem a7,Option.bind_some,wsucc (show i<2^62 by omega),fdivP,wu8']
 ·rfl
theorem orB {a x:Int} (h1:0≤a) (h2:a<2^56) (h3:0≤x) (h4:x<256):((BitVec.ofInt (IntKind.bits .u64) (a*256)|||BitVec.ofInt (IntKind.bits .u64) x).toNat:Int)=a*256+x:=by
 obtain⟨m,rfl⟩:=Int.eq_ofNat_of_zero_le h1
 obtain⟨k,rfl⟩:=Int.eq_ofNat_of_zero_le h3
 have hm:m*256<2^64:=by omega
 have hk:k<2^8:=by omega
 have e1:(((m:Nat):Int)*256)=(((m*256:Nat)):Int):=by omega
 rw[e1]
 show ((BitVec.ofNat 64 (m*256)|||BitVec.ofNat 64 k).toNat:Int)=_
 rw[BitVec.toNat_or,BitVec.toNat_ofNat,BitVec.toNat_ofNat,Nat.mod_eq_of_lt hm,Nat.mod_eq_of_lt (by omega)]
 have:=Nat.shiftLeft_add_eq_or_of_lt hk m
 rw[Nat.shiftLeft_eq]at this
 rw[show m*256=m*2^8 by rfl,←this];omega
theorem foldB (l:List Int) (h:B8 l) (hl:l.length≤8) (i:Nat) (hi:i<l.length) {a:Int} (ha:0≤a∧a<256^i):a<2^56:=by
 have:∀j,j<8→(256:Int)^j≤2^56:=by decide
 have:=this i (by omega)
 omega
theorem getW (l:List Int) (h:B8 l) (h1:1≤l.length) (h2:l.length≤8):F_word_Get l=some (beN l,0):=by
 unfold F_word_Get
 have c1:(bif ((decide ((((l.length):Nat):Int)<1))==false) then (some (decide ((((l.length):Nat):Int)>8))) else (some true))=some false:=by
  have a:¬((((l.length):Nat):Int)<1):=by omega
  have b:¬((((l.length):Nat):Int)>8):=by omega
  simp only[a,b,decide_false,beq_self_eq_true,cond_true]
 simp only[c1,Option.bind_some,cond_false]
 rw[foldLoop (l:=l) (fun a i=>(a,i)) (fun a e=>a*256+e) (fun i a=>0≤a∧a<256^i) (fin:=fun a=>(a,(l.length:Int),false)) (by simp) (fun a i e he hi ha=>?_) (fun a ha=>by simp)]
 ·rfl
 ·have he2:=h e (List.mem_of_getElem? he)
  have h56:=foldB l h h2 i hi ha
  have a1:(i:Int)<(l.length:Int):=by omega
  have a2:IntKind.wrap .u64 (a*2^min (Int.toNat 8) (IntKind.bits .u64))=a*256:=by
   show (a*256)%18446744073709551616=_;omega
  have a3:IntKind.wrap .u64 e=e:=by rw[wu64];omega
  refine⟨?_,?_⟩
  ·simp only[a1,decide_true,cond_true,Int.natCast_nonneg,Int.toNat_natCast,he,Option.bind_some,wsucc (show i<2^62 by omega),a2,a3,orB ha.1 h56 he2.1 he2.2]
   rw[wu64,Int.emod_eq_of_lt (by omega) (by omega)]
  ·rw[Int.pow_succ]
   generalize (256:Int)^i=q at ha ⊢
   omega
theorem refGet (l:List Int) (h:B8 l) (h2:l.length≤8):F_batonref01_Get l=some (beN l):=by
 unfold F_batonref01_Get
 rw[foldLoop (l:=l) (fun a i=>(a,i)) (fun a e=>a*256+e) (fun i a=>0≤a∧a<256^i) (fin:=fun a=>(a,(l.length:Int),false)) (by simp) (fun a i e he hi ha=>?_) (fun a ha=>by simp)]
 ·rfl
 ·have he2:=h e (List.mem_of_getElem? he)
  have h56:=foldB l h h2 i hi ha
  have a1:(i:Int)<(l.length:Int):=by omega
  refine⟨?_,?_⟩
  ·simp only[a1,decide_true,cond_true,Int.natCast_nonneg,Int.toNat_natCast,he,Option.bind_some,wsucc (show i<2^62 by omega)]
   simp only[wu64]
   rw[Int.emod_eq_of_lt (a:=a*256) (by omega) (by omega),Int.emod_eq_of_lt (a:=e) (by omega) (by omega),Int.emod_eq_of_lt (by omega) (by omega)]
  ·rw[Int.pow_succ]
   generalize (256:Int)^i=q at ha ⊢
   omega
theorem eight_eq (n:Int) (h1:0≤n) (h2:n<9223372036854775808):O_batonref22_eight n=some (beP 8 n):=by
 unfold O_batonref22_eight
 rw[countLoop 8 (fun(a:Int×List Int) i=>(a.1,a.2,i)) (fun i a=>(a.1/256,(a.1%256)::a.2)) (fun i a=>0≤a.1∧a.1<9223372036854775808∧a.2.length=i) (a:=(n,[])) (fin:=fun a=>(a.1,a.2,8,false)) (by simp;omega) (fun a i hi ha=>?_) (fun a ha=>by rfl)]
 ·simp only[Option.bind_some,upTo,beP,List.nil_append,List.cons_append]
 ·obtain⟨a1,a2,a3⟩:=ha
  have b1:(i:Int)<8:=by omega
  have b2:IntKind.wrap .u8 (Int.tmod a.1 256)=a.1%256:=by rw[wu8',Int.tmod_eq_emod_of_nonneg a1];omega
  have b3:IntKind.wrap .i64 (Int.tdiv a.1 256)=a.1/256:=by rw[Int.tdiv_eq_ediv_of_nonneg a1,w64 (by omega) (by omega)]
  refine⟨?_,by omega,by omega,by simp[a3]⟩
  have b4:(([a.1%256]:List Int).length+a.2.length)*(1+1)≤most:=by unfold most;simp;omega
  simp only[b1,b2,b3,b4,decide_true,cond_true,wsucc (show i<2^62 by omega),List.singleton_append]
end Go.Ideal.Seat
set_option linter.unusedVariables false
set_option linter.unusedSimpArgs false
namespace Go.Ideal.Seat
open Go.Ideal.Plain
def stepN (c:Nat):Nat:=if c%2=1 then c/2 ^^^ 2197175160 else c/2
def entN:Nat→Nat→Nat
 |0,c=>c
 |k+1,c=>entN k (stepN c)
theorem stepN_lt {c:Nat} (h:c<2^32):stepN c<2^32:=by
 unfold stepN
 split
 ·exact Nat.xor_lt_two_pow (by omega) (by decide)
 ·omega
theorem entN_lt:∀(k:Nat) {c:Nat},c<2^32→entN k c<2^32
 |0,_,h=>h
 |k+1,_,h=>entN_lt k (stepN_lt h)
theorem xor_div2 (a b:Nat):(a ^^^ b)/2=a/2 ^^^ b/2:=by
 have:=Nat.shiftRight_xor_distrib (a:=a) (b:=b) (i:=1)
 simpa [Nat.shiftRight_eq_div_pow]using this
theorem xor_mod2 (a b:Nat):(a ^^^ b)%2=(a%2+b%2)%2:=by
 have:=Nat.xor_mod_two_pow (a:=a) (b:=b) (n:=1)
 simp at this
 rw[this]
 rcases Nat.mod_two_eq_zero_or_one a with h|h<;>rcases Nat.mod_two_eq_zero_or_one b with h'|h'<;>simp[h,h']
theorem stepN_xor (a b:Nat):stepN (a ^^^ b)=stepN a ^^^ stepN b:=by
 unfold stepN
 rw[xor_mod2,xor_div2]
 rcases Nat.mod_two_eq_zero_or_one a with h|h<;>rcases Nat.mod_two_eq_zero_or_one b with h'|h'<;>simp[h,h']
 ·rw[Nat.xor_assoc]
 ·rw[Nat.xor_assoc,Nat.xor_assoc];congr 1;rw[Nat.xor_comm]
 ·rw[Nat.xor_assoc,Nat.xor_comm 2197175160,Nat.xor_assoc,Nat.xor_self,Nat.xor_zero]
theorem entN_xor:∀(k a b:Nat),entN k (a ^^^ b)=entN k a ^^^ entN k b
 |0,_,_=>rfl
 |k+1,a,b=>by simp only[entN];rw[stepN_xor,entN_xor k]
theorem stepN_two (y:Nat):stepN (2*y)=y:=by unfold stepN;rw[if_neg (by omega)];omega
theorem entN_pow:∀(k h:Nat),entN k (2^k*h)=h
 |0,h=>by simp[entN]
 |k+1,h=>by rw[entN,Nat.pow_succ,Nat.mul_comm (2^k) 2,Nat.mul_assoc,stepN_two,entN_pow k]
theorem entN_eight (y:Nat):entN 8 y=y/256 ^^^ entN 8 (y%256):=by
 have h:(2^8*(y/256)) ^^^ (y%256)=y:=by
  have h1:=Nat.two_pow_add_eq_or_of_lt (show y%256<2^8 by omega) (y/256)
  have h2:(2^8*(y/256)) ^^^ (y%256)=(2^8*(y/256))|||(y%256):=by
   apply Nat.eq_of_testBit_eq
   intro i
   rw[Nat.testBit_xor,Nat.testBit_or]
   by_cases hi:i<8
   ·have:(2^8*(y/256)).testBit i=false:=by rw[Nat.testBit_two_pow_mul];simp;omega
    simp[this]
   ·have:(y%256).testBit i=false:=Nat.testBit_lt_two_pow (Nat.lt_of_lt_of_le (show y%256<2^8 by omega) (Nat.pow_le_pow_right (by decide) (by omega)))
    simp[this]
  rw[h2,←h1];omega
 have h3:=entN_xor 8 (2^8*(y/256)) (y%256)
 rw[h,entN_pow]at h3
 exact h3
theorem xor32 {a b:Nat} (ha:a<2^32) (hb:b<2^32):IntKind.wrap .u32 (((BitVec.ofInt (IntKind.bits .u32) (a:Int) ^^^ BitVec.ofInt (IntKind.bits .u32) (b:Int)).toNat:Nat))=((a ^^^ b:Nat):Int):=by
 have e:(BitVec.ofInt (IntKind.bits .u32) (a:Int) ^^^ BitVec.ofInt (IntKind.bits .u32) (b:Int)).toNat=a ^^^ b:=by
  show (BitVec.ofNat 32 a ^^^ BitVec.ofNat 32 b).toNat=_
  rw[BitVec.toNat_xor,BitVec.toNat_ofNat,BitVec.toNat_ofNat,Nat.mod_eq_of_lt ha,Nat.mod_eq_of_lt hb]
 have:=Nat.xor_lt_two_pow ha hb
 rw[e,wu32];omega
theorem and32 {a k:Nat} (ha:a<2^32) (hk:k<32):IntKind.wrap .u32 (((BitVec.ofInt (IntKind.bits .u32) (a:Int)&&&BitVec.ofInt (IntKind.bits .u32) ((2^k-1:Nat):Int)).toNat:Nat))=((a%2^k:Nat):Int):=by
 have hp:2^k<2^32:=Nat.pow_lt_pow_right (by decide) hk
 have e:(BitVec.ofInt (IntKind.bits .u32) (a:Int)&&&BitVec.ofInt (IntKind.bits .u32) ((2^k-1:Nat):Int)).toNat=a%2^k:=by
  show (BitVec.ofNat 32 a&&&BitVec.ofNat 32 (2^k-1)).toNat=_
  rw[BitVec.toNat_and,BitVec.toNat_ofNat,BitVec.toNat_ofNat,Nat.mod_eq_of_lt ha,Nat.mod_eq_of_lt (by omega),Nat.and_two_pow_sub_one_eq_mod]
 have:a%2^k≤a:=Nat.mod_le _ _
 rw[e,wu32];omega
theorem crcStep (c:Nat) (h:c<2^32):F_crc_step (c:Int)=some (stepN c:Int):=by
 unfold F_crc_step stepN
 have a1:=and32 (k:=1) h (by decide)
 have a2:Int.fdiv (c:Int) (2^min (Int.toNat 1) (IntKind.bits .u32))=((c/2:Nat):Int):=by
  show Int.fdiv (c:Int) (2^1)=_
  rw[fdivP];omega
 have a3:=xor32 (a:=c/2) (b:=2197175160) (by omega) (by decide)
 simp only[show (((2^1-1:Nat)):Int)=1 from rfl]at a1
 simp only[show ((2197175160:Nat):Int)=2197175160 from rfl]at a3
 simp only[a1,a2,a3]
 rcases Nat.mod_two_eq_zero_or_one c with h'|h'<;>simp[h']
theorem upTo_ent (k c:Nat):upTo (fun _ a=>stepN a) k c=entN k c:=by
 have:∀k c,entN k (stepN c)=stepN (entN k c):=fun k=>by
  induction k with
  |zero=>intro c;rfl
  |succ k ih=>intro c;rw[entN,entN,ih]
 induction k with
 |zero=>rfl
 |succ k ih=>rw[upTo,ih,entN,this]
theorem crcEntry (c:Nat) (h:c<2^32):F_crc_entry (c:Int)=some (entN 8 c:Int):=by
 unfold F_crc_entry
 rw[countLoop 8 (fun(a:Nat) i=>((a:Int),i)) (fun _ a=>stepN a) (fun _ a=>a<2^32) (a:=c) (fin:=fun a=>((a:Int),8,false)) h (fun a i hi ha=>?_) (fun a ha=>by rfl)]
 ·rw[upTo_ent];rfl
 ·have b1:(i:Int)<8:=by omega
  simp only[b1,decide_true,cond_true,crcStep a ha,Option.bind_some,wsucc (show i<2^62 by omega),stepN_lt ha,and_self]
def crcN (b:List Int):Nat:=b.foldl (fun c x=>entN 8 (c ^^^ x.toNat)) 4294967295
def sumN (b:List Int):Nat:=4294967295-crcN b
theorem ones_sub {c:Nat} (h:c<2^32):4294967295 ^^^ c=4294967295-c:=by
 have e:(~~~(BitVec.ofNat 32 c)).toNat=2^32-1-c:=by rw[BitVec.toNat_not,BitVec.toNat_ofNat,Nat.mod_eq_of_lt h]
 rw[←BitVec.allOnes_xor,BitVec.toNat_xor,BitVec.toNat_ofNat,Nat.mod_eq_of_lt h]at e
 exact e
theorem crcN_go (b:List Int) (hb:B8 b):∀c:Nat,c<2^32→b.foldl (fun c x=>entN 8 (c ^^^ x.toNat)) c<2^32:=by
 induction b with
 |nil=>intro c h;exact h
 |cons x r ih=>
  intro c h
  have hx:=hb x (by simp)
  exact ih (fun y hy=>hb y (by simp[hy])) _ (entN_lt 8 (Nat.xor_lt_two_pow h (by omega)))
theorem crcN_lt {b:List Int} (hb:B8 b):crcN b<2^32:=crcN_go b hb _ (by decide)
theorem crcMore (b:List Int) (hb:B8 b) (hl:b.length<2^60):F_crc_More (0,b)=some (sumN b:Int):=by
 unfold F_crc_More
 have i0:IntKind.wrap .u32 (((BitVec.ofInt (IntKind.bits .u32) (IntKind.max .u32) ^^^ BitVec.ofInt (IntKind.bits .u32) 0).toNat:Nat))=((4294967295:Nat):Int):=by decide
 simp only[i0]
 rw[foldLoop (l:=b) (fun(a:Nat) i=>((a:Int),i)) (fun a x=>entN 8 (a ^^^ x.toNat)) (fun _ a=>a<2^32) (a:=4294967295) (fin:=fun a=>((a:Int),(b.length:Int),false)) (by decide) (fun a i e he hi ha=>?_) (fun a ha=>by simp)]
 ·have hc:=crcN_lt hb
  have:=xor32 (a:=4294967295) (b:=crcN b) (by decide) hc
  rw[ones_sub hc]at this
  simp only[Option.bind_some,sumN]
  exact congrArg some this
 ·have hx:=hb e (List.mem_of_getElem? he)
  obtain⟨k,rfl⟩:=Int.eq_ofNat_of_zero_le hx.1
  have hk:k<2^8:=by omega
  have b1:(i:Int)<(b.length:Int):=by omega
  have b2:IntKind.wrap .u32 ((k:Nat):Int)=((k:Nat):Int):=by rw[wu32];omega
  have b3:=xor32 (a:=a) (b:=k) ha (by omega)
  have hlt:=Nat.xor_lt_two_pow ha (show k<2^32 by omega)
  have b4:=and32 (k:=8) hlt (by decide)
  simp only[show (((2^8-1:Nat)):Int)=255 from rfl]at b4
  have b5:Int.fdiv (a:Int) (2^min (Int.toNat 8) (IntKind.bits .u32))=((a/256:Nat):Int):=by
   show Int.fdiv (a:Int) (2^8)=_
   rw[fdivP];omega
  have b6:=xor32 (a:=a/256) (b:=entN 8 ((a ^^^ k)%2^8)) (by omega) (entN_lt 8 (by omega))
  have b7:(a ^^^ k)/256=a/256:=by
   have:=Nat.shiftRight_xor_distrib (a:=a) (b:=k) (i:=8)
   simp only[Nat.shiftRight_eq_div_pow]at this
   rw[show k/2^8=0 by omega,Nat.xor_zero]at this
   exact this
  refine⟨?_,entN_lt 8 (by simpa using hlt)⟩
  simp only[b1,decide_true,cond_true,Int.natCast_nonneg,Int.toNat_natCast,he,Option.bind_some,wsucc (show i<2^62 by omega),b2,b3,b4,crcEntry _ (show (a ^^^ k)%2^8<2^32 by omega),b5,b6]
  rw[entN_eight (a ^^^ k),b7]
def sum4 (b:List Int):List Int:=[(sumN b:Int)%256,(sumN b:Int)/256%256,(sumN b:Int)/65536%256,(sumN b:Int)/16777216%256]
theorem sum4_len (b:List Int):(sum4 b).length=4:=rfl
theorem sum4_B8 (b:List Int):B8 (sum4 b):=fun x hx=>by
 simp only[sum4,List.mem_cons,List.not_mem_nil,or_false]at hx
 omega
theorem sumN_lt (b:List Int):sumN b<2^32:=by unfold sumN;omega
theorem sums_eq (b:List Int) (hb:B8 b) (hl:b.length<2^60):F_record_sums b=some (sum4 b):=by
 unfold F_record_sums F_crc_Sum
 rw[crcMore b hb hl]
 have:=sumN_lt b
 have a1:Int.fdiv ((sumN b:Nat):Int) (2^min (Int.toNat 8) (IntKind.bits .u32))=(sumN b:Int)/256:=fdivP _ 8
 have a2:Int.fdiv ((sumN b:Nat):Int) (2^min (Int.toNat 16) (IntKind.bits .u32))=(sumN b:Int)/65536:=fdivP _ 16
 have a3:Int.fdiv ((sumN b:Nat):Int) (2^min (Int.toNat 24) (IntKind.bits .u32))=(sumN b:Int)/16777216:=fdivP _ 24
 simp only[Option.bind_some,a1,a2,a3,wu8',sum4]
theorem refMore (b:List Int) (hb:B8 b) (hl:b.length<2^60):F_batonref07_More (0,b)=some (sumN b:Int):=by
 unfold F_batonref07_More
 have i0:IntKind.wrap .u32 (4294967295-0)=((4294967295:Nat):Int):=by decide
 simp only[i0]
 rw[foldLoop (l:=b) (fun(a:Nat) i=>((a:Int),i)) (fun a x=>entN 8 (a ^^^ x.toNat)) (fun _ a=>a<2^32) (a:=4294967295) (fin:=fun a=>((a:Int),(b.length:Int),false)) (by decide) (fun a i e he hi ha=>?_) (fun a ha=>by simp)]
 ·have hc:=crcN_lt hb
  simp only[Option.bind_some,sumN]
  rw[wu32]
  change some ((4294967295-((crcN b:Nat):Int))%4294967296)=_
  congr 1
  omega
 ·have hx:=hb e (List.mem_of_getElem? he)
  obtain⟨k,rfl⟩:=Int.eq_ofNat_of_zero_le hx.1
  have b1:(i:Int)<(b.length:Int):=by omega
  have b2:IntKind.wrap .u32 ((k:Nat):Int)=((k:Nat):Int):=by rw[wu32];omega
  have b3:=xor32 (a:=a) (b:=k) ha (by omega)
  have hlt:=Nat.xor_lt_two_pow ha (show k<2^32 by omega)
  refine⟨?_,entN_lt 8 (by simpa using hlt)⟩
  simp only[b1,decide_true,cond_true,Int.natCast_nonneg,Int.toNat_natCast,he,Option.bind_some,wsucc (show i<2^62 by omega),b2,b3]
  rw[countLoop 8 (fun(a:Nat) i=>((a:Int),i)) (fun _ a=>stepN a) (fun _ a=>a<2^32) (a:=a ^^^ k) (fin:=fun a=>((a:Int),8,false)) hlt (fun a i hi ha=>?_) (fun a ha=>by rfl)]
  ·rw[upTo_ent];rfl
  ·have d1:(i:Int)<8:=by omega
   have d2:Int.tmod (a:Int) 2=((a%2:Nat):Int):=by rw[Int.tmod_eq_emod_of_nonneg (by omega)];omega
   have d3:IntKind.wrap .u32 (Int.tdiv (a:Int) 2)=((a/2:Nat):Int):=by rw[Int.tdiv_eq_ediv_of_nonneg (by omega),wu32];omega
   have d4:=xor32 (a:=a/2) (b:=2197175160) (by omega) (by decide)
   simp only[show ((2197175160:Nat):Int)=2197175160 from rfl]at d4
   simp only[d1,decide_true,cond_true,d2,d3,d4,wsucc (show i<2^62 by omega),stepN_lt ha,and_true]
   unfold stepN
   rcases Nat.mod_two_eq_zero_or_one a with h'|h'<;>simp[h']
theorem refSum (b:List Int) (hb:B8 b) (hl:b.length<2^60):F_batonref22_Sum b=some (sum4 b):=by
 unfold F_batonref22_Sum
 rw[refMore b hb hl]
 have:=sumN_lt b
 have n0:(0:Int)≤((sumN b:Nat):Int):=by omega
 have a0:Int.tmod ((sumN b:Nat):Int) 256=(sumN b:Int)%256:=Int.tmod_eq_emod_of_nonneg n0
 have a1:IntKind.wrap .u32 (Int.tdiv ((sumN b:Nat):Int) 256)=(sumN b:Int)/256:=by rw[Int.tdiv_eq_ediv_of_nonneg n0,wu32];omega
 have a2:IntKind.wrap .u32 (Int.tdiv ((sumN b:Nat):Int) 65536)=(sumN b:Int)/65536:=by rw[Int.tdiv_eq_ediv_of_nonneg n0,wu32];omega
 have a3:IntKind.wrap .u32 (Int.tdiv ((sumN b:Nat):Int) 16777216)=(sumN b:Int)/16777216:=by rw[Int.tdiv_eq_ediv_of_nonneg n0,wu32];omega
 simp only[Option.bind_some,a0,a1,a2,a3,wu8',sum4]
 rw[Int.tmod_eq_emod_of_nonneg (show (0:Int)≤(sumN b:Int)/256 by omega),Int.tmod_eq_emod_of_nonneg (show (0:Int)≤(sumN b:Int)/65536 by omega)]
 simp only[Int.emod_emod_of_dvd _ (show (256:Int) ∣256 by decide)]
end Go.Ideal.Seat
set_option linter.unusedVariables false
set_option linter.unusedSimpArgs false
namespace Go.Ideal.Seat
open Go.Ideal.Plain
section
variable {E X:Type}
theorem findLoop {l:List E} (p:E→Bool) {F:Int→Option (Int⊕(Int⊕X))} {z:X} (h1:∀(i:Nat) e,l[i]? = some e→F i=some (if p e=true then .inr (.inl (i:Int)) else .inl ((i+1:Nat):Int)))
 (h2:F (l.length:Int)=some (.inr (.inr z))):iterL F 0=some (match l.findIdx? p with|some i=>.inl (i:Int)|none=>.inr z):=by
 have key:∀k,k≤l.length→iterL F ((l.length-k:Nat):Int)=some (match (l.drop (l.length-k)).findIdx? p with|some i=>.inl ((l.length-k+i:Nat):Int)|none=>.inr z):=by
  intro k
  induction k with
  |zero=>intro _;rw[Nat.sub_zero,iterL_inr h2];simp
  |succ k ih=>
   intro hk
   have hlt:l.length-(k+1)<l.length:=by omega
   have hs:l.length-(k+1)+1=l.length-k:=by omega
   have e:=h1 (l.length-(k+1)) _ (List.getElem?_eq_getElem hlt)
   rw[List.drop_eq_getElem_cons hlt,List.findIdx?_cons]
   by_cases hp:p l[l.length-(k+1)]=true
   ·rw[if_pos hp]at e
    rw[iterL_inr e,if_pos hp];simp
   ·rw[if_neg hp]at e
    rw[iterL_inl e,if_neg hp,hs,ih (by omega)]
    cases (List.drop (l.length-k) l).findIdx? p with
    |none=>rfl
    |some i=>simp only[Option.map_some];congr 3;omega
 have:=key l.length (Nat.le_refl _)
 simpa using this
end
theorem findIdx_none {l:List Int} {p:Int→Bool}:(l.findIdx? p=none)↔∀x∈l,p x=false:=by
 rw[List.findIdx?_eq_none_iff]
theorem bequal (a b:List Int) (h:a.length<2^60):F_slices_Equal_byte_byte (a,b)=some (decide (a=b)):=by
 unfold F_slices_Equal_byte_byte
 by_cases hl:a.length=b.length
 ·have hne:((((a.length):Nat):Int) != (((b.length):Nat):Int))=false:=by simp[hl]
  simp only[hne,cond_false]
  rw[sameLoop (l:=a) (m:=b) hl (fun d e=>decide (d=e)) (z:=((a.length:Int),false)) (fun i d e hd he=>?_) (by simp)]
  ·have:=zip_all_eq (l:=a) (m:=b) hl (p:=fun x=>decide (x.1=x.2)) (by simp)
   by_cases hab:a=b
   ·rw[if_pos (this.2 hab)];simp[hab]
   ·rw[if_neg (fun h=>hab (this.1 h))];simp[hab]
  ·have hi:=getE_bound hd
   have hi':(i:Int)<(a.length:Int):=by omega
   have hbq:(d != e) = !decide (d=e):=by by_cases h:d=e<;>simp[h]
   simp only[hi',decide_true,cond_true,Int.natCast_nonneg,Int.toNat_natCast,hd,he,Option.bind_some,hbq,wsucc (show i<2^62 by omega)]
   by_cases hde:d=e<;>simp[hde]
 ·have hne:((((a.length):Nat):Int) != (((b.length):Nat):Int))=true:=by simp;omega
  have:a≠b:=fun e=>hl (by rw[e])
  simp only[hne,cond_true,this,decide_false]
theorem bsame (a b:List Int) (h:a.length<2^60):F_batonref01_Same (a,b)=some (decide (a=b)):=bequal a b h
theorem cloneB (l:List Int) (h:l.length≤2^36):O_slices_Clone_byte_byte l=some l:=by
 unfold O_slices_Clone_byte_byte
 have hm:(([]:List Int).length+l.length)*(1+1)≤most:=by unfold most;simp;omega
 simp only[hm,decide_true,cond_true,List.nil_append]
 refine both_eq fun h=>?_
 have:l=[]:=by simpa using h
 rw[this]
theorem cloneC (l:List Int) (h:l.length≤2^36):F_slices_Clone_byte_byte_c l=some l:=cloneB l h
def recErr (g n:Int) (d:List Int):Int:=if g<0∨g≥72057594037927936∨n<0∨n≥72057594037927936 then 1 else if d.length>234 then 22 else 0
def recBody (g n:Int) (d:List Int):List Int:=beP 8 g++(beP 8 n++([(d.length:Int)]++(d++List.replicate (234-d.length) 0)))
def recB (g n:Int) (d:List Int):List Int:=recBody g n d++(sum4 (recBody g n d)++[0])
theorem recBody_len (g n:Int) {d:List Int} (h:d.length≤234):(recBody g n d).length=251:=by simp[recBody,beP_len];omega
theorem recBody_B8 (g n:Int) {d:List Int} (h:d.length≤234) (hd:B8 d):B8 (recBody g n d):=
 (beP_B8 8 g).app ((beP_B8 8 n).app (B8.app (fun x hx=>by rw[List.mem_singleton]at hx;omega) (hd.app (B8.rep _))))
theorem recB_len (g n:Int) {d:List Int} (h:d.length≤234):(recB g n d).length=256:=by
 simp[recB,recBody_len g n h,sum4_len]
theorem recB_B8 (g n:Int) {d:List Int} (h:d.length≤234) (hd:B8 d):B8 (recB g n d):=
 (recBody_B8 g n h hd).app ((sum4_B8 _).app fun x hx=>by rw[List.mem_singleton]at hx;omega)
theorem recErr_zero {g n:Int} {d:List Int}:recErr g n d=0↔(0≤g∧g<72057594037927936∧0≤n∧n<72057594037927936∧d.length≤234):=by
 unfold recErr
 split
 ·constructor
  ·intro h;cases h
  ·intro h;omega
 ·split
  ·constructor
   ·intro h;cases h
   ·intro h;omega
  ·constructor
   ·intro _;omega
   ·intro _;rfl
theorem make_eq (g n:Int) (d:List Int) (hd:B8 d) (hl:d.length≤2^36):O_record_Make (g,n,d)=some (if recErr g n d=0 then recB g n d else [],recErr g n d):=by
 unfold O_record_Make
 have c1:(bif ((decide (g<0))==false) then (bif ((decide (g≥72057594037927936))==false) then (bif ((decide (n<0))==false) then (some (decide (n≥72057594037927936))) else (some true)) else (some true)) else (some true))=some (decide (g<0∨g≥72057594037927936∨n<0∨n≥72057594037927936)):=by
  by_cases a:g<0<;>by_cases b:g≥72057594037927936<;>by_cases c:n<0<;>by_cases d:n≥72057594037927936<;>simp[a,b,c,d]<;>omega
 simp only[c1,Option.bind_some]
 by_cases h1:g<0∨g≥72057594037927936∨n<0∨n≥72057594037927936
 ·simp only[recErr,if_pos h1,h1,decide_true,cond_true];rfl
 ·simp only[recErr,if_neg h1,h1,decide_false,cond_false]
  by_cases h2:d.length>234
  ·have h2':(((d.length:Nat):Int)>234):=by omega
   simp only[h2',decide_true,cond_true,if_pos h2];rfl
  ·have h2':¬(((d.length:Nat):Int)>234):=by omega
   simp only[h2',decide_false,cond_false,if_neg h2,if_true]
   have w1:IntKind.wrap .u64 g=g:=by rw[wu64];omega
   have w2:IntKind.wrap .u64 n=n:=by rw[wu64];omega
   have w3:IntKind.wrap .u8 ((d.length:Nat):Int)=((d.length:Nat):Int):=by rw[wu8'];omega
   have cat:O_slices_Concat_byte_byte [beP 8 g,beP 8 n,[((d.length:Nat):Int)]]=some (beP 8 g++(beP 8 n++[((d.length:Nat):Int)])):=by
    have f:[beP 8 g,beP 8 n,[((d.length:Nat):Int)]].flatten=beP 8 g++(beP 8 n++[((d.length:Nat):Int)]):=by simp
    have m1:[beP 8 g,beP 8 n,[((d.length:Nat):Int)]].length≤most:=by show 3≤most;unfold most;decide
    have m2:(beP 8 g++(beP 8 n++[((d.length:Nat):Int)])).length*2≤most:=by unfold most;simp[beP_len]
    unfold O_slices_Concat_byte_byte catF
    rw[f]
    simp only[cut,m1,m2,decide_true,cond_true]
   simp only[w1,w2,w3,put8 g (by omega) (by omega),put8 n (by omega) (by omega),Option.bind_some,cat]
   have l1:(beP 8 g++(beP 8 n++[((d.length:Nat):Int)])).length=17:=by simp[beP_len]
   have l2:((beP 8 g++(beP 8 n++[((d.length:Nat):Int)]))++d).length=17+d.length:=by rw[List.length_append,l1]
   have w4:IntKind.wrap .i64 (251-((17+d.length:Nat):Int))=((234-d.length:Nat):Int):=by rw[w64 (by omega) (by omega)];omega
   have m1:(17+d.length)*(1+1)≤most:=by unfold most;omega
   have m2:(0:Int)≤((234-d.length:Nat):Int)∧((234-d.length:Nat):Int)*((1+1:Nat):Int)≤most:=by unfold most;omega
   have m3:(17+d.length+(List.replicate (234-d.length) (0:Int)).length)*(1+1)≤most:=by unfold most;simp;omega
   have e1:(beP 8 g++(beP 8 n++[((d.length:Nat):Int)]))++d++List.replicate (234-d.length) 0=recBody g n d:=by simp[recBody]
   have hb:=recBody_len g n (d:=d) (by omega)
   have hb8:=recBody_B8 g n (d:=d) (by omega) hd
   simp only[l1,l2,w4,m1,m2,m3,decide_true,cond_true,and_self,Int.toNat_natCast,e1,sums_eq _ hb8 (by omega),Option.bind_some,hb,sum4_len]
   have m4:(251+4)*(1+1)≤most:=by unfold most;decide
   have m5:((recBody g n d++sum4 (recBody g n d)).length+([0]:List Int).length)*(1+1)≤most:=by rw[List.length_append,hb,sum4_len];unfold most;decide
   simp only[m4,m5,decide_true,cond_true,recB,List.append_assoc,if_false,if_true]
theorem refCheck (g n:Int) (d:List Int):F_batonref22_Check (g,n,d)=some (recErr g n d):=by
 unfold F_batonref22_Check recErr
 have c1:(bif ((decide (g<0))==false) then (bif ((decide (g>72057594037927935))==false) then (bif ((decide (n<0))==false) then (some (decide (n>72057594037927935))) else (some true)) else (some true)) else (some true))=some (decide (g<0∨g≥72057594037927936∨n<0∨n≥72057594037927936)):=by
  by_cases a:g<0<;>by_cases b:g>72057594037927935<;>by_cases c:n<0<;>by_cases d:n>72057594037927935<;>simp[a,b,c,d]<;>omega
 simp only[c1,Option.bind_some]
 by_cases h1:g<0∨g≥72057594037927936∨n<0∨n≥72057594037927936
 ·simp only[h1,decide_true,cond_true,if_true]
 ·simp only[h1,decide_false,cond_false,if_false]
  by_cases h2:d.length>234
  ·have h2':(((d.length:Nat):Int)>234):=by omega
   simp only[h2',decide_true,cond_true,if_pos h2]
  ·have h2':¬(((d.length:Nat):Int)>234):=by omega
   simp only[h2',decide_false,cond_false,if_neg h2]
theorem fillLoop {X:Type} (m:Nat) {F:List Int→Option (List Int⊕X)} {fin:List Int→X} (h1:∀l,l.length<m→F l=some (.inl (l++[0]))) (h2:∀l,l.length=m→F l=some (.inr (fin l))) (l:List Int) (h:l.length≤m):iterL F l=some (fin (l++List.replicate (m-l.length) 0)):=by
 have key:∀k l,l.length+k=m→iterL F l=some (fin (l++List.replicate k 0)):=by
  intro k
  induction k with
  |zero=>intro l hl;rw[iterL_inr (h2 l hl)];simp
  |succ k ih=>
   intro l hl
   rw[iterL_inl (h1 l (by omega)),ih _ (by simp;omega),List.replicate_succ,List.append_assoc,List.singleton_append]
 exact key _ l (by omega)
theorem refMake (g n:Int) (d:List Int) (hd:B8 d) (h:recErr g n d=0):F_batonref22_Make (g,n,d)=some (recB g n d):=by
 obtain⟨h1,h2,h3,h4,h5⟩:=recErr_zero.1 h
 unfold F_batonref22_Make
 have w3:IntKind.wrap .u8 ((d.length:Nat):Int)=((d.length:Nat):Int):=by rw[wu8'];omega
 simp only[eight_eq g h1 (by omega),eight_eq n h3 (by omega),Option.bind_some,w3]
 have l1:(beP 8 g++beP 8 n).length=16:=by simp[beP_len]
 have l2:(beP 8 g++beP 8 n++[((d.length:Nat):Int)]).length=17:=by simp[beP_len]
 have m1:((beP 8 g).length+(beP 8 n).length)*(1+1)≤most:=by rw[beP_len,beP_len];unfold most;decide
 have m2:(16+([((d.length:Nat):Int)]:List Int).length)*(1+1)≤most:=by unfold most;simp
 have m3:(17+d.length)*(1+1)≤most:=by unfold most;omega
 simp only[l1,l2,m1,m2,m3,decide_true,cond_true]
 have l3:(beP 8 g++beP 8 n++[((d.length:Nat):Int)]++d).length=17+d.length:=by rw[List.length_append,l2]
 rw[fillLoop 251 (fin:=fun l=>(l,false)) (fun l hl=>?_) (fun l hl=>?_) _ (by omega)]
 ·have e1:beP 8 g++beP 8 n++[((d.length:Nat):Int)]++d++List.replicate (251-(beP 8 g++beP 8 n++[((d.length:Nat):Int)]++d).length) 0=recBody g n d:=by
   rw[l3,show 251-(17+d.length)=234-d.length by omega];simp[recBody]
  have hb:=recBody_len g n h5
  simp only[e1,Option.bind_some,refSum _ (recBody_B8 g n h5 hd) (by omega),hb,sum4_len]
  have m4:(251+4)*(1+1)≤most:=by unfold most;decide
  have m5:((recBody g n d++sum4 (recBody g n d)).length+([0]:List Int).length)*(1+1)≤most:=by rw[List.length_append,hb,sum4_len];unfold most;decide
  simp only[m4,m5,decide_true,cond_true,recB,List.append_assoc]
 ·have a:(((l.length):Nat):Int)<251:=by omega
  have m:(l.length+([0]:List Int).length)*(1+1)≤most:=by unfold most;simp;omega
  simp only[a,m,decide_true,cond_true]
 ·have a:¬((((l.length):Nat):Int)<251):=by omega
  simp only[a,decide_false,cond_false]
end Go.Ideal.Seat
set_option linter.unusedVariables false
set_option linter.unusedSimpArgs false
namespace Go.Ideal.Seat
open Go.Ideal.Plain
abbrev Rec:=Int×Int×List Int
def recBad (b:List Int):Prop:=beN (b.take 8)≥72057594037927936∨beN ((b.drop 8).take 8)≥72057594037927936∨b.getD 16 0>234∨((b.drop (17+(b.getD 16 0).toNat)).take (234-(b.getD 16 0).toNat)).all (· ==0)=false
noncomputable def recR (b:List Int):Rec×Int:=open Classical in
 if b.length≠256 then ((0,0,[]),22) else if b.getD 255 0=0 then ((0,0,[]),3) else if b.getD 255 0>1 then ((0,0,[]),6)
 else if sum4 (b.take 251)≠(b.drop 251).take 4 then ((0,0,[]),21) else if recBad b then ((0,0,[]),6)
 else ((beN (b.take 8),beN ((b.drop 8).take 8),(b.drop 17).take (b.getD 16 0).toNat),0)
theorem getD_some {b:List Int} {i:Nat} (h:i<b.length):b[i]? = some (b.getD i 0):=by
 rw[List.getElem?_eq_getElem h,List.getD_eq_getElem?_getD,List.getElem?_eq_getElem h];rfl
theorem getD_B8 {b:List Int} (hb:B8 b) (i:Nat):0≤b.getD i 0∧b.getD i 0<256:=by
 by_cases h:i<b.length
 ·exact hb _ (List.mem_of_getElem? (getD_some h))
 ·rw[List.getD_eq_getElem?_getD,List.getElem?_eq_none (by omega)];exact⟨by decide,by decide⟩
theorem all0 (l:List Int):(l.findIdx? fun x=>x != 0)=none↔l.all (· ==0)=true:=by
 rw[findIdx_none,List.all_eq_true]
 constructor
 ·intro h x hx;simpa using h x hx
 ·intro h x hx;simpa using h x hx
theorem recRead_eq (b:List Int) (hb:B8 b) (hlen:b.length≤2^36):O_record_Read b=some (recR b):=by
 classical
 unfold O_record_Read recR
 by_cases h0:b.length=256
 rotate_left
 ·have:((((b.length):Nat):Int) != 256)=true:=by simp;omega
  simp only[this,cond_true,ne_eq,h0,not_false_eq_true,if_true]
 have e0:((((256):Nat):Int) != 256)=false:=rfl
 have g255:b[255]? = some (b.getD 255 0):=getD_some (by omega)
 have g16:b[16]? = some (b.getD 16 0):=getD_some (by omega)
 have k16:=getD_B8 hb 16
 simp only[e0,cond_false,g255,g16,Option.bind_some,ne_eq,h0,not_true_eq_false,if_false]
 by_cases h1:b.getD 255 0=0
 ·simp only[h1,beq_self_eq_true,cond_true,if_true]
 have e1:(b.getD 255 0==0)=false:=by simpa using h1
 simp only[e1,cond_false,h1,if_false]
 by_cases h2:b.getD 255 0>1
 ·simp only[h2,decide_true,cond_true,if_true]
 simp only[h2,decide_false,cond_false,if_false]
 have d1:(0≤251∧251≤256):=by decide
 have d2:(251≤255∧255≤256):=by decide
 have d3:(0≤8∧8≤256):=by decide
 have d4:(8≤16∧16≤256):=by decide
 have t251:(b.take 251).length=251:=by simp[h0]
 simp only[d1,d2,d3,d4,and_self,decide_true,cond_true,List.drop_zero,Nat.sub_zero,Nat.reduceSub,sums_eq _ (hb.take 251) (by omega),Option.bind_some,bequal (sum4 (b.take 251)) _ (by rw[sum4_len];omega)]
 by_cases h3:sum4 (b.take 251)=(b.drop 251).take 4
 rotate_left
 ·simp only[h3,decide_false,Bool.not_false,cond_true,not_false_eq_true,if_true]
 simp only[h3,decide_true,Bool.not_true,cond_false,not_true_eq_false,if_false]
 have la:(b.take 8).length=8:=by simp[h0]
 have lb:((b.drop 8).take 8).length=8:=by simp[h0]
 have w1:IntKind.wrap .i64 (b.getD 16 0)=b.getD 16 0:=w64 (by omega) (by omega)
 simp only[getW (b.take 8) (hb.take 8) (by omega) (by omega),getW ((b.drop 8).take 8) ((hb.drop 8).take 8) (by omega) (by omega),Option.bind_some,w1]
 obtain⟨k,hk⟩:=Int.eq_ofNat_of_zero_le k16.1
 have w2:IntKind.wrap .i64 (17+((k:Nat):Int))=((17+k:Nat):Int):=by rw[w64 (by omega) (by omega)];omega
 simp only[hk,w2,Int.toNat_natCast]
 have bn1:=(beN_lt _ (hb.take 8)).1
 have bn2:=(beN_lt _ ((hb.drop 8).take 8)).1
 by_cases hk2:k≤234
 rotate_left
 ·have q:(bif decide (((k:Nat):Int)>234)==false then (bif decide (0≤((17+k:Nat):Int)) then (none:Option Bool) else none) else some true)=some true:=by
   have:((k:Nat):Int)>234:=by omega
   simp only[this,decide_true];rfl
  have hbad:recBad b:=by unfold recBad;rw[hk];omega
  have q2:(((k:Nat):Int)>234):=by omega
  simp only[hbad,if_true]
  simp only[q2,decide_true,show (true==false)=false from rfl,cond_false]
  have q3:∀(c1 c2:Bool),(bif (c1==false) then (bif (c2==false) then (some true) else (some true)) else (some true))=some true:=by decide
  rw[q3];rfl
 have q2:¬(((k:Nat):Int)>234):=by omega
 have q4:17+k≤251∧251≤256:=by omega
 have lz:(((b.drop (17+k)).take (251-(17+k))).length)=251-(17+k):=by simp[h0];omega
 have loop:(iterL (S:=Int) (X:=(Int)⊕(Int×Bool)) (fun s99=>(bif (decide (s99<(((((b.drop (17+k)).take (251-(17+k))).length):Nat):Int))) then (bif decide (0≤s99) then ((((b.drop (17+k)).take (251-(17+k)))[(s99).toNat]?).bind fun e100=>((F_record_Read_1 e100).bind fun r101=>(bif r101 then (some (Sum.inr (Sum.inl s99))) else (some (Sum.inl (IntKind.wrap .i64 (s99+1))))))) else none) else (some (Sum.inr (Sum.inr (s99,(decide (s99<(((((b.drop (17+k)).take (251-(17+k))).length):Nat):Int))))))))) 0)=some (match ((b.drop (17+k)).take (251-(17+k))).findIdx? (fun x=>x != 0)with|some i=>.inl (i:Int)|none=>.inr (((((b.drop (17+k)).take (251-(17+k))).length:Nat):Int),false)):=by
  refine findLoop (fun x=>x != 0) (fun i e he=>?_) (by simp)
  have hi:=getE_bound he
  have hi':(i:Int)<((((b.drop (17+k)).take (251-(17+k))).length:Nat):Int):=by omega
  simp only[hi',decide_true,cond_true,Int.natCast_nonneg,Int.toNat_natCast,he,Option.bind_some,F_record_Read_1,wsucc (show i<2^62 by omega)]
  by_cases hz:(e != 0)=true
  ·simp only[hz,cond_true,if_true]
  ·simp only[(Bool.not_eq_true _).mp hz,cond_false];rfl
 simp only[q2,q4,decide_false,decide_true,beq_self_eq_true,cond_true,Int.natCast_nonneg,and_self,loop,Option.bind_some]
 have hz:((b.drop (17+k)).take (251-(17+k)))=((b.drop (17+k)).take (234-k)):=by rw[show 251-(17+k)=234-k by omega]
 have fin:∀{α:Type} (v:α),(match (((b.drop (17+k)).take (251-(17+k))).findIdx? (fun x=>x != 0):Option Nat)with|some i=>(Sum.inl (i:Int):Int⊕(Int×Bool))|none=>.inr (((((b.drop (17+k)).take (251-(17+k))).length:Nat):Int),false))=if ((b.drop (17+k)).take (234-k)).all (· ==0)=true then .inr (((((b.drop (17+k)).take (251-(17+k))).length:Nat):Int),false) else .inl (((((b.drop (17+k)).take (251-(17+k))).findIdx? (fun x=>x != 0)).getD 0:Nat):Int):=by
  intro _ _
  by_cases ha:((b.drop (17+k)).take (234-k)).all (· ==0)=true
  ·rw[if_pos ha,←hz]at *
   rw[(all0 _).2 (by rw[hz];exact ha)]
  ·rw[if_neg ha]
   cases hf:((b.drop (17+k)).take (251-(17+k))).findIdx? (fun x=>x != 0) with
   |none=>rw[all0,hz]at hf;exact(ha hf).elim
   |some i=>rfl
 rw[fin ()]
 have hc:(17≤17+k∧17+k≤256):=by omega
 have hcl:O_slices_Clone_byte_byte ((b.drop 17).take (17+k-17))=some ((b.drop 17).take k):=by rw[show 17+k-17=k by omega];exact cloneB _ (by simp;omega)
 simp only[hc,decide_true,cond_true,and_self,hcl,Option.bind_some]
 by_cases ha:((b.drop (17+k)).take (234-k)).all (· ==0)=true
 ·rw[if_pos ha]
  by_cases p1:beN (b.take 8)≥72057594037927936
  ·have hbad:recBad b:=by unfold recBad;omega
   simp only[p1,hbad,decide_true,if_true];rfl
  ·by_cases p2:beN ((b.drop 8).take 8)≥72057594037927936
   ·have hbad:recBad b:=by unfold recBad;omega
    simp only[p1,p2,hbad,decide_true,decide_false,if_true];rfl
   ·have hbad:¬recBad b:=by unfold recBad;rw[hk];simp only[Int.toNat_natCast,ha];simp;omega
    simp only[p1,p2,hbad,decide_false,beq_self_eq_true,cond_true,if_false,Option.bind_some,show decide ((-1:Int)≥0)=false from rfl,cond_false]
    rw[w64 (by omega) (by omega),w64 (by omega) (by omega)]
 ·rw[if_neg ha]
  have hbad:recBad b:=by unfold recBad;rw[hk];simp only[Int.toNat_natCast];exact .inr (.inr (.inr ((Bool.not_eq_true _).mp ha)))
  have pos:decide (((((((b.drop (17+k)).take (251-(17+k))).findIdx? (fun x=>x != 0)).getD 0:Nat):Int))≥0)=true:=decide_eq_true (Int.natCast_nonneg _)
  simp only[hbad,if_true,pos]
  have q3:∀(c1 c2:Bool),(bif (c1==false) then (bif (c2==false) then (some true) else (some true)) else (some true))=some true:=by decide
  rw[q3];rfl
end Go.Ideal.Seat
set_option linter.unusedVariables false
set_option linter.unusedSimpArgs false
namespace Go.Ideal.Seat
open Go.Ideal.Plain
theorem beN_cons (x:Int) (l:List Int):beN (x::l)=x*256^l.length+beN l:=by
 have key:∀(l:List Int) (a:Int),l.foldl (fun n x=>n*256+x) a=a*256^l.length+beN l:=by
  refine snocInd ?_ ?_
  ·intro a;simp[beN]
  ·intro l y ih a
   rw[List.foldl_append,ih,beN_snoc,List.length_append,List.length_singleton,Int.pow_succ]
   simp only[List.foldl_cons,List.foldl_nil]
   rw[Int.add_mul,Int.mul_assoc];omega
 have:beN (x::l)=l.foldl (fun n x=>n*256+x) (0*256+x):=rfl
 rw[this,key];simp
theorem beN_first {l:List Int} (h:B8 l) (hl:l.length=8):beN l≥72057594037927936↔l.getD 0 0≠0:=by
 match l,hl with
 |x::r,hl=>
  have hr:r.length=7:=by simpa using hl
  have hx:=h x (by simp)
  have hlt:=beN_lt r (fun y hy=>h y (by simp[hy]))
  rw[hr,show (256:Int)^7=72057594037927936 by decide]at hlt
  rw[beN_cons,hr,show (256:Int)^7=72057594037927936 by decide]
  simp only[List.getD_cons_zero]
  omega
theorem take_getD {b:List Int} {i n:Nat} (h:i<n):(b.take n).getD i 0=b.getD i 0:=by
 simp only[List.getD_eq_getElem?_getD,List.getElem?_take,h,if_true]
theorem drop_getD {b:List Int} {i n:Nat}:(b.drop n).getD i 0=b.getD (n+i) 0:=by
 simp only[List.getD_eq_getElem?_getD,List.getElem?_drop]
theorem block_parts {b:List Int} (h:b.length=256) {k:Nat} (hk:k≤234):b.take 251=b.take 8++((b.drop 8).take 8++([b.getD 16 0]++((b.drop 17).take k++(b.drop (17+k)).take (234-k)))):=by
 have e1:b.take 251=b.take 8++(b.drop 8).take 243:=by rw[←List.take_add]
 have e2:(b.drop 8).take 243=(b.drop 8).take 8++(b.drop 16).take 235:=by
  have:=List.take_add (l:=b.drop 8) (i:=8) (j:=235)
  rw[List.drop_drop]at this;exact this
 have e3:(b.drop 16).take 235=[b.getD 16 0]++(b.drop 17).take 234:=by
  have hlt:16<b.length:=by omega
  rw[List.drop_eq_getElem_cons hlt,List.take_succ_cons,List.getD_eq_getElem?_getD,List.getElem?_eq_getElem hlt];rfl
 have e4:(b.drop 17).take 234=(b.drop 17).take k++(b.drop (17+k)).take (234-k):=by
  have:=List.take_add (l:=b.drop 17) (i:=k) (j:=234-k)
  rw[List.drop_drop,show k+(234-k)=234 by omega]at this;exact this
 rw[e1,e2,e3,e4]
theorem all0_rep {l:List Int}:l.all (· ==0)=true↔l=List.replicate l.length 0:=by
 rw[List.all_eq_true,List.eq_replicate_iff]
 simp
theorem body_eq {b:List Int} (h:b.length=256) (hb:B8 b) {k:Nat} (hk:k≤234) (h16:b.getD 16 0=(k:Int)):
 recBody (beN (b.take 8)) (beN ((b.drop 8).take 8)) ((b.drop 17).take k)=b.take 251↔((b.drop (17+k)).take (234-k)).all (· ==0)=true:=by
 have la:(b.take 8).length=8:=by simp[h]
 have lb:((b.drop 8).take 8).length=8:=by simp[h]
 have lk:((b.drop 17).take k).length=k:=by simp[h];omega
 have lz:((b.drop (17+k)).take (234-k)).length=234-k:=by simp[h];omega
 have p1:=beP_beN _ (hb.take 8)
 have p2:=beP_beN _ ((hb.drop 8).take 8)
 rw[la]at p1;rw[lb]at p2
 rw[block_parts h hk,recBody,p1,p2,lk,h16,all0_rep,lz]
 simp only[List.append_cancel_left_eq]
 exact eq_comm
theorem refRead22 (b:List Int) (hb:B8 b) (hlen:b.length≤2^36):F_batonref22_Read b=some (recR b):=by
 classical
 unfold F_batonref22_Read recR
 by_cases h0:b.length=256
 rotate_left
 ·have:((((b.length):Nat):Int) != 256)=true:=by simp;omega
  simp only[this,cond_true,ne_eq,h0,not_false_eq_true,if_true]
 have e0:((((256):Nat):Int) != 256)=false:=rfl
 have g255:b[255]? = some (b.getD 255 0):=getD_some (by omega)
 have g16:b[16]? = some (b.getD 16 0):=getD_some (by omega)
 have g0:b[0]? = some (b.getD 0 0):=getD_some (by omega)
 have g8:b[8]? = some (b.getD 8 0):=getD_some (by omega)
 have k16:=getD_B8 hb 16
 simp only[h0,e0,cond_false,g255,g16,g0,g8,Option.bind_some,ne_eq,not_true_eq_false,if_false]
 by_cases h1:b.getD 255 0=0
 ·simp only[h1,beq_self_eq_true,cond_true,if_true]
 have e1:(b.getD 255 0==0)=false:=by simpa using h1
 simp only[e1,cond_false,h1,if_false]
 by_cases h2:b.getD 255 0>1
 ·simp only[h2,decide_true,cond_true,if_true]
 simp only[h2,decide_false,cond_false,if_false]
 have d1:(0≤251∧251≤256):=by decide
 have d2:(251≤255∧255≤256):=by decide
 have d3:(0≤8∧8≤256):=by decide
 have d4:(8≤16∧16≤256):=by decide
 have d5:(0≤255∧255≤256):=by decide
 have t251:(b.take 251).length=251:=by simp[h0]
 simp only[d1,d2,d3,d4,d5,and_self,decide_true,cond_true,List.drop_zero,Nat.sub_zero,Nat.reduceSub,refSum _ (hb.take 251) (by omega),Option.bind_some,bsame (sum4 (b.take 251)) _ (by rw[sum4_len];omega)]
 by_cases h3:sum4 (b.take 251)=(b.drop 251).take 4
 rotate_left
 ·simp only[h3,decide_false,Bool.not_false,cond_true,not_false_eq_true,if_true]
 simp only[h3,decide_true,Bool.not_true,cond_false,not_true_eq_false,if_false]
 have la:(b.take 8).length=8:=by simp[h0]
 have lb:((b.drop 8).take 8).length=8:=by simp[h0]
 have q1:=beN_first (hb.take 8) la
 have q2:=beN_first ((hb.drop 8).take 8) lb
 rw[take_getD (by decide)]at q1
 rw[take_getD (by decide),drop_getD,Nat.add_zero]at q2
 obtain⟨k,hk⟩:=Int.eq_ofNat_of_zero_le k16.1
 have w1:IntKind.wrap .i64 ((k:Nat):Int)=(k:Int):=w64 (by omega) (by omega)
 have w2:IntKind.wrap .i64 (17+((k:Nat):Int))=((17+k:Nat):Int):=by rw[w64 (by omega) (by omega)];omega
 have bn1:=(beN_lt _ (hb.take 8)).1
 have bn2:=(beN_lt _ ((hb.drop 8).take 8)).1
 have c1:∀x y z:Int,(bif ((x != 0)==false) then (bif ((y != 0)==false) then (some (decide (z>234))) else (some true)) else (some true))=some (decide (x≠0∨y≠0∨z>234)):=by
  intro x y z
  by_cases a:x=0
  ·subst a
   by_cases c:y=0
   ·subst c;simp
   ·have:(y != 0)=true:=by simpa using c
    simp[c,this]
  ·have:(x != 0)=true:=by simpa using a
   simp[a,this]
 simp only[c1,Option.bind_some]
 by_cases p:b.getD 0 0≠0∨b.getD 8 0≠0∨b.getD 16 0>234
 ·have hbad:recBad b:=by
   rcases p with h|h|h
   ·exact .inl (q1.2 h)
   ·exact .inr (.inl (q2.2 h))
   ·exact .inr (.inr (.inl h))
  simp only[p,decide_true,cond_true,hbad,if_true]
 have hk2:k≤234:=by omega
 simp only[p,decide_false,cond_false]
 simp only[refGet (b.take 8) (hb.take 8) (by omega),refGet ((b.drop 8).take 8) ((hb.drop 8).take 8) (by omega),Option.bind_some,hk,w1,w2,Int.toNat_natCast,Int.natCast_nonneg,decide_true,cond_true]
 have hc:(17≤17+k∧17+k≤256):=by omega
 have e17:17+k-17=k:=by omega
 have lk:((b.drop 17).take k).length=k:=by simp[h0];omega
 have m1:(([]:List Int).length+k)*(1+1)≤most:=by unfold most;simp;omega
 have w3:IntKind.wrap .i64 (beN (b.take 8))=beN (b.take 8):=w64 (by omega) (by omega)
 have w4:IntKind.wrap .i64 (beN ((b.drop 8).take 8))=beN ((b.drop 8).take 8):=w64 (by omega) (by omega)
 have ok:recErr (beN (b.take 8)) (beN ((b.drop 8).take 8)) ((b.drop 17).take k)=0:=recErr_zero.2 (by rw[lk];omega)
 have hB:B8 ((b.drop 17).take k):=(hb.drop 17).take k
 have lr:=recB_len (beN (b.take 8)) (beN ((b.drop 8).take 8)) (d:=(b.drop 17).take k) (by rw[lk];exact hk2)
 have lbd:=recBody_len (beN (b.take 8)) (beN ((b.drop 8).take 8)) (d:=(b.drop 17).take k) (by rw[lk];exact hk2)
 simp only[hc,decide_true,cond_true,and_self,e17,lk,m1,List.nil_append,w3,w4,refMake _ _ _ hB ok,Option.bind_some,lr,d5,h0,bsame _ (b.take 255) (show ((recB (beN (b.take 8)) (beN ((b.drop 8).take 8)) ((b.drop 17).take k)).take 255).length<2^60 by rw[List.length_take,lr];omega)]
 have t1:(recB (beN (b.take 8)) (beN ((b.drop 8).take 8)) ((b.drop 17).take k)).take 255=recBody (beN (b.take 8)) (beN ((b.drop 8).take 8)) ((b.drop 17).take k)++sum4 (recBody (beN (b.take 8)) (beN ((b.drop 8).take 8)) ((b.drop 17).take k)):=by
  rw[recB,←List.append_assoc,List.take_append_of_le_length (by rw[List.length_append,lbd,sum4_len];omega)]
  rw[List.take_of_length_le (by rw[List.length_append,lbd,sum4_len];omega)]
 have t2:b.take 255=b.take 251++(b.drop 251).take 4:=by rw[←List.take_add]
 have bad:recBad b↔¬(recB (beN (b.take 8)) (beN ((b.drop 8).take 8)) ((b.drop 17).take k)).take 255=b.take 255:=by
  rw[t1,t2]
  have hbe:=body_eq h0 hb hk2 hk
  constructor
  ·intro hbad heq
   have:=List.append_inj_left heq (by rw[lbd,t251])
   have hz:=hbe.1 this
   unfold recBad at hbad
   rw[hk]at hbad
   simp only[Int.toNat_natCast,hz]at hbad
   simp at hbad
   omega
  ·intro hne
   by_cases hz:((b.drop (17+k)).take (234-k)).all (· ==0)=true
   ·have:=hbe.2 hz
    rw[this,h3]at hne
    exact(hne rfl).elim
   ·unfold recBad;rw[hk];simp only[Int.toNat_natCast];exact .inr (.inr (.inr ((Bool.not_eq_true _).mp hz)))
 by_cases hbd:recBad b
 ·have:=bad.1 hbd
  simp only[hbd,this,decide_false,Bool.not_false,cond_true,if_true]
 ·have:(recB (beN (b.take 8)) (beN ((b.drop 8).take 8)) ((b.drop 17).take k)).take 255=b.take 255:=Classical.not_not.1 (fun h=>hbd (bad.2 h))
  simp only[hbd,this,decide_true,Bool.not_true,cond_false,if_false]
def markB (b:List Int) (is:Bool):List Int:=b.set 255 (if is then 1 else 0)
theorem markB_len (b:List Int) (is:Bool):(markB b is).length=b.length:=by simp[markB]
theorem markB_B8 {b:List Int} (h:B8 b) (is:Bool):B8 (markB b is):=h.set _ (by cases is<;>decide)
theorem marked_eq (b:List Int) (is:Bool) (h:b.length=256):O_record_Marked (b,is)=some (markB b is):=by
 unfold O_record_Marked markB
 have w:IntKind.wrap .i64 (((256:Nat):Int)-1)=((255:Nat):Int):=by decide
 have p:(((256:Nat):Int)>0):=by decide
 have g255:b[255]? = some (b.getD 255 0):=getD_some (by omega)
 have g2:(b.set 255 0)[255]? = some 0:=by rw[List.getElem?_set_self (by omega)]
 simp only[cloneB b (by omega),Option.bind_some,h,p,w,decide_true,cond_true,Int.natCast_nonneg,Int.toNat_natCast,List.length_set,show (255<256) from by decide,g255,g2]
 cases is<;>simp[List.set_set]
theorem recR_made {g n:Int} {d:List Int} (he:recErr g n d=0) (hd:B8 d):recR (markB (recB g n d) true)=((g,n,d),0):=by
 classical
 obtain⟨h1,h2,h3,h4,h5⟩:=recErr_zero.1 he
 have hl:=recB_len g n h5
 have hbl:=recBody_len g n h5
 have b1:(markB (recB g n d) true).getD 255 0=1:=by
  rw[List.getD_eq_getElem?_getD,markB,List.getElem?_set_self (by omega)];rfl
 have b2:(markB (recB g n d) true).take 251=recBody g n d:=by
  rw[markB,List.take_set_of_le (by omega),recB,List.take_append_of_le_length (by omega),List.take_of_length_le (by omega)]
 have b3:((markB (recB g n d) true).drop 251).take 4=sum4 (recBody g n d):=by
  have:(markB (recB g n d) true)=recBody g n d++(sum4 (recBody g n d)++[1]):=by
   rw[markB,recB,←List.append_assoc,←List.append_assoc]
   rw[List.set_append_right _ _ (by rw[List.length_append,hbl,sum4_len];omega),List.length_append,hbl,sum4_len];rfl
  rw[this,List.drop_append_of_le_length (by omega),List.drop_of_length_le (by omega),List.nil_append];rfl
 have bt:∀k,k≤251→(markB (recB g n d) true).take k=(recBody g n d).take k:=fun k hk=>by
  rw[←b2,List.take_take,Nat.min_eq_left hk]
 have g16:(markB (recB g n d) true).getD 16 0=(d.length:Int):=by
  rw[←take_getD (n:=251) (by decide),b2,recBody,List.getD_eq_getElem?_getD,List.getElem?_append_right (by rw[beP_len];omega),beP_len,List.getElem?_append_right (by rw[beP_len];omega),beP_len];rfl
 have hpl:=beP_len 8 g
 have hpn:=beP_len 8 n
 have b8:(markB (recB g n d) true).take 8=beP 8 g:=by
  rw[bt 8 (by omega),recBody,List.take_append_of_le_length (by omega),List.take_of_length_le (by omega)]
 have dt:∀i k,i+k≤251→((markB (recB g n d) true).drop i).take k=((recBody g n d).drop i).take k:=fun i k h=>by
  rw[List.take_drop,List.take_drop,bt _ (by omega)]
 have b16:((markB (recB g n d) true).drop 8).take 8=beP 8 n:=by
  rw[dt _ _ (by omega),recBody,List.drop_append_of_le_length (by omega),List.drop_of_length_le (by omega),List.nil_append,List.take_append_of_le_length (by omega),List.take_of_length_le (by omega)]
 have rest:(recBody g n d).drop 17=d++List.replicate (234-d.length) 0:=by
  have:(recBody g n d)=(beP 8 g++beP 8 n++[(d.length:Int)])++(d++List.replicate (234-d.length) 0):=by simp[recBody]
  rw[this,List.drop_append_of_le_length (by simp[beP_len]),List.drop_of_length_le (by simp[beP_len]),List.nil_append]
 have b17:((markB (recB g n d) true).drop 17).take d.length=d:=by
  rw[dt _ _ (by omega),rest,List.take_append_of_le_length (by omega),List.take_of_length_le (by omega)]
 have bz:(((markB (recB g n d) true).drop (17+d.length)).take (234-d.length)).all (· ==0)=true:=by
  rw[dt _ _ (by omega),←List.drop_drop,rest,List.drop_append_of_le_length (by omega),List.drop_of_length_le (by omega),List.nil_append,List.all_eq_true]
  intro x hx
  rw[List.eq_of_mem_replicate (List.mem_of_mem_take hx)];rfl
 have n1:=beN_beP 8 g h1 (by rw[show (256:Int)^8=18446744073709551616 by decide];omega)
 have n2:=beN_beP 8 n h3 (by rw[show (256:Int)^8=18446744073709551616 by decide];omega)
 have hbad:¬recBad (markB (recB g n d) true):=by
  unfold recBad
  rw[b8,b16,n1,n2,g16,Int.toNat_natCast,bz]
  simp;omega
 unfold recR
 rw[if_neg (by rw[markB_len];omega),if_neg (by rw[b1];decide),if_neg (by rw[b1];decide),if_neg (by rw[b2,b3];simp),if_neg hbad,b8,b16,n1,n2,g16,Int.toNat_natCast,b17]
end Go.Ideal.Seat
set_option linter.unusedVariables false
set_option linter.unusedSimpArgs false
namespace Go.Ideal.Seat
open Go.Ideal.Plain
abbrev Wr:=Int×List Int
abbrev DkT:=List (List Int)×List Wr×List Int×Bool×Int
structure Dsk where
 blocks:List (List Int)
 waits:List Wr
 bad:List Int
 down:Bool
 cut:Option Nat
namespace Dsk
def left:Option Nat→Int
 |none=>-1
 |some k=>(k:Int)
def toD (w:Dsk):List (List Int)×List Wr×List Int×Bool×Int:=(w.blocks,w.waits,w.bad,w.down,left w.cut)
def toR (w:Dsk):List (List Int)×List Wr×List Int×Bool×Bool×Int:=(w.blocks,w.waits,w.bad,w.down,w.cut.isSome,((w.cut.getD 0:Nat):Int))
def there (w:Dsk) (n:Int):Prop:=0≤n∧n<w.blocks.length
instance (w:Dsk) (n:Int):Decidable (w.there n):=by unfold there;exact inferInstance
end Dsk
def lastW (ws:List Wr) (n:Int) (b:List Int):List Int:=ws.foldl (fun b x=>if x.1=n then x.2 else b) b
def layB (bs:List (List Int)) (x:Wr) (k:Nat):List (List Int):=bs.set x.1.toNat (x.2.take k++(bs.getD x.1.toNat []).drop k)
def clampP (p:Int):Int:=if 256<(if 0>p then 0 else p) then 256 else (if 0>p then 0 else p)
namespace Dsk
def lies (w:Dsk) (n:Int):List Int:=if w.there n then w.blocks.getD n.toNat [] else []
def rd (w:Dsk) (n:Int):List Int×Int:=if w.down=true then ([],19) else if ¬w.there n then ([],1) else (lastW w.waits n (w.blocks.getD n.toNat []),0)
def step (w:Dsk):Dsk×Bool:=match w.cut with
 |some 0=>({ w with down:=true },false)
 |some (k+1)=>({ w with cut:=some k },true)
 |none=>(w,true)
def put (w:Dsk) (n:Int) (b:List Int):Dsk×Int:=if w.down=true then (w,19) else if ¬w.there n∨b.length≠256 then (w,1) else if n∈w.bad then (w,17)
 else if w.step.2=true then ({ w.step.1 with waits:=w.step.1.waits++[(n,b)] },0) else (w.step.1,19)
def sync (w:Dsk):Dsk×Int:=if w.down=true then (w,19) else if w.step.2=true then ({ w.step.1 with blocks:=w.waits.foldl (fun bs x=>layB bs x 256) w.blocks,waits:=[] },0) else (w.step.1,19)
def crash (w:Dsk) (picks:List Int):Dsk:={ w with blocks:=(w.waits.zip picks).foldl (fun bs x=>layB bs x.1 (clampP x.2).toNat) w.blocks,waits:=[],down:=false,cut:=none }
def cutAt (w:Dsk) (n:Int):Dsk:={ w with cut:=some n.toNat }
end Dsk
def Blk (bs:List (List Int)):Prop:=∀b∈bs,b.length=256∧B8 b
structure Dsk.Ok (w:Dsk) (m:Nat):Prop where
 few:w.blocks.length≤256
 blk:Blk w.blocks
 wts:∀x∈w.waits,w.there x.1∧x.2.length=256∧B8 x.2
 len:w.waits.length≤m
 bad:w.bad.length≤2^36
 cut:∀k,w.cut=some k→k<9223372036854775808
theorem layB_len (bs:List (List Int)) (x:Wr) (k:Nat):(layB bs x k).length=bs.length:=by simp[layB]
theorem layB_ok {bs:List (List Int)} {x:Wr} {k:Nat} (h:Blk bs) (h1:0≤x.1) (h2:x.1.toNat<bs.length) (h3:x.2.length=256) (h4:B8 x.2) (hk:k≤256):Blk (layB bs x k):=by
 intro b hb
 rcases List.mem_or_eq_of_mem_set hb with h'|rfl
 ·exact h b h'
 ·have e:bs.getD x.1.toNat []=bs[x.1.toNat]:=by rw[List.getD_eq_getElem?_getD,List.getElem?_eq_getElem h2];rfl
  have:=h _ (List.getElem_mem h2)
  rw[e]
  exact⟨by simp[h3,this.1];omega,(h4.take k).app (this.2.drop k)⟩
theorem lastW_ok {ws:List Wr} {n:Int}:∀{b:List Int},(∀x∈ws,x.2.length=256∧B8 x.2)→b.length=256∧B8 b→(lastW ws n b).length=256∧B8 (lastW ws n b):=by
 induction ws with
 |nil=>intro b _ h;exact h
 |cons x r ih=>
  intro b h1 h2
  show (lastW r n (if x.1=n then x.2 else b)).length=256∧_
  refine ih (fun y hy=>h1 y (by simp[hy])) ?_
  split
  ·exact h1 x (by simp)
  ·exact h2
theorem there_iff (w:Dsk) (n:Int):O_disk_Disk_there (w.toD,n)=some (w.toD,decide (w.there n)):=by
 unfold O_disk_Disk_there Dsk.there
 by_cases h:n≥0
 ·simp only[h,decide_true,beq_self_eq_true,cond_true]
  have:(n<(w.toD.1.length:Int))↔(True∧n<(w.blocks.length:Int)):=⟨fun h'=>⟨trivial,h'⟩,fun h=>h.2⟩
  exact congrArg (fun b=>some (w.toD,b)) (decide_eq_decide.2 this)
 ·have:¬(0≤n∧n<(w.blocks.length:Int)):=by omega
  simp only[h,this,decide_false];rfl
theorem refThere (w:Dsk) (n:Int):F_batonref21_There (w.toR,n)=some (decide (w.there n)):=by
 unfold F_batonref21_There Dsk.there
 by_cases h:n≥0
 ·simp only[h,decide_true,beq_self_eq_true,cond_true]
  have:(n<(w.toR.1.length:Int))↔(True∧n<(w.blocks.length:Int)):=⟨fun h'=>⟨trivial,h'⟩,fun h=>h.2⟩
  exact congrArg some (decide_eq_decide.2 this)
 ·have:¬(0≤n∧n<(w.blocks.length:Int)):=by omega
  simp only[h,this,decide_false];rfl
theorem there_get {w:Dsk} {n:Int} (h:w.there n):n.toNat<w.blocks.length∧w.blocks[n.toNat]? = some (w.blocks.getD n.toNat []):=by
 have h1:n.toNat<w.blocks.length:=by obtain⟨a,b⟩:=h;omega
 exact⟨h1,by rw[List.getD_eq_getElem?_getD,List.getElem?_eq_getElem h1];rfl⟩
theorem blk_get {w:Dsk} {m:Nat} (ok:w.Ok m) {n:Int} (h:w.there n):(w.blocks.getD n.toNat []).length=256∧B8 (w.blocks.getD n.toNat []):=
 ok.blk _ (List.mem_of_getElem? (there_get h).2)
theorem lies_eq {w:Dsk} {m:Nat} (ok:w.Ok m) (n:Int):O_disk_Disk_Lies (w.toD,n)=some (w.toD,w.lies n):=by
 unfold O_disk_Disk_Lies
 rw[there_iff]
 by_cases h:w.there n
 ·obtain⟨h1,h2⟩:=there_get h
  have hb:=blk_get ok h
  have c1:0≤n:=h.1
  have c2:n.toNat<w.toD.1.length:=h1
  have c3:w.toD.1[n.toNat]? = some (w.blocks.getD n.toNat []):=h2
  have c4:w.toD.1.set n.toNat (w.blocks.getD n.toNat [])=w.toD.1:=by
   have e:w.blocks.getD n.toNat []=w.blocks[n.toNat]:=by rw[List.getD_eq_getElem?_getD,List.getElem?_eq_getElem h1];rfl
   rw[e];exact List.set_getElem_self h1
  simp only[Option.bind_some,h,decide_true,Bool.not_true,cond_false,cond_true,c1,c2,c3,cloneB _ (by omega:(w.blocks.getD n.toNat []).length≤2^36),c4,Dsk.lies,if_true]
 ·simp only[Option.bind_some,h,decide_false,Bool.not_false,cond_true,Dsk.lies,if_false]
theorem backLoop {X Y:Type} {ws:List Wr} {n:Int} {F:Int→Option (Int⊕(X⊕Y))} {g:List Int→X} {z:Y} (h1:∀(i:Nat) e,ws[i]? = some e→F (i:Int)=some (if e.1=n then .inr (.inl (g e.2)) else .inl ((i:Int)-1)))
 (h2:F (-1)=some (.inr (.inr z))):∀k,k≤ws.length→(iterL F ((k:Int)-1)=some (.inr z)∧∀b,lastW (ws.take k) n b=b)∨∃r,iterL F ((k:Int)-1)=some (.inl (g r))∧∀b,lastW (ws.take k) n b=r:=by
 intro k
 induction k with
 |zero=>intro _;exact .inl ⟨by rw[show ((0:Nat):Int)-1 = -1 by decide,iterL_inr h2],fun b=>by rw[List.take_zero];rfl⟩
 |succ k ih=>
  intro hk
  have hlt:k<ws.length:=by omega
  have e:=h1 k _ (List.getElem?_eq_getElem hlt)
  have ht:∀b,lastW (ws.take (k+1)) n b=if ws[k].1=n then ws[k].2 else lastW (ws.take k) n b:=fun b=>by
   rw[←List.take_append_getElem hlt,lastW,List.foldl_append];rfl
  rw[show ((k+1:Nat):Int)-1=(k:Int) by omega]
  by_cases hn:ws[k].1=n
  ·rw[if_pos hn]at e
   exact .inr ⟨ws[k].2,by rw[iterL_inr e],fun b=>by rw[ht,if_pos hn]⟩
  ·rw[if_neg hn]at e
   rw[iterL_inl e]
   rcases ih (by omega)with ⟨a,b⟩|⟨r,a,b⟩
   ·exact .inl ⟨a,fun b'=>by rw[ht,if_neg hn,b]⟩
   ·exact .inr ⟨r,a,fun b'=>by rw[ht,if_neg hn,b]⟩
theorem rd_eq {w:Dsk} {m:Nat} (ok:w.Ok m) (hm:m≤2^30) (n:Int):O_disk_Disk_Read (w.toD,n)=some (w.toD,w.rd n):=by
 unfold O_disk_Disk_Read Dsk.rd
 cases hd:w.down with
 |true=>
  have:w.toD.2.2.2.1=true:=hd
  simp only[this,cond_true,if_true]
 |false=>
  have hdd:w.toD.2.2.2.1=false:=hd
  simp only[hdd,cond_false,Bool.false_eq_true,if_false]
  rw[there_iff]
  simp only[Option.bind_some]
  by_cases h:w.there n
  ·simp only[h,decide_true,Bool.not_true,cond_false,not_true_eq_false,if_false]
   have hl:=ok.len
   have w1:IntKind.wrap .i64 (((w.toD.2.1.length:Nat):Int)-1)=((w.waits.length:Nat):Int)-1:=by
    have:w.toD.2.1.length=w.waits.length:=rfl
    rw[this,w64 (by omega) (by omega)]
   rw[w1]
   have key:=backLoop (X:=List Int×Int) (ws:=w.waits) (n:=n) (g:=fun r=>(r,0)) (z:=((-1:Int),false)) (F:=(fun s47=>(bif (decide (s47≥0)) then (bif decide (0≤s47) then (bif decide ((s47).toNat<w.toD.2.1.length) then ((w.toD.2.1[(s47).toNat]?).bind fun e48=>(bif (e48.1==n) then (bif decide (0≤s47) then (bif decide ((s47).toNat<w.toD.2.1.length) then ((w.toD.2.1[(s47).toNat]?).bind fun e49=>((O_slices_Clone_byte_byte e49.2).bind fun r50=>(some (Sum.inr (Sum.inl (r50,0)))))) else none) else none) else (some (Sum.inl (IntKind.wrap .i64 (s47-1)))))) else none) else none) else (some (Sum.inr (Sum.inr (s47,(decide (s47≥0))))))))) (fun i e he=>?_) (by rfl) w.waits.length (Nat.le_refl _)
   ·rw[List.take_length]at key
    rcases key with ⟨a,b⟩|⟨r,a,b⟩
    ·rw[a,b]
     simp only[Option.bind_some,lies_eq ok,Dsk.lies,if_pos h]
    ·rw[a,b]
     simp only[Option.bind_some]
   ·have hi:=getE_bound he
    have c1:(i:Int)≥0:=by omega
    have c2:(i<w.toD.2.1.length):=hi
    have c3:w.toD.2.1[i]? = some e:=he
    have hx:=ok.wts e (List.mem_of_getElem? he)
    simp only[c1,c2,c3,decide_true,cond_true,Int.toNat_natCast,Option.bind_some,cloneB e.2 (by omega)]
    by_cases hn:e.1=n
    ·simp only[hn,beq_self_eq_true,cond_true,if_true]
    ·have:(e.1==n)=false:=by simpa using hn
     simp only[this,cond_false,hn,if_false,w64 (show -9223372036854775808≤(i:Int)-1 by omega) (by omega)]
  ·simp only[h,decide_false,Bool.not_false,cond_true,not_false_eq_true,if_true]
theorem refRd {w:Dsk} {m:Nat} (ok:w.Ok m) (hm:m≤2^30) (n:Int):O_batonref21_Read (w.toR,n)=some (w.rd n):=by
 unfold O_batonref21_Read Dsk.rd
 cases hd:w.down with
 |true=>
  have:w.toR.2.2.2.1=true:=hd
  simp only[this,cond_true,if_true]
 |false=>
  have hdd:w.toR.2.2.2.1=false:=hd
  simp only[hdd,cond_false,Bool.false_eq_true,if_false]
  rw[refThere]
  simp only[Option.bind_some]
  by_cases h:w.there n
  ·obtain⟨h1,h2⟩:=there_get h
   have c1:0≤n:=h.1
   have c3:w.toR.1[n.toNat]? = some (w.blocks.getD n.toNat []):=h2
   have hl:=ok.len
   simp only[h,decide_true,Bool.not_true,cond_false,cond_true,not_true_eq_false,if_false,c1,c3,Option.bind_some]
   rw[foldLoop (l:=w.waits) (fun(a:List Int) i=>(a,i)) (fun b x=>if x.1=n then x.2 else b) (fun _ _=>True) (fin:=fun a=>a) trivial (fun a i e he hi _=>⟨?_,trivial⟩) (fun a _=>?_)]
   ·rfl
   ·have c4:(i:Int)<(w.toR.2.1.length:Int):=by have:w.toR.2.1.length=w.waits.length:=rfl;omega
    have c5:w.toR.2.1[i]? = some e:=he
    simp only[c4,decide_true,cond_true,Int.natCast_nonneg,Int.toNat_natCast,c5,Option.bind_some,wsucc (show i<2^62 by omega)]
    by_cases hn:e.1=n
    ·simp only[hn,beq_self_eq_true,cond_true,if_true,Option.bind_some]
    ·have:(e.1==n)=false:=by simpa using hn
     simp only[this,cond_false,hn,if_false,Option.bind_some]
   ·have:¬((w.waits.length:Int)<(w.toR.2.1.length:Int)):=by have:w.toR.2.1.length=w.waits.length:=rfl;omega
    simp only[this,decide_false,cond_false]
  ·simp only[h,decide_false,Bool.not_false,cond_true,not_false_eq_true,if_true]
end Go.Ideal.Seat
set_option linter.unusedVariables false
set_option linter.unusedSimpArgs false
namespace Go.Ideal.Seat
open Go.Ideal.Plain
theorem step_same (w:Dsk):w.step.1.blocks=w.blocks∧w.step.1.waits=w.waits∧w.step.1.bad=w.bad:=by
 unfold Dsk.step;split<;>exact⟨rfl,rfl,rfl⟩
theorem step_ok {w:Dsk} {m:Nat} (ok:w.Ok m):w.step.1.Ok m:=by
 unfold Dsk.step
 split
 ·exact⟨ok.few,ok.blk,ok.wts,ok.len,ok.bad,ok.cut⟩
 ·rename_i k h
  have:=ok.cut _ h
  exact⟨ok.few,ok.blk,ok.wts,ok.len,ok.bad,fun j hj=>by simp only[Option.some.injEq]at hj;omega⟩
 ·exact ok
theorem stepD {w:Dsk} {m:Nat} (ok:w.Ok m):O_disk_Disk_step w.toD=some (w.step.1.toD,w.step.2):=by
 unfold O_disk_Disk_step Dsk.step
 obtain⟨bs,ws,bd,dn,ct⟩:=w
 cases ct with
 |none=>rfl
 |some k=>
  cases k with
  |zero=>rfl
  |succ k=>
   have hk:=ok.cut _ rfl
   have c1:((((k+1:Nat):Int))==0)=false:=by simp;omega
   have c2:((((k+1:Nat):Int))>0):=by omega
   have c3:IntKind.wrap .i64 (((k+1:Nat):Int)-1)=(k:Int):=by rw[w64 (by omega) (by omega)];omega
   simp only[Dsk.toD,Dsk.left,c1,c2,c3,decide_true,cond_false,cond_true]
theorem stepR {w:Dsk} {m:Nat} (ok:w.Ok m):O_batonref21_step w.toR=some (w.step.1.toR,w.step.2):=by
 unfold O_batonref21_step Dsk.step
 obtain⟨bs,ws,bd,dn,ct⟩:=w
 cases ct with
 |none=>rfl
 |some k=>
  cases k with
  |zero=>rfl
  |succ k=>
   have hk:=ok.cut _ rfl
   have c1:((((k+1:Nat):Int))==0)=false:=by simp;omega
   have c3:IntKind.wrap .i64 (((k+1:Nat):Int)-1)=(k:Int):=by rw[w64 (by omega) (by omega)];omega
   simp only[Dsk.toR,Option.isSome,Option.getD,beq_self_eq_true,cond_true,c1,Option.bind_some,cond_false,c3]
theorem idx_eq (l:List Int) (n:Int) (h:l.length≤2^36):F_slices_Contains_int_int (l,n)=some (decide (n∈l)):=by
 unfold F_slices_Contains_int_int F_slices_Index_int_int
 rw[findLoop (l:=l) (fun x=>n==x) (z:=((l.length:Int),false)) (fun i e he=>?_) (by simp)]
 ·simp only[Option.bind_some]
  cases hf:l.findIdx? (fun x=>n==x) with
  |none=>
   rw[findIdx_none]at hf
   have:¬n∈l:=fun hm=>by have:=hf n hm;simp at this
   simp only[Option.bind_some,this,decide_false];rfl
  |some i=>
   have hm:n∈l:=by
    obtain⟨hl,h1,_⟩:=List.findIdx?_eq_some_iff_getElem.1 hf
    have:n=l[i]:=by simpa using h1
    rw[this];exact List.getElem_mem hl
   have:((i:Int)≥0):=by omega
   simp only[Option.bind_some,hm,this,decide_true]
 ·have hi:=getE_bound he
  have c1:(i:Int)<(l.length:Int):=by omega
  simp only[c1,decide_true,cond_true,Int.natCast_nonneg,Int.toNat_natCast,he,Option.bind_some,wsucc (show i<2^62 by omega)]
  by_cases hn:(n==e)=true
  ·simp only[hn,cond_true,if_true]
  ·simp only[(Bool.not_eq_true _).mp hn,cond_false,Bool.false_eq_true,if_false]
theorem put_eq {w:Dsk} {m:Nat} (ok:w.Ok m) (hm:m≤2^30) (n:Int) (b:List Int):O_disk_Disk_Write (w.toD,n,b)=some ((w.put n b).1.toD,(w.put n b).2):=by
 unfold O_disk_Disk_Write Dsk.put
 cases hd:w.down with
 |true=>
  have:w.toD.2.2.2.1=true:=hd
  simp only[this,cond_true,if_true]
 |false=>
  have hdd:w.toD.2.2.2.1=false:=hd
  simp only[hdd,cond_false,Bool.false_eq_true,if_false,there_iff,Option.bind_some]
  by_cases h:w.there n
  ·by_cases hl:b.length=256
   ·have c1:(((256:Nat):Int) != 256)=false:=rfl
    have hbd:w.toD.2.2.1=w.bad:=rfl
    simp only[h,decide_true,Bool.not_true,beq_self_eq_true,cond_true,hl,c1,Option.bind_some,cond_false,not_true_eq_false,ne_eq,or_self,if_false,hbd,idx_eq _ n ok.bad]
    by_cases hb:n∈w.bad
    ·simp only[hb,decide_true,cond_true,if_true]
    ·simp only[hb,decide_false,cond_false,if_false,stepD ok,Option.bind_some]
     cases hs:w.step.2 with
     |false=>simp only[Bool.not_false,cond_true,Bool.false_eq_true,if_false]
     |true=>
      have l2:w.step.1.toD.2.1=w.waits:=(step_same w).2.1
      have hwl:=ok.len
      have c2:((w.step.1.toD.2.1.length+([(n,b)]:List Wr).length)*(32+1)≤most):=by rw[l2];unfold most;simp;omega
      simp only[Bool.not_true,cond_false,if_true,cloneC b (by omega),Option.bind_some,c2,decide_true,cond_true]
      rfl
   ·have c1:(((b.length:Nat):Int) != 256)=true:=by simp;omega
    simp only[h,decide_true,Bool.not_true,beq_self_eq_true,cond_true,c1,Option.bind_some,hl,not_true_eq_false,ne_eq,not_false_eq_true,or_true,if_true]
  ·simp only[h,decide_false,Bool.not_false,show (true==false)=false from rfl,cond_false,Option.bind_some,cond_true,not_false_eq_true,true_or,if_true]
theorem memRun {X:Type} {n:Int} {u v:X}:∀(r:List Int) (i:Nat),runL (A:=Unit) (X:=X) (fun _ _ e=>some (if e=n then Sum.inr u else Sum.inl ())) (fun _=>some v) i () r=some (if n∈r then u else v):=by
 intro r
 induction r with
 |nil=>intro i;simp[runL]
 |cons x r ih=>
  intro i
  simp only[runL]
  by_cases hx:x=n
  ·simp[hx]
  ·rw[if_neg hx]
   have:(n∈x::r)↔n∈r:=by simp[Ne.symm hx]
   simp only[this]
   exact ih (i+1)
theorem refPut {w:Dsk} {m:Nat} (ok:w.Ok m) (hm:m≤2^30) (n:Int) (b:List Int):O_batonref21_Put (w.toR,n,b)=some ((w.put n b).1.toR,(w.put n b).2):=by
 unfold O_batonref21_Put Dsk.put
 cases hd:w.down with
 |true=>
  have:w.toR.2.2.2.1=true:=hd
  simp only[this,cond_true,if_true]
 |false=>
  have hdd:w.toR.2.2.2.1=false:=hd
  simp only[hdd,cond_false,Bool.false_eq_true,if_false,refThere,Option.bind_some]
  by_cases h:w.there n
  ·by_cases hl:b.length=256
   ·have c1:(((256:Nat):Int) != 256)=false:=rfl
    have hbd:w.toR.2.2.1=w.bad:=rfl
    have hbl:=ok.bad
    simp only[h,decide_true,Bool.not_true,beq_self_eq_true,cond_true,hl,c1,Option.bind_some,cond_false,not_true_eq_false,ne_eq,or_self,if_false,hbd]
    rw[runLoop (l:=w.bad) (fun(_:Unit) i=>(([]:List (List Int)),([]:List Wr),([]:List Int),false,false,(0:Int),i)) (fun _ i e=>if e=n then .inr (.inl (w.toR.1,w.toR.2.1,w.bad,false,w.toR.2.2.2.2.1,w.toR.2.2.2.2.2,17)) else .inl ()) (fun _ _=>True) (a:=()) (fin:=fun _=>.inr (([]:List (List Int)),([]:List Wr),([]:List Int),false,false,(0:Int),(w.bad.length:Int),false)) trivial (fun a i e he hi _=>?_) (fun a _=>by simp)]
    ·rw[memRun]
     simp only[Option.bind_some]
     by_cases hb:n∈w.bad
     ·simp only[hb,if_true]
      have:w.toR=(w.toR.1,w.toR.2.1,w.bad,false,w.toR.2.2.2.2.1,w.toR.2.2.2.2.2):=by rw[←hdd,←hbd]
      rw[←this]
     ·simp only[hb,if_false,stepR ok,Option.bind_some]
      cases hs:w.step.2 with
      |false=>simp only[Bool.not_false,cond_true,Bool.false_eq_true,if_false]
      |true=>
       have l2:w.step.1.toR.2.1=w.waits:=(step_same w).2.1
       have hwl:=ok.len
       have c2:((([]:List Wr).length+w.step.1.toR.2.1.length)*(32+1)≤most):=by rw[l2];unfold most;simp;omega
       have c3:((([]:List Int).length+256)*(1+1)≤most):=by unfold most;decide
       have c4:(((([]:List Wr)++w.step.1.toR.2.1).length+([(n,([]:List Int)++b)]:List Wr).length)*(32+1)≤most):=by rw[l2];unfold most;simp;omega
       simp only[Bool.not_true,cond_false,if_true,c2,c3,c4,decide_true,cond_true,List.nil_append]
       simp only[List.nil_append]at c4
       simp only[c4,decide_true,cond_true]
       rfl
    ·have hi':(i:Int)<(w.bad.length:Int):=by omega
     simp only[hi',decide_true,cond_true,Int.natCast_nonneg,Int.toNat_natCast,he,Option.bind_some,wsucc (show i<2^62 by omega)]
     by_cases hn:e=n
     ·exact .inr ⟨_,by rw[if_pos hn],by simp only[hn,beq_self_eq_true,cond_true]⟩
     ·have:(e==n)=false:=by simpa using hn
      exact .inl ⟨(),by rw[if_neg hn],by simp only[this,cond_false],trivial⟩
   ·have c1:(((b.length:Nat):Int) != 256)=true:=by simp;omega
    simp only[h,decide_true,Bool.not_true,beq_self_eq_true,cond_true,c1,Option.bind_some,hl,not_true_eq_false,ne_eq,not_false_eq_true,or_true,if_true]
  ·simp only[h,decide_false,Bool.not_false,show (true==false)=false from rfl,cond_false,Option.bind_some,cond_true,not_false_eq_true,true_or,if_true]
theorem put_ok {w:Dsk} {m:Nat} (ok:w.Ok m) {n:Int} {b:List Int} (hb:B8 b):(w.put n b).1.Ok (m+1):=by
 have up:∀{w:Dsk},w.Ok m→w.Ok (m+1):=fun ok=>⟨ok.few,ok.blk,ok.wts,by have:=ok.len;omega,ok.bad,ok.cut⟩
 unfold Dsk.put
 split
 ·exact up ok
 ·split
  ·exact up ok
  ·rename_i h
   split
   ·exact up ok
   ·split
    ·have so:=step_ok ok
     obtain⟨e1,e2,e3⟩:=step_same w
     refine⟨so.few,so.blk,fun x hx=>?_,?_,so.bad,so.cut⟩
     ·rcases List.mem_append.1 hx with hx|hx
      ·exact so.wts x hx
      ·rw[List.mem_singleton]at hx
       subst hx
       have ht:w.there n:=Classical.not_not.1 (fun h'=>h (.inl h'))
       refine⟨?_,Classical.not_not.1 (fun h'=>h (.inr h')),hb⟩
       unfold Dsk.there at ht ⊢
       rw[←e1]at ht;exact ht
     ·have:=so.len
      rw[List.length_append,List.length_singleton];omega
    ·exact up (step_ok ok)
theorem lays_ok {k:Wr→Nat}:∀{l:List (Wr×Int)} {bs:List (List Int)} {f:Int→Nat},(∀p,f p≤256)→Blk bs→(∀x∈l,0≤x.1.1∧x.1.1.toNat<bs.length∧x.1.2.length=256∧B8 x.1.2)→Blk (l.foldl (fun bs x=>layB bs x.1 (f x.2)) bs)∧(l.foldl (fun bs x=>layB bs x.1 (f x.2)) bs).length=bs.length
 |[],bs,f,_,h,_=>⟨h,rfl⟩
 |x::l,bs,f,hf,h,hx=>by
  obtain⟨a1,a2,a3,a4⟩:=hx x (by simp)
  obtain⟨i1,i2⟩:=lays_ok (k:=k) (l:=l) (f:=f) hf (layB_ok h a1 a2 a3 a4 (hf x.2)) (fun y hy=>by rw[layB_len];exact hx y (by simp[hy]))
  exact⟨i1,by rw[layB_len]at i2;exact i2⟩
theorem sync_all {l:List Wr} {bs:List (List Int)} (h:Blk bs) (hx:∀x∈l,0≤x.1∧x.1.toNat<bs.length∧x.2.length=256∧B8 x.2):Blk (l.foldl (fun bs x=>layB bs x 256) bs)∧(l.foldl (fun bs x=>layB bs x 256) bs).length=bs.length:=by
 induction l generalizing bs with
 |nil=>exact⟨h,rfl⟩
 |cons x l ih=>
  obtain⟨a1,a2,a3,a4⟩:=hx x (by simp)
  obtain⟨i1,i2⟩:=ih (layB_ok h a1 a2 a3 a4 (Nat.le_refl _)) (fun y hy=>by rw[layB_len];exact hx y (by simp[hy]))
  exact⟨i1,by rw[layB_len]at i2;exact i2⟩
theorem wts_nat {w:Dsk} {m:Nat} (ok:w.Ok m):∀x∈w.waits,0≤x.1∧x.1.toNat<w.blocks.length∧x.2.length=256∧B8 x.2:=fun x hx=>by
 obtain⟨a,b,c⟩:=ok.wts x hx
 exact⟨a.1,(there_get a).1,b,c⟩
theorem sync_ok {w:Dsk} {m:Nat} (ok:w.Ok m):w.sync.1.Ok m:=by
 unfold Dsk.sync
 split
 ·exact ok
 ·split
  ·have so:=step_ok ok
   obtain⟨e1,e2,e3⟩:=step_same w
   obtain⟨i1,i2⟩:=sync_all ok.blk (wts_nat ok)
   exact⟨Nat.le_trans (Nat.le_of_eq i2) ok.few,i1,(fun x hx=>by cases hx),Nat.zero_le _,so.bad,so.cut⟩
  ·exact step_ok ok
theorem clampP_le (p:Int):0≤clampP p∧clampP p≤256:=by unfold clampP;split<;>split<;>omega
theorem zip_mem {ws:List Wr} {ps:List Int} {x:Wr×Int} (h:x∈ws.zip ps):x.1∈ws:=(List.of_mem_zip h).1
theorem crash_ok {w:Dsk} {m:Nat} (ok:w.Ok m) (picks:List Int):(w.crash picks).Ok m:=by
 obtain⟨i1,i2⟩:=lays_ok (k:=fun _=>0) (l:=w.waits.zip picks) (f:=fun p=>(clampP p).toNat) (fun p=>by have:=clampP_le p;omega) ok.blk (fun x hx=>wts_nat ok x.1 (zip_mem hx))
 exact⟨Nat.le_trans (Nat.le_of_eq i2) ok.few,i1,(fun x hx=>by cases hx),Nat.zero_le _,ok.bad,fun k hk=>by cases hk⟩
theorem cut_ok {w:Dsk} {m:Nat} (ok:w.Ok m) {n:Int} (hn:n<9223372036854775808):(w.cutAt n).Ok m:=
 ⟨ok.few,ok.blk,ok.wts,ok.len,ok.bad,fun k hk=>by simp only[Dsk.cutAt,Option.some.injEq]at hk;omega⟩
end Go.Ideal.Seat
set_option linter.unusedVariables false
set_option linter.unusedSimpArgs false
namespace Go.Ideal.Seat
open Go.Ideal.Plain
theorem laid_eq {bs:List (List Int)} {x:Wr} (h:Blk bs) (h2:x.1.toNat<bs.length) (h3:x.2.length=256):
 bs.set x.1.toNat (((bs.getD x.1.toNat []).take 0)++x.2.take (min x.2.length (bs.getD x.1.toNat []).length)++(bs.getD x.1.toNat []).drop (0+min x.2.length (bs.getD x.1.toNat []).length))=layB bs x 256:=by
 have e:bs.getD x.1.toNat []=bs[x.1.toNat]:=by rw[List.getD_eq_getElem?_getD,List.getElem?_eq_getElem h2];rfl
 have:=(h _ (List.getElem_mem h2)).1
 rw[←e]at this
 rw[this,h3,layB];simp
theorem getD_blk {bs:List (List Int)} {i:Nat} (h:i<bs.length):bs[i]? = some (bs.getD i []):=by
 rw[List.getD_eq_getElem?_getD,List.getElem?_eq_getElem h];rfl
theorem sync_eq {w:Dsk} {m:Nat} (ok:w.Ok m) (hm:m≤2^30):O_disk_Disk_Sync w.toD=some (w.sync.1.toD,w.sync.2):=by
 unfold O_disk_Disk_Sync Dsk.sync
 cases hd:w.down with
 |true=>
  have:w.toD.2.2.2.1=true:=hd
  simp only[this,show (true==false)=false from rfl,cond_false,Option.bind_some,cond_true,if_true]
 |false=>
  have hdd:w.toD.2.2.2.1=false:=hd
  simp only[hdd,beq_self_eq_true,cond_true,Bool.false_eq_true,if_false,stepD ok,Option.bind_some]
  cases hs:w.step.2 with
  |false=>simp only[Bool.not_false,cond_true,Bool.false_eq_true,if_false]
  |true=>
   obtain⟨e1,e2,e3⟩:=step_same w
   have hw:=wts_nat ok
   have hlen:=ok.len
   simp only[Bool.not_true,cond_false,if_true]
   rw[foldLoop (l:=w.waits) (fun(a:List (List Int)) i=>(a,w.step.1.toD.2.1,w.step.1.toD.2.2.1,w.step.1.toD.2.2.2.1,w.step.1.toD.2.2.2.2,w.step.1.toD.2.1,i)) (fun bs x=>layB bs x 256) (fun _ a=>Blk a∧a.length=w.blocks.length) (a:=w.step.1.toD.1)
    (fin:=fun a=>(a,w.step.1.toD.2.1,w.step.1.toD.2.2.1,w.step.1.toD.2.2.2.1,w.step.1.toD.2.2.2.2,w.step.1.toD.2.1,(w.waits.length:Int),false)) (by show Blk w.step.1.blocks∧w.step.1.blocks.length=_;rw[e1];exact⟨ok.blk,rfl⟩) (fun a i e he hi ha=>?_) (fun a ha=>?_)]
   ·simp only[Option.bind_some]
    have:w.step.1.toD.1=w.blocks:=e1
    rw[this];rfl
   ·obtain⟨x1,x2,x3,x4⟩:=hw e (List.mem_of_getElem? he)
    have l2:w.step.1.toD.2.1=w.waits:=e2
    have c1:(i:Int)<((w.waits.length:Nat):Int):=by omega
    have c2:e.1.toNat<a.length:=by rw[ha.2];exact x2
    refine⟨?_,layB_ok ha.1 x1 c2 x3 x4 (Nat.le_refl _),by rw[layB_len];exact ha.2⟩
    simp only[l2,c1,decide_true,cond_true,Int.natCast_nonneg,Int.toNat_natCast,he,Option.bind_some,x1,c2,getD_blk c2,wsucc (show i<2^62 by omega),laid_eq ha.1 c2 x3]
   ·have l2:w.step.1.toD.2.1=w.waits:=e2
    simp[l2]
theorem refLay {w:Dsk} {x:Wr} {p:Int} (hb:Blk w.blocks) (hf:w.blocks.length≤256) (h1:0≤x.1) (h2:x.1.toNat<w.blocks.length) (h3:x.2.length=256) (hp:0≤p∧p≤256):
 O_batonref21_lay (w.toR,x,p)=some ({ w with blocks:=layB w.blocks x p.toNat }).toR:=by
 unfold O_batonref21_lay
 have hB:w.toR.1=w.blocks:=rfl
 have g:=getD_blk h2
 have gl:(w.blocks.getD x.1.toNat []).length=256:=(hb _ (List.mem_of_getElem? g)).1
 have c1:((([]:List (List Int)).length+w.blocks.length)*(24+1)≤most):=by unfold most;simp;omega
 have c2:p.toNat≤256:=by omega
 have c3:((([]:List Int).length+((x.2.drop 0).take (p.toNat-0)).length)*(1+1)≤most):=by unfold most;simp;omega
 have c4:(((([]:List Int)++((x.2.drop 0).take (p.toNat-0))).length+(((w.blocks.getD x.1.toNat []).drop p.toNat).take (256-p.toNat)).length)*(1+1)≤most):=by unfold most;simp;omega
 have c5:x.1.toNat<(([]:List (List Int))++w.blocks).length:=by simpa using h2
 have c6:(0≤p.toNat∧p.toNat≤256):=⟨Nat.zero_le _,c2⟩
 have c7:(p.toNat≤256∧256≤256):=⟨c2,Nat.le_refl _⟩
 have t1:((w.blocks.getD x.1.toNat []).drop p.toNat).take (256-p.toNat)=(w.blocks.getD x.1.toNat []).drop p.toNat:=List.take_of_length_le (by rw[List.length_drop,gl];exact Nat.le_refl _)
 simp only[hB,c1,decide_true,cond_true,hp.1,h3,c6,h1,g,Option.bind_some,gl,c7,c3,c4,c5,List.nil_append,t1]
 simp only[List.nil_append]at c3 c4 c5
 simp only[t1,List.drop_zero,Nat.sub_zero]at c4
 simp only[c4,c5,decide_true,cond_true,g,Option.bind_some,List.drop_zero,Nat.sub_zero,and_self]
 rfl
theorem refSync {w:Dsk} {m:Nat} (ok:w.Ok m) (hm:m≤2^30):O_batonref21_Sync w.toR=some (w.sync.1.toR,w.sync.2):=by
 unfold O_batonref21_Sync Dsk.sync
 cases hd:w.down with
 |true=>
  have:w.toR.2.2.2.1=true:=hd
  simp only[this,cond_true,if_true]
 |false=>
  have hdd:w.toR.2.2.2.1=false:=hd
  simp only[hdd,cond_false,Bool.false_eq_true,if_false,stepR ok,Option.bind_some]
  cases hs:w.step.2 with
  |false=>simp only[Bool.not_false,cond_true,Bool.false_eq_true,if_false]
  |true=>
   obtain⟨e1,e2,e3⟩:=step_same w
   have hw:=wts_nat ok
   have hlen:=ok.len
   have eb:w.step.1.toR.1=w.blocks:=e1
   have ew:w.step.1.toR.2.1=w.waits:=e2
   simp only[Bool.not_true,cond_false,if_true,eb,ew]
   rw[foldLoop (l:=w.waits) (fun(a:List (List Int)) i=>(a,w.waits,w.step.1.toR.2.2.1,w.step.1.toR.2.2.2.1,w.step.1.toR.2.2.2.2.1,w.step.1.toR.2.2.2.2.2,i)) (fun bs x=>layB bs x 256) (fun _ a=>Blk a∧a.length=w.blocks.length) (a:=w.blocks)
    (fin:=fun a=>(a,w.waits,w.step.1.toR.2.2.1,w.step.1.toR.2.2.2.1,w.step.1.toR.2.2.2.2.1,w.step.1.toR.2.2.2.2.2,(w.waits.length:Int),false)) ⟨ok.blk,rfl⟩ (fun a i e he hi ha=>?_) (fun a ha=>?_)]<;>first|rfl|skip
   ·obtain⟨x1,x2,x3,x4⟩:=hw e (List.mem_of_getElem? he)
    have c1:(i:Int)<((w.waits.length:Nat):Int):=by omega
    have c2:e.1.toNat<a.length:=by rw[ha.2];exact x2
    refine⟨?_,layB_ok ha.1 x1 c2 x3 x4 (Nat.le_refl _),by rw[layB_len];exact ha.2⟩
    have rl:=refLay (w:={ w.step.1 with blocks:=a,waits:=w.waits }) (x:=e) (p:=256) ha.1 (by have:=ok.few;have:=ha.2;simp only;omega) x1 c2 x3 ⟨by decide,by decide⟩
    have rl':O_batonref21_lay ((a,w.waits,w.step.1.toR.2.2.1,w.step.1.toR.2.2.2.1,w.step.1.toR.2.2.2.2.1,w.step.1.toR.2.2.2.2.2),e,256)=some (layB a e 256,w.waits,w.step.1.toR.2.2.1,w.step.1.toR.2.2.2.1,w.step.1.toR.2.2.2.2.1,w.step.1.toR.2.2.2.2.2):=rl
    simp only[c1,decide_true,cond_true,Int.natCast_nonneg,Int.toNat_natCast,he,Option.bind_some,rl',wsucc (show i<2^62 by omega)]
   ·simp
theorem clamp_nat (p:Int):clampP p=(if 256<(if 0>p then 0 else p) then 256 else (if 0>p then 0 else p)):=rfl
theorem cpy_eq {bs:List (List Int)} {x:Wr} {k:Nat} (h:Blk bs) (h2:x.1.toNat<bs.length) (h3:x.2.length=256) (hk:k≤256):
 bs.set x.1.toNat (((bs.getD x.1.toNat []).take 0)++(((x.2.drop 0).take (k-0)).take (min ((x.2.drop 0).take (k-0)).length (bs.getD x.1.toNat []).length))++(bs.getD x.1.toNat []).drop (0+min ((x.2.drop 0).take (k-0)).length (bs.getD x.1.toNat []).length))=layB bs x k:=by
 have e:bs.getD x.1.toNat []=bs[x.1.toNat]:=by rw[List.getD_eq_getElem?_getD,List.getElem?_eq_getElem h2];rfl
 have:=(h _ (List.getElem_mem h2)).1
 rw[←e]at this
 have l1:((x.2.drop 0).take (k-0)).length=k:=by simp[h3];omega
 rw[this,l1,Nat.min_eq_left hk,layB];simp[List.take_take]
theorem crash_eq {w:Dsk} {m:Nat} (ok:w.Ok m) (hm:m≤2^30) (picks:List Int) (hp:picks.length<2^60):O_disk_Disk_Crash (w.toD,picks)=some (w.crash picks).toD:=by
 unfold O_disk_Disk_Crash Dsk.crash
 have hw:=wts_nat ok
 have hlen:=ok.len
 have eb:w.toD.1=w.blocks:=rfl
 dsimp only
 simp only[eb]
 rw[iter_run (l:=w.waits) (mk:=fun(a:List (List Int)) (i:Int)=>(a,w.toD.2.1,w.toD.2.2.1,w.toD.2.2.2.1,w.toD.2.2.2.2,w.toD.2.1,i)) (step:=fun a i e=>some (.inl (if h:i<picks.length then layB a e (clampP picks[i]).toNat else a))) (fin:=fun a=>some (a,w.toD.2.1,w.toD.2.2.1,w.toD.2.2.2.1,w.toD.2.2.2.2,w.toD.2.1,(w.waits.length:Int),false)) (fun _ a=>Blk a∧a.length=w.blocks.length) (fun a i e he ha=>?_) (fun a i e a' he ha hs=>?_) (fun a ha=>?_) ⟨ok.blk,rfl⟩]
 ·have key:∀(l:List Wr) (i:Nat) (a:List (List Int)),runL (fun a i e=>some (Sum.inl (if h:i<picks.length then layB a e (clampP picks[i]).toNat else a))) (fun a=>some (a,w.toD.2.1,w.toD.2.2.1,w.toD.2.2.2.1,w.toD.2.2.2.2,w.toD.2.1,(w.waits.length:Int),false)) i a l=some ((l.zip (picks.drop i)).foldl (fun bs x=>layB bs x.1 (clampP x.2).toNat) a,w.toD.2.1,w.toD.2.2.1,w.toD.2.2.2.1,w.toD.2.2.2.2,w.toD.2.1,(w.waits.length:Int),false):=by
   intro l
   induction l with
   |nil=>intro i a;rfl
   |cons x l ih=>
    intro i a
    simp only[runL,Option.bind_some]
    rw[ih]
    by_cases h:i<picks.length
    ·rw[dif_pos h,List.drop_eq_getElem_cons h,List.zip_cons_cons,List.foldl_cons]
    ·rw[dif_neg h,List.drop_of_length_le (by omega),List.drop_of_length_le (by omega),List.zip_nil_right,List.zip_nil_right]
  rw[key]
  rfl
 ·obtain⟨x1,x2,x3,x4⟩:=hw e (List.mem_of_getElem? he)
  have hi:=getE_bound he
  have l2:w.toD.2.1=w.waits:=rfl
  have c1:(i:Int)<((w.waits.length:Nat):Int):=by omega
  have c2:e.1.toNat<a.length:=by rw[ha.2];exact x2
  simp only[l2,c1,decide_true,cond_true,Int.natCast_nonneg,Int.toNat_natCast,he,Option.bind_some,wsucc (show i<2^62 by omega)]
  by_cases h:i<picks.length
  ·have c3:(i:Int)<(picks.length:Int):=by omega
   have hcl:=clampP_le picks[i]
   have c4:(0≤(clampP picks[i]).toNat∧(clampP picks[i]).toNat≤e.2.length):=by omega
   simp only[c3,decide_true,cond_true,x1,c2,getD_blk c2,Option.bind_some,List.getElem?_eq_getElem h,←clamp_nat,hcl.1,c4,and_self,cpy_eq ha.1 c2 x3 (show (clampP picks[i]).toNat≤256 by omega),h,dif_pos,Option.map_some]
  ·have c3:¬(i:Int)<(picks.length:Int):=by omega
   simp only[c3,decide_false,cond_false,h,dif_neg,not_false_eq_true,Option.map_some]
 ·obtain⟨x1,x2,x3,x4⟩:=hw e (List.mem_of_getElem? he)
  simp only[Option.some.injEq,Sum.inl.injEq]at hs
  subst hs
  have c2:e.1.toNat<a.length:=by rw[ha.2];exact x2
  split
  ·rename_i h
   have hcl:=clampP_le picks[i]
   exact⟨layB_ok ha.1 x1 c2 x3 x4 (by omega),by rw[layB_len];exact ha.2⟩
  ·exact ha
 ·have l2:w.toD.2.1=w.waits:=rfl
  simp[l2]
theorem refCrash {w:Dsk} {m:Nat} (ok:w.Ok m) (hm:m≤2^30) (picks:List Int) (hp:picks.length<2^60):O_batonref21_Crash (w.toR,picks)=some (w.crash picks).toR:=by
 unfold O_batonref21_Crash Dsk.crash
 have hw:=wts_nat ok
 have hlen:=ok.len
 have zl:(w.waits.zip picks).length=min w.waits.length picks.length:=List.length_zip
 have eb:w.toR.1=w.blocks:=rfl
 have ew:w.toR.2.1=w.waits:=rfl
 dsimp only
 simp only[eb,ew]
 rw[foldLoop (l:=w.waits.zip picks) (fun(a:List (List Int)) i=>(a,w.waits,w.toR.2.2.1,w.toR.2.2.2.1,w.toR.2.2.2.2.1,w.toR.2.2.2.2.2,i)) (fun bs x=>layB bs x.1 (clampP x.2).toNat) (fun _ a=>Blk a∧a.length=w.blocks.length) (a:=w.blocks)
     (fin:=fun a=>(a,w.waits,w.toR.2.2.1,w.toR.2.2.2.1,w.toR.2.2.2.2.1,w.toR.2.2.2.2.2,(((w.waits.zip picks).length:Nat):Int),false)) ⟨ok.blk,rfl⟩ (fun a i e he hi ha=>?_) (fun a ha=>?_)]<;>first|rfl|skip
 ·obtain⟨g1,g2⟩:=List.getElem?_zip_eq_some.1 he
  obtain⟨x1,x2,x3,x4⟩:=hw e.1 (List.mem_of_getElem? g1)
  have b1:=getE_bound g1
  have b2:=getE_bound g2
  have c1:(i:Int)<((w.waits.length:Nat):Int):=by omega
  have c3:(i:Int)<(picks.length:Int):=by omega
  have c2:e.1.1.toNat<a.length:=by rw[ha.2];exact x2
  have hcl:=clampP_le e.2
  refine⟨?_,layB_ok ha.1 x1 c2 x3 x4 (by omega),by rw[layB_len];exact ha.2⟩
  have rl:=refLay (w:={ w with blocks:=a }) (x:=e.1) (p:=clampP e.2) ha.1 (by have:=ok.few;have:=ha.2;simp only;omega) x1 c2 x3 hcl
  have rl':O_batonref21_lay ((a,w.waits,w.toR.2.2.1,w.toR.2.2.2.1,w.toR.2.2.2.2.1,w.toR.2.2.2.2.2),e.1,clampP e.2)=some (layB a e.1 (clampP e.2).toNat,w.waits,w.toR.2.2.1,w.toR.2.2.2.1,w.toR.2.2.2.2.1,w.toR.2.2.2.2.2):=rl
  simp only[c1,c3,decide_true,beq_self_eq_true,cond_true,Int.natCast_nonneg,Int.toNat_natCast,g1,g2,Option.bind_some,←clamp_nat,rl',wsucc (show i<2^62 by omega)]
 ·by_cases h:w.waits.length≤picks.length
  ·have:¬((((w.waits.zip picks).length:Nat):Int)<((w.waits.length:Nat):Int)):=by omega
   simp only[this,decide_false,show (false==true)=false from rfl,cond_false,Option.bind_some]
  ·have h1:((((w.waits.zip picks).length:Nat):Int)<((w.waits.length:Nat):Int)):=by omega
   have h2:¬((((w.waits.zip picks).length:Nat):Int)<(picks.length:Int)):=by omega
   simp only[h1,h2,decide_true,decide_false,beq_self_eq_true,cond_true,cond_false,Option.bind_some]
theorem cut_eq (w:Dsk) (n:Int):O_disk_Disk_Cut (w.toD,n)=some (w.cutAt n).toD:=by
 unfold O_disk_Disk_Cut Dsk.cutAt
 have:(if 0>n then 0 else n)=((n.toNat:Nat):Int):=by split<;>omega
 rw[this];rfl
theorem refCut (w:Dsk) (n:Int):O_batonref21_Cut (w.toR,n)=some (w.cutAt n).toR:=by
 unfold O_batonref21_Cut Dsk.cutAt
 have:(if 0>n then 0 else n)=((n.toNat:Nat):Int):=by split<;>omega
 rw[this];rfl
end Go.Ideal.Seat
set_option linter.unusedVariables false
set_option linter.unusedSimpArgs false
namespace Go.Ideal.Seat
open Go.Ideal.Plain
namespace Dsk
def lay (w:Dsk) (n:Int) (b:List Int):Dsk×Int:=if (w.put n b).2≠0 then w.put n b else (w.put n b).1.sync
end Dsk
theorem Ok.up {w:Dsk} {m k:Nat} (ok:w.Ok m) (h:m≤k):w.Ok k:=⟨ok.few,ok.blk,ok.wts,Nat.le_trans ok.len h,ok.bad,ok.cut⟩
theorem lay_ok {w:Dsk} {m:Nat} (ok:w.Ok m) {n:Int} {b:List Int} (hb:B8 b):(w.lay n b).1.Ok (m+1):=by
 unfold Dsk.lay
 split
 ·exact put_ok ok hb
 ·exact sync_ok (put_ok ok hb)
abbrev Jn:=Unit×Int×Int
theorem jlay_eq {w:Dsk} {m:Nat} (ok:w.Ok m) (hm:m<2^30) {fr n:Int} (bl:Int) {b:List Int} (hb:B8 b) (hw:IntKind.wrap .i64 (fr+n)=fr+n):O_journal_Journal_lay (w.toD,(((),fr,bl):Jn),n,b)=some ((w.lay (fr+n) b).1.toD,((),fr,bl),(w.lay (fr+n) b).2):=by
 unfold O_journal_Journal_lay Dsk.lay
 simp only[hw,put_eq ok (by omega),Option.bind_some]
 by_cases h:(w.put (fr+n) b).2=0
 ·simp only[h,bne_self_eq_false,cond_false,ne_eq,not_true_eq_false,if_false,sync_eq (put_ok ok hb) (by omega),Option.bind_some]
 ·have:((w.put (fr+n) b).2 != 0)=true:=by simpa using h
  simp only[this,cond_true,ne_eq,h,not_false_eq_true,if_true]
theorem refJlay {w:Dsk} {m:Nat} (ok:w.Ok m) (hm:m<2^30) {n:Int} {b:List Int} (hb:B8 b):O_batonref23_lay (w.toR,n,b)=some ((w.lay n b).1.toR,(w.lay n b).2):=by
 unfold O_batonref23_lay Dsk.lay
 simp only[refPut ok (by omega),Option.bind_some]
 by_cases h:(w.put n b).2=0
 ·simp only[h,bne_self_eq_false,cond_false,ne_eq,not_true_eq_false,if_false,refSync (put_ok ok hb) (by omega),Option.bind_some]
 ·have:((w.put n b).2 != 0)=true:=by simpa using h
  simp only[this,cond_true,ne_eq,h,not_false_eq_true,if_true]
theorem rd_good {w:Dsk} {m:Nat} (ok:w.Ok m) {n:Int} (h:(w.rd n).2=0):(w.rd n).1.length=256∧B8 (w.rd n).1:=by
 unfold Dsk.rd at h ⊢
 split at h
 ·cases h
 ·split at h
  ·cases h
  ·rename_i h1 h2
   rw[if_neg h1,if_neg h2]
   exact lastW_ok (fun x hx=>(ok.wts x hx).2) (blk_get ok (Classical.not_not.1 h2))
def unmark (w:Dsk) (n:Int) (was:List Int):Dsk×Int:=if was.getD 255 0≠0 then w.lay n (markB was false) else (w,0)
def laid (s:Dsk×Int) (n:Int) (b:List Int):Dsk×Int:=if s.2≠0 then s else s.1.lay n b
def jAppend (w:Dsk) (fr bl g no:Int) (d:List Int):Dsk×Int:=
 if no<0∨no≥bl then (w,18) else if recErr g no d≠0 then (w,recErr g no d) else
 if (w.rd (fr+no)).2≠0 then (w,(w.rd (fr+no)).2) else
 laid (laid (unmark w (fr+no) (w.rd (fr+no)).1) (fr+no) (recB g no d)) (fr+no) (markB (recB g no d) true)
theorem unmark_ok {w:Dsk} {m:Nat} (ok:w.Ok m) {n:Int} {b:List Int} (hb:B8 b):(unmark w n b).1.Ok (m+1):=by
 unfold unmark
 split
 ·exact lay_ok ok (markB_B8 hb false)
 ·exact Ok.up ok (by omega)
theorem laid_ok {s:Dsk×Int} {m:Nat} (ok:s.1.Ok m) {n:Int} {b:List Int} (hb:B8 b):(laid s n b).1.Ok (m+1):=by
 unfold laid
 split
 ·exact Ok.up ok (by omega)
 ·exact lay_ok ok hb
theorem jAppend_ok {w:Dsk} {m:Nat} (ok:w.Ok m) (fr bl g no:Int) {d:List Int} (hd:B8 d):(jAppend w fr bl g no d).1.Ok (m+3):=by
 unfold jAppend
 split
 ·exact Ok.up ok (by omega)
 ·split
  ·exact Ok.up ok (by omega)
  ·rename_i h
   split
   ·exact Ok.up ok (by omega)
   ·rename_i h2
    have he:=recErr_zero.1 (Classical.not_not.1 h)
    have hb:=recB_B8 g no he.2.2.2.2 hd
    exact laid_ok (laid_ok (unmark_ok ok (rd_good ok (Classical.not_not.1 h2)).2) hb) (markB_B8 hb true)
theorem jAppend_eq {w:Dsk} {m:Nat} (ok:w.Ok m) (hm:m+3≤2^30) {fr bl g no:Int} {d:List Int} (hd:B8 d) (hdl:d.length≤2^36) (h1:0≤fr) (h2:fr≤256) (h3:bl≤256):
 O_journal_Journal_Append (w.toD,(((),fr,bl):Jn),g,no,d)=some ((jAppend w fr bl g no d).1.toD,((),fr,bl),(jAppend w fr bl g no d).2):=by
 unfold O_journal_Journal_Append jAppend
 have c1:(bif ((decide (no<0))==false) then (some (decide (no≥bl))) else (some true))=some (decide (no<0∨no≥bl)):=by
  by_cases a:no<0
  ·simp[a]
  ·by_cases b:no≥bl<;>simp[a,b]
 simp only[c1,Option.bind_some]
 by_cases a:no<0∨no≥bl
 ·simp only[a,decide_true,cond_true,if_true]
 simp only[a,decide_false,cond_false,if_false,make_eq g no d hd hdl,Option.bind_some]
 by_cases b:recErr g no d=0
 rotate_left
 ·have:(recErr g no d != 0)=true:=by simpa using b
  simp only[this,cond_true,ne_eq,b,not_false_eq_true,if_true]
 have hw:IntKind.wrap .i64 (fr+no)=fr+no:=w64 (by omega) (by omega)
 simp only[b,bne_self_eq_false,cond_false,ne_eq,not_true_eq_false,if_false,if_true,hw,rd_eq ok (by omega),Option.bind_some]
 by_cases c:(w.rd (fr+no)).2=0
 rotate_left
 ·have:((w.rd (fr+no)).2 != 0)=true:=by simpa using c
  simp only[this,cond_true,c,not_false_eq_true,if_true]
 obtain⟨rl,r8⟩:=rd_good ok c
 have he:=recErr_zero.1 b
 have hB:=recB_B8 g no he.2.2.2.2 hd
 have hL:=recB_len g no he.2.2.2.2
 have w1:IntKind.wrap .i64 (((256:Nat):Int)-1)=((255:Nat):Int):=by decide
 have g255:(w.rd (fr+no)).1[255]? = some ((w.rd (fr+no)).1.getD 255 0):=getD_some (by omega)
 have okU:=unmark_ok ok (n:=fr+no) r8
 have tail:∀s:Dsk×Int,s.1.Ok (m+1)→s.2=0→((O_journal_Journal_lay (s.1.toD,(((),fr,bl):Jn),no,recB g no d)).bind fun r51=>(bif (r51.2.2 != 0) then (some (r51.1,(((),r51.2.1.2),r51.2.2))) else ((O_record_Marked (recB g no d,true)).bind fun r52=>((O_journal_Journal_lay (r51.1,(((),r51.2.1.2),(no,r52)))).bind fun r53=>(some (r53.1,(((),r53.2.1.2),r53.2.2))))))) =
  some ((laid (laid s (fr+no) (recB g no d)) (fr+no) (markB (recB g no d) true)).1.toD,((),fr,bl),(laid (laid s (fr+no) (recB g no d)) (fr+no) (markB (recB g no d) true)).2):=by
  intro s oks hs
  rw[jlay_eq oks (by omega) bl hB hw]
  have e1:laid s (fr+no) (recB g no d)=s.1.lay (fr+no) (recB g no d):=by unfold laid;rw[if_neg (by simp[hs])]
  rw[e1]
  simp only[Option.bind_some]
  by_cases h:(s.1.lay (fr+no) (recB g no d)).2=0
  ·have e2:laid (s.1.lay (fr+no) (recB g no d)) (fr+no) (markB (recB g no d) true)=(s.1.lay (fr+no) (recB g no d)).1.lay (fr+no) (markB (recB g no d) true):=by unfold laid;rw[if_neg (by simp[h])]
   rw[e2]
   simp only[h,bne_self_eq_false,cond_false,marked_eq _ true hL,Option.bind_some]
   rw[jlay_eq (lay_ok oks hB) (by omega) bl (markB_B8 hB true) hw]
   rfl
  ·have:((s.1.lay (fr+no) (recB g no d)).2 != 0)=true:=by simpa using h
   have e2:laid (s.1.lay (fr+no) (recB g no d)) (fr+no) (markB (recB g no d) true)=(s.1.lay (fr+no) (recB g no d)):=by unfold laid;rw[if_pos (by simpa using h)]
   rw[e2]
   simp only[this,cond_true]
 simp only[c,bne_self_eq_false,cond_false,not_true_eq_false,if_false,rl,w1,Int.natCast_nonneg,Int.toNat_natCast,decide_true,cond_true,show (255<256) from by decide,g255,Option.bind_some]
 by_cases z:(w.rd (fr+no)).1.getD 255 0=0
 ·have eu:unmark w (fr+no) (w.rd (fr+no)).1=(w,0):=by unfold unmark;rw[if_neg (fun h=>h z)]
  simp only[z,bne_self_eq_false,cond_false,Option.bind_some]
  rw[eu]
  exact tail (w,0) (Ok.up ok (by omega)) rfl
 ·have:((w.rd (fr+no)).1.getD 255 0 != 0)=true:=by simpa using z
  have eu:unmark w (fr+no) (w.rd (fr+no)).1=w.lay (fr+no) (markB (w.rd (fr+no)).1 false):=by unfold unmark;rw[if_pos z]
  simp only[this,cond_true,marked_eq _ false rl,Option.bind_some,jlay_eq ok (by omega) bl (markB_B8 r8 false) hw]
  rw[eu]at okU ⊢
  by_cases h:(w.lay (fr+no) (markB (w.rd (fr+no)).1 false)).2=0
  ·simp only[h,bne_self_eq_false,cond_false,Option.bind_some]
   exact tail _ okU h
  ·have h':((w.lay (fr+no) (markB (w.rd (fr+no)).1 false)).2 != 0)=true:=by simpa using h
   have e1:laid (w.lay (fr+no) (markB (w.rd (fr+no)).1 false)) (fr+no) (recB g no d)=w.lay (fr+no) (markB (w.rd (fr+no)).1 false):=by unfold laid;rw[if_pos h]
   have e2:laid (w.lay (fr+no) (markB (w.rd (fr+no)).1 false)) (fr+no) (markB (recB g no d) true)=w.lay (fr+no) (markB (w.rd (fr+no)).1 false):=by unfold laid;rw[if_pos h]
   rw[e1,e2]
   simp only[h',cond_true,Option.bind_some]
noncomputable def scanG (rd:Int→List Int×Int) (fr g:Int):Nat→Nat→List (List Int)→List (List Int)×Int
 |0,_,out=>(out,0)
 |k+1,i,out=>if (rd (fr+i)).2≠0 then ([],(rd (fr+i)).2) else if (recR (rd (fr+i)).1).2=21 then ([],21)
  else if (recR (rd (fr+i)).1).2≠0∨(recR (rd (fr+i)).1).1.1≠g∨(recR (rd (fr+i)).1).1.2.1≠i then (out,0)
  else scanG rd fr g k (i+1) (out++[(recR (rd (fr+i)).1).1.2.2])
noncomputable def jScan (w:Dsk) (fr g:Int) (bl:Nat):List (List Int)×Int:=scanG w.rd fr g bl 0 []
theorem or3 (x y:Int) (a b:Int) (i:Int) (h:x=0→True):(bif ((x != 0)==false) then (bif ((y != a)==false) then (some (b != i)) else (some true)) else (some true))=some (decide (x≠0∨y≠a∨b≠i)):=by
 by_cases p:x=0
 ·subst p
  by_cases q:y=a
  ·subst q
   by_cases r:b=i<;>simp[r]
  ·have:(y != a)=true:=by simpa using q
   simp[q,this]
 ·have:(x != 0)=true:=by simpa using p
  simp[p,this]
theorem jScan_eq {w:Dsk} {m:Nat} (ok:w.Ok m) (hm:m≤2^30) {fr g:Int} {bl:Nat} (h1:0≤fr) (h2:fr≤256) (h3:bl≤256):
 O_journal_Journal_Scan (w.toD,(((),fr,(bl:Int)):Jn),g)=some (w.toD,((),fr,(bl:Int)),(jScan w fr g bl).1,(jScan w fr g bl).2):=by
 unfold O_journal_Journal_Scan jScan
 have key:∀(k i:Nat) (out:List (List Int)),i+k=bl→out.length≤i→∀F:(DkT×Unit×Int×Int×List (List Int)×Int)→Option ((DkT×Unit×Int×Int×List (List Int)×Int)⊕((DkT×Unit×Int×Int×List (List Int)×Int)⊕(DkT×Unit×Int×Int×List (List Int)))),
  F=(fun s58=>(bif (decide (s58.2.2.2.2.2<(bl:Int))) then ((O_disk_Disk_Read (s58.1,(IntKind.wrap .i64 (s58.2.2.1+s58.2.2.2.2.2)))).bind fun r59=>(bif (r59.2.2 != 0) then (some (Sum.inr (Sum.inl (r59.1,((),(s58.2.2.1,(s58.2.2.2.1,(([]:List (List (Int))),r59.2.2)))))))) else ((O_record_Read r59.2.1).bind fun r60=>(bif (r60.2==21) then (some (Sum.inr (Sum.inl (r59.1,((),(s58.2.2.1,(s58.2.2.2.1,(([]:List (List (Int))),r60.2)))))))) else ((bif ((r60.2 != 0)==false) then (bif ((r60.1.1 != g)==false) then (some (r60.1.2.1 != s58.2.2.2.2.2)) else (some true)) else (some true)).bind fun v61=>(bif v61 then (some (Sum.inr (Sum.inr (r59.1,((),(s58.2.2.1,(s58.2.2.2.1,s58.2.2.2.2.1))))))) else (bif decide ((s58.2.2.2.2.1.length+([r60.1.2.2]:List (List (Int))).length)*(24+1)≤most) then (some (Sum.inl (r59.1,((),(s58.2.2.1,(s58.2.2.2.1,((s58.2.2.2.2.1++([r60.1.2.2]:List (List (Int)))),(IntKind.wrap .i64 (s58.2.2.2.2.2+1))))))))) else none))))))) else (some (Sum.inr (Sum.inr (s58.1,((),(s58.2.2.1,(s58.2.2.2.1,s58.2.2.2.2.1)))))))))→
  (iterL F (w.toD,(),fr,(bl:Int),out,(i:Int))=some (.inr (w.toD,(),fr,(bl:Int),(scanG w.rd fr g k i out).1))∧(scanG w.rd fr g k i out).2=0)∨iterL F (w.toD,(),fr,(bl:Int),out,(i:Int))=some (.inl (w.toD,(),fr,(bl:Int),(scanG w.rd fr g k i out).1,(scanG w.rd fr g k i out).2)):=by
  intro k
  induction k with
  |zero=>
   intro i out hi ho F hF
   subst hF
   have:¬((i:Int)<(bl:Int)):=by omega
   refine .inl ⟨iterL_inr ?_,rfl⟩
   simp only[this,decide_false,cond_false,scanG]
  |succ k ih=>
   intro i out hi ho F hF
   have c1:(i:Int)<(bl:Int):=by omega
   have hw:IntKind.wrap .i64 (fr+(i:Int))=fr+(i:Int):=w64 (by omega) (by omega)
   by_cases a:(w.rd (fr+i)).2=0
   rotate_left
   ·have a':((w.rd (fr+i)).2 != 0)=true:=by simpa using a
    refine .inr (iterL_inr ?_)
    subst hF
    simp only[c1,decide_true,cond_true,hw,rd_eq ok hm,Option.bind_some,a',scanG,ne_eq,a,not_false_eq_true,if_true]
   obtain⟨rl,r8⟩:=rd_good ok a
   have hr:=recRead_eq _ r8 (by omega)
   by_cases b:(recR (w.rd (fr+i)).1).2=21
   ·refine .inr (iterL_inr ?_)
    subst hF
    simp only[c1,decide_true,cond_true,hw,rd_eq ok hm,Option.bind_some,a,bne_self_eq_false,cond_false,hr,b,beq_self_eq_true,scanG,ne_eq,not_true_eq_false,if_false,if_true]
   have b':((recR (w.rd (fr+i)).1).2==21)=false:=by simpa using b
   by_cases c:(recR (w.rd (fr+i)).1).2≠0∨(recR (w.rd (fr+i)).1).1.1≠g∨(recR (w.rd (fr+i)).1).1.2.1≠i
   ·refine .inl ⟨iterL_inr ?_,?_⟩
    ·subst hF
     simp only[c1,decide_true,cond_true,hw,rd_eq ok hm,Option.bind_some,a,bne_self_eq_false,cond_false,hr,b',or3 _ _ _ _ _ (fun _=>trivial),c,scanG,ne_eq,not_true_eq_false,if_false,b]
     rw[if_pos (by simp)]
    ·simp only[scanG,ne_eq,a,not_true_eq_false,if_false,b]
     rw[if_pos (by simpa using c)]
   ·have hstep:F (w.toD,(),fr,(bl:Int),out,(i:Int))=some (.inl (w.toD,(),fr,(bl:Int),out++[(recR (w.rd (fr+i)).1).1.2.2],((i+1:Nat):Int))):=by
     subst hF
     have m1:((out.length+([(recR (w.rd (fr+i)).1).1.2.2]:List (List Int)).length)*(24+1)≤most):=by unfold most;simp;omega
     simp only[c1,decide_true,cond_true,hw,rd_eq ok hm,Option.bind_some,a,bne_self_eq_false,cond_false,hr,b',or3 _ _ _ _ _ (fun _=>trivial),c,decide_false,m1,wsucc (show i<2^62 by omega)]
    have es:scanG w.rd fr g (k+1) i out=scanG w.rd fr g k (i+1) (out++[(recR (w.rd (fr+i)).1).1.2.2]):=by
     rw[scanG,if_neg (fun h=>h a),if_neg b,if_neg c]
    rw[iterL_inl hstep,es]
    exact ih (i+1) _ (by omega) (by simp;omega) F hF
 rcases key bl 0 [] (by omega) (Nat.le_refl _) _ rfl with ⟨h,h'⟩|h
 ·rw[h']
  dsimp only
  rw[show ((0:Nat):Int)=0 from rfl]at h
  rw[h];rfl
 ·dsimp only
  rw[show ((0:Nat):Int)=0 from rfl]at h
  rw[h];rfl
end Go.Ideal.Seat
set_option linter.unusedVariables false
set_option linter.unusedSimpArgs false
namespace Go.Ideal.Seat
open Go.Ideal.Plain
def zB:List Int:=List.replicate 256 0
theorem zB_ok:zB.length=256∧B8 zB:=⟨List.length_replicate,B8.rep _⟩
def newD (n:Nat):Dsk:=⟨List.replicate n zB,[],[],false,none⟩
theorem newD_ok (n:Nat) (h:n≤256):(newD n).Ok 0:=
 ⟨by show (List.replicate n zB).length≤256;rw[List.length_replicate];exact h,(fun b hb=>by rw[List.eq_of_mem_replicate hb];exact zB_ok),(fun x hx=>by cases hx),Nat.le_refl _,by show 0≤2^36;decide,(fun k hk=>by cases hk)⟩
theorem cloneI:O_slices_Clone_int_int []=some []:=by
 unfold O_slices_Clone_int_int
 have hm:(([]:List Int).length+([]:List Int).length)*(8+1)≤most:=by unfold most;decide
 simp only[hm,decide_true,cond_true,List.nil_append]
 exact both_self
theorem newD_eq (n:Nat) (h1:1≤n) (h2:n≤256):O_disk_New ((n:Int),[])=some (some (newD n).toD,0):=by
 unfold O_disk_New
 have a:¬((n:Int)<1):=by omega
 have b:¬((n:Int)>256):=by omega
 have hm:decide ((0:Nat)≤256∧(256:Int)*((1+1:Nat):Int)≤most)=true:=by unfold most;decide
 have hz:List.replicate (Int.toNat 256) (0:Int)=zB:=rfl
 simp only[a,b,decide_false,beq_self_eq_true,cond_true,Option.bind_some,cond_false,cloneI,hm,hz]
 rw[countLoop n (fun(l:List (List Int)) i=>(l,([]:List Wr),([]:List Int),false,(-1:Int),i)) (fun _ l=>l++[zB]) (fun i l=>l.length=i) (fin:=fun l=>(l,([]:List Wr),([]:List Int),false,(-1:Int),(n:Int),false)) rfl (fun l i hi hl=>?_) (fun l hl=>by simp)]
 ·rw[append_fold];rfl
 ·have c:(i:Int)<(n:Int):=by omega
  have m1:((l.length+([zB]:List (List Int)).length)*(24+1)≤most):=by unfold most;simp;omega
  refine⟨?_,by simp[hl]⟩
  simp only[c,m1,hm,decide_true,cond_true,wsucc (show i<2^62 by omega)]
theorem refNew (n:Nat) (h2:n≤256):F_batonref21_New ((n:Int),[])=some (newD n).toR:=by
 unfold F_batonref21_New
 have hm:decide ((0:Nat)≤256∧(256:Int)*((1+1:Nat):Int)≤most)=true:=by unfold most;decide
 have hz:List.replicate (Int.toNat 256) (0:Int)=zB:=rfl
 simp only[hm,cond_true,hz]
 rw[countLoop n (fun(l:List (List Int)) i=>(l,([]:List Wr),([]:List Int),false,false,(0:Int),i)) (fun _ l=>l++[zB]) (fun i l=>l.length=i) (fin:=fun l=>(l,([]:List Wr),([]:List Int),false,false,(0:Int),(n:Int),false)) rfl (fun l i hi hl=>?_) (fun l hl=>by simp)]
 ·rw[append_fold];rfl
 ·have c:(i:Int)<(n:Int):=by omega
  have m1:((l.length+([zB]:List (List Int)).length)*(24+1)≤most):=by unfold most;simp;omega
  refine⟨?_,by simp[hl]⟩
  simp only[c,m1,hm,decide_true,cond_true,wsucc (show i<2^62 by omega)]
theorem jNew_eq (w:Dsk) (fr bl:Int) (h:w.blocks.length≤256):O_journal_New (w.toD,fr,bl)=some (w.toD,if fr<0∨bl<1∨bl>w.blocks.length∨fr>w.blocks.length-bl then (none,1) else (some ((),fr,bl),0)):=by
 unfold O_journal_New O_disk_Disk_Blocks
 have hb:w.toD.1.length=w.blocks.length:=rfl
 simp only[Option.bind_some,hb]
 by_cases a:fr<0
 ·simp only[a,decide_true,show (true==false)=false from rfl,cond_false,Option.bind_some,cond_true,true_or,if_true]
 by_cases b:bl<1
 ·simp only[a,b,decide_true,decide_false,beq_self_eq_true,show (true==false)=false from rfl,cond_false,Option.bind_some,cond_true,true_or,or_true,if_true]
 by_cases c:bl>(w.blocks.length:Int)
 ·simp only[a,b,c,decide_true,decide_false,beq_self_eq_true,show (true==false)=false from rfl,cond_false,Option.bind_some,cond_true,true_or,or_true,if_true]
 have hw:IntKind.wrap .i64 ((w.blocks.length:Int)-bl)=(w.blocks.length:Int)-bl:=w64 (by omega) (by omega)
 simp only[a,b,c,hw,decide_false,beq_self_eq_true,cond_true,Option.bind_some,false_or]
 by_cases d:fr>(w.blocks.length:Int)-bl
 ·simp only[d,decide_true,cond_true,if_true]
 ·simp only[d,decide_false,cond_false,if_false]
def strs (l:List Int):List UInt8:=l.map fun n=>UInt8.ofNat (Int.toNat n)
theorem same23 (x y:List (List Int)) (h:x.length<2^60):F_batonref23_Same (x,y)=some (decide (x.map strs=y.map strs)):=by
 unfold F_batonref23_Same
 by_cases hl:x.length=y.length
 ·have hne:((((x.length):Nat):Int) != (((y.length):Nat):Int))=false:=by simp[hl]
  simp only[hne,cond_false]
  rw[sameLoop (l:=x) (m:=y) hl (fun d e=>strs d==strs e) (z:=((x.length:Int),false)) (fun i d e hd he=>?_) (by simp)]
  ·have key:∀(a b:List (List Int)),a.length=b.length→(((a.zip b).all (fun x=>strs x.1==strs x.2))=true↔a.map strs=b.map strs):=by
    intro a
    induction a with
    |nil=>intro b hb;match b,hb with|[],_=>simp
    |cons p a ih=>intro b hb;match b,hb with|q::b,hb=>simp[ih b (by simpa using hb)]
   by_cases hab:x.map strs=y.map strs
   ·rw[if_pos ((key x y hl).2 hab)];simp[hab]
   ·rw[if_neg (fun h=>hab ((key x y hl).1 h))];simp[hab]
  ·have hi:=getE_bound hd
   have hi':(i:Int)<(x.length:Int):=by omega
   simp only[hi',decide_true,cond_true,Int.natCast_nonneg,Int.toNat_natCast,hd,he,Option.bind_some,wsucc (show i<2^62 by omega)]
   change (bif (!(strs d==strs e)) then _ else _)=_
   by_cases hde:(strs d==strs e)=true
   ·simp[hde]
   ·simp[(Bool.not_eq_true _).mp hde]
 ·have hne:((((x.length):Nat):Int) != (((y.length):Nat):Int))=true:=by simp;omega
  have:x.map strs≠y.map strs:=fun e=>hl (by have:=congrArg List.length e;simpa using this)
  simp only[hne,cond_true,this,decide_false]
theorem refJAppend {w:Dsk} {m:Nat} (ok:w.Ok m) (hm:m+3≤2^30) {fr bl g no:Int} {d:List Int} (hd:B8 d) (h1:0≤fr) (h2:fr≤256) (h3:bl≤256):
 O_batonref23_Append (w.toR,fr,bl,g,no,d)=some ((jAppend w fr bl g no d).1.toR,(jAppend w fr bl g no d).2):=by
 unfold O_batonref23_Append jAppend
 have c1:(bif ((decide (no<0))==false) then (some (decide (no≥bl))) else (some true))=some (decide (no<0∨no≥bl)):=by
  by_cases a:no<0
  ·simp[a]
  ·by_cases b:no≥bl<;>simp[a,b]
 simp only[c1,Option.bind_some]
 by_cases a:no<0∨no≥bl
 ·simp only[a,decide_true,cond_true,if_true]
 simp only[a,decide_false,cond_false,if_false,refCheck,Option.bind_some]
 by_cases b:recErr g no d=0
 rotate_left
 ·have:(recErr g no d != 0)=true:=by simpa using b
  simp only[this,cond_true,ne_eq,b,not_false_eq_true,if_true]
 have hw:IntKind.wrap .i64 (fr+no)=fr+no:=w64 (by omega) (by omega)
 simp only[b,bne_self_eq_false,cond_false,ne_eq,not_true_eq_false,if_false,if_true,hw,refRd ok (by omega),Option.bind_some]
 by_cases c:(w.rd (fr+no)).2=0
 rotate_left
 ·have:((w.rd (fr+no)).2 != 0)=true:=by simpa using c
  simp only[this,cond_true,c,not_false_eq_true,if_true]
 obtain⟨rl,r8⟩:=rd_good ok c
 have he:=recErr_zero.1 b
 have hB:=recB_B8 g no he.2.2.2.2 hd
 have hL:=recB_len g no he.2.2.2.2
 have g255:(w.rd (fr+no)).1[255]? = some ((w.rd (fr+no)).1.getD 255 0):=getD_some (by omega)
 have gB:(recB g no d)[255]? = some ((recB g no d).getD 255 0):=getD_some (by omega)
 have m1:((([]:List Int).length+256)*(1+1)≤most):=by unfold most;decide
 have okU:=unmark_ok ok (n:=fr+no) r8
 have tail:∀s:Dsk×Int,s.1.Ok (m+1)→s.2=0→((F_batonref22_Make (g,no,d)).bind fun r44=>((O_batonref23_lay (s.1.toR,(fr+no,r44))).bind fun r45=>(bif (r45.2 != 0) then (some r45) else (bif decide ((([]:List (Int)).length+r44.length)*(1+1)≤most) then (bif decide (255<(([]:List (Int))++r44).length) then (((([]:List (Int))++r44)[255]?).bind fun e46=>((O_batonref23_lay (r45.1,(fr+no,((([]:List (Int))++r44).set 255 1)))).bind fun r47=>(some r47))) else none) else none)))) =
  some ((laid (laid s (fr+no) (recB g no d)) (fr+no) (markB (recB g no d) true)).1.toR,(laid (laid s (fr+no) (recB g no d)) (fr+no) (markB (recB g no d) true)).2):=by
  intro s oks hs
  have e1:laid s (fr+no) (recB g no d)=s.1.lay (fr+no) (recB g no d):=by unfold laid;rw[if_neg (fun h=>h hs)]
  rw[e1]
  simp only[refMake g no d hd b,Option.bind_some,refJlay oks (by omega) hB]
  by_cases h:(s.1.lay (fr+no) (recB g no d)).2=0
  ·have e2:laid (s.1.lay (fr+no) (recB g no d)) (fr+no) (markB (recB g no d) true)=(s.1.lay (fr+no) (recB g no d)).1.lay (fr+no) (markB (recB g no d) true):=by unfold laid;rw[if_neg (fun h'=>h' h)]
   rw[e2]
   have em:(recB g no d).set 255 1=markB (recB g no d) true:=rfl
   simp only[h,bne_self_eq_false,cond_false,hL,m1,decide_true,cond_true,List.nil_append,show (255<256) from by decide,gB,Option.bind_some,em]
   rw[refJlay (lay_ok oks hB) (by omega) (markB_B8 hB true)]
   rfl
  ·have:((s.1.lay (fr+no) (recB g no d)).2 != 0)=true:=by simpa using h
   have e2:laid (s.1.lay (fr+no) (recB g no d)) (fr+no) (markB (recB g no d) true)=(s.1.lay (fr+no) (recB g no d)):=by unfold laid;rw[if_pos h]
   rw[e2]
   simp only[this,cond_true]
 simp only[c,bne_self_eq_false,cond_false,not_true_eq_false,if_false,g255,Option.bind_some]
 by_cases z:(w.rd (fr+no)).1.getD 255 0=0
 ·have eu:unmark w (fr+no) (w.rd (fr+no)).1=(w,0):=by unfold unmark;rw[if_neg (fun h=>h z)]
  simp only[z,bne_self_eq_false,cond_false,Option.bind_some]
  rw[eu]
  exact tail (w,0) (Ok.up ok (by omega)) rfl
 ·have:((w.rd (fr+no)).1.getD 255 0 != 0)=true:=by simpa using z
  have eu:unmark w (fr+no) (w.rd (fr+no)).1=w.lay (fr+no) (markB (w.rd (fr+no)).1 false):=by unfold unmark;rw[if_pos z]
  have em:(w.rd (fr+no)).1.set 255 0=markB (w.rd (fr+no)).1 false:=rfl
  simp only[this,cond_true,rl,m1,decide_true,List.nil_append,show (255<256) from by decide,g255,Option.bind_some,em,refJlay ok (by omega) (markB_B8 r8 false)]
  rw[eu]at okU ⊢
  by_cases h:(w.lay (fr+no) (markB (w.rd (fr+no)).1 false)).2=0
  ·simp only[h,bne_self_eq_false,cond_false,Option.bind_some]
   exact tail _ okU h
  ·have h':((w.lay (fr+no) (markB (w.rd (fr+no)).1 false)).2 != 0)=true:=by simpa using h
   have e1:laid (w.lay (fr+no) (markB (w.rd (fr+no)).1 false)) (fr+no) (recB g no d)=w.lay (fr+no) (markB (w.rd (fr+no)).1 false):=by unfold laid;rw[if_pos h]
   have e2:laid (w.lay (fr+no) (markB (w.rd (fr+no)).1 false)) (fr+no) (markB (recB g no d) true)=w.lay (fr+no) (markB (w.rd (fr+no)).1 false):=by unfold laid;rw[if_pos h]
   rw[e1,e2]
   simp only[h',cond_true,Option.bind_some]
theorem refJScan {w:Dsk} {m:Nat} (ok:w.Ok m) (hm:m≤2^30) {fr g:Int} {bl:Nat} (h1:0≤fr) (h2:fr≤256) (h3:bl≤256):
 O_batonref23_Scan (w.toR,fr,(bl:Int),g)=some (jScan w fr g bl):=by
 unfold O_batonref23_Scan jScan
 have key:∀(k i:Nat) (out:List (List Int)),i+k=bl→out.length≤i→∀F:(List (List Int)×Int)→Option ((List (List Int)×Int)⊕((List (List Int)×Int)⊕List (List Int))),
  F=(fun s58=>(bif (decide (s58.2<(bl:Int))) then ((O_batonref21_Read (w.toR,(IntKind.wrap .i64 (fr+s58.2)))).bind fun r59=>(bif (r59.2 != 0) then (some (Sum.inr (Sum.inl (([]:List (List (Int))),r59.2)))) else ((F_batonref22_Read r59.1).bind fun r60=>(bif (r60.2==21) then (some (Sum.inr (Sum.inl (([]:List (List (Int))),21)))) else ((bif ((r60.2 != 0)==false) then (bif ((r60.1.1 != g)==false) then (some (r60.1.2.1 != s58.2)) else (some true)) else (some true)).bind fun v61=>(bif v61 then (some (Sum.inr (Sum.inl (s58.1,0)))) else (bif decide ((s58.1.length+([r60.1.2.2]:List (List (Int))).length)*(24+1)≤most) then (some (Sum.inl ((s58.1++([r60.1.2.2]:List (List (Int)))),(IntKind.wrap .i64 (s58.2+1))))) else none))))))) else (some (Sum.inr (Sum.inr s58.1)))))→
  (iterL F (out,(i:Int))=some (.inr (scanG w.rd fr g k i out).1)∧(scanG w.rd fr g k i out).2=0)∨iterL F (out,(i:Int))=some (.inl (scanG w.rd fr g k i out)):=by
  intro k
  induction k with
  |zero=>
   intro i out hi ho F hF
   subst hF
   have:¬((i:Int)<(bl:Int)):=by omega
   refine .inl ⟨iterL_inr ?_,rfl⟩
   simp only[this,decide_false,cond_false,scanG]
  |succ k ih=>
   intro i out hi ho F hF
   have c1:(i:Int)<(bl:Int):=by omega
   have hw:IntKind.wrap .i64 (fr+(i:Int))=fr+(i:Int):=w64 (by omega) (by omega)
   refine(if a:(w.rd (fr+i)).2=0 then ?_ else ?_)
   rotate_left
   ·have a':((w.rd (fr+i)).2 != 0)=true:=by simpa using a
    refine .inr (iterL_inr ?_)
    subst hF
    simp only[c1,decide_true,cond_true,hw,refRd ok hm,Option.bind_some,a',scanG,ne_eq,a,not_false_eq_true,if_true]
   obtain⟨rl,r8⟩:=rd_good ok a
   have hr:=refRead22 _ r8 (by omega)
   by_cases b:(recR (w.rd (fr+i)).1).2=21
   ·refine .inr (iterL_inr ?_)
    subst hF
    simp only[c1,decide_true,cond_true,hw,refRd ok hm,Option.bind_some,a,bne_self_eq_false,cond_false,hr,b,beq_self_eq_true,scanG,ne_eq,not_true_eq_false,if_false,if_true]
   have b':((recR (w.rd (fr+i)).1).2==21)=false:=by simpa using b
   by_cases c:(recR (w.rd (fr+i)).1).2≠0∨(recR (w.rd (fr+i)).1).1.1≠g∨(recR (w.rd (fr+i)).1).1.2.1≠i
   ·refine .inr (iterL_inr ?_)
    subst hF
    simp only[c1,decide_true,cond_true,hw,refRd ok hm,Option.bind_some,a,bne_self_eq_false,cond_false,hr,b',or3 _ _ _ _ _ (fun _=>trivial),c,scanG,ne_eq,not_true_eq_false,if_false,b]
    rw[if_pos (by simp)]
   ·have hstep:F (out,(i:Int))=some (.inl (out++[(recR (w.rd (fr+i)).1).1.2.2],((i+1:Nat):Int))):=by
     subst hF
     have m1:((out.length+([(recR (w.rd (fr+i)).1).1.2.2]:List (List Int)).length)*(24+1)≤most):=by unfold most;simp;omega
     simp only[c1,decide_true,cond_true,hw,refRd ok hm,Option.bind_some,a,bne_self_eq_false,cond_false,hr,b',or3 _ _ _ _ _ (fun _=>trivial),c,decide_false,m1,wsucc (show i<2^62 by omega)]
    have es:scanG w.rd fr g (k+1) i out=scanG w.rd fr g k (i+1) (out++[(recR (w.rd (fr+i)).1).1.2.2]):=by
     rw[scanG,if_neg (fun h=>h a),if_neg b,if_neg c]
    rw[iterL_inl hstep,es]
    exact ih (i+1) _ (by omega) (by simp;omega) F hF
 rcases key bl 0 [] (by omega) (Nat.le_refl _) _ rfl with ⟨h,h'⟩|h
 ·dsimp only
  rw[show ((0:Nat):Int)=0 from rfl]at h
  rw[h]
  simp only[Option.bind_some]
  rw[←h']
 ·dsimp only
  rw[show ((0:Nat):Int)=0 from rfl]at h
  rw[h];rfl
end Go.Ideal.Seat
set_option linter.unusedVariables false
set_option linter.unusedSimpArgs false
namespace Go.Ideal.Seat
open Go.Ideal.Plain
def Old (g:Int) (b:List Int):Prop:=(recR b).2≠21∧((recR b).2≠0∨(recR b).1.1≠g)
theorem recR_zero {b:List Int} (h:b.length=256) (h0:b.getD 255 0=0):recR b=((0,0,[]),3):=by
 classical
 unfold recR
 rw[if_neg (fun h'=>h' h),if_pos h0]
theorem old_zero {g:Int} {b:List Int} (h:b.length=256) (h0:b.getD 255 0=0):Old g b:=by
 unfold Old;rw[recR_zero h h0];exact⟨by decide,.inl (by decide)⟩
theorem set_getD {bs:List (List Int)} {i:Nat} {b:List Int} (h:i<bs.length):(bs.set i b).getD i []=b:=by
 rw[List.getD_eq_getElem?_getD,List.getElem?_set_self h];rfl
theorem set_getD_ne {bs:List (List Int)} {i j:Nat} {b:List Int} (h:i≠j):(bs.set i b).getD j []=bs.getD j []:=by
 rw[List.getD_eq_getElem?_getD,List.getElem?_set_ne h,←List.getD_eq_getElem?_getD]
theorem set_same {bs:List (List Int)} {i:Nat} (h:i<bs.length):bs.set i (bs.getD i [])=bs:=by
 have e:bs.getD i []=bs[i]:=by rw[List.getD_eq_getElem?_getD,List.getElem?_eq_getElem h];rfl
 rw[e];exact List.set_getElem_self h
def idle (bs:List (List Int)) (c:Option Nat):Dsk:=⟨bs,[],[],false,c⟩
theorem idle_there {bs:List (List Int)} {c:Option Nat} {n:Nat} (h:n<bs.length):(idle bs c).there (n:Int):=⟨by omega,by show (n:Int)<(bs.length:Int);omega⟩
theorem idle_rd {bs:List (List Int)} {c:Option Nat} {n:Nat} (h:n<bs.length):(idle bs c).rd (n:Int)=(bs.getD n [],0):=by
 unfold Dsk.rd
 have:(idle bs c).down=false:=rfl
 rw[if_neg (by rw[this];decide),if_neg (fun h'=>h' (idle_there h))]
 rfl
theorem layB_all {bs:List (List Int)} {n:Nat} {b:List Int} (hb:Blk bs) (h:n<bs.length) (hl:b.length=256):layB bs ((n:Int),b) 256=bs.set n b:=by
 have:=(hb _ (List.mem_of_getElem? (getD_blk h))).1
 rw[layB]
 simp only[Int.toNat_natCast]
 rw[List.take_of_length_le (by omega),List.drop_of_length_le (by omega),List.append_nil]
theorem idle_lay {bs:List (List Int)} {c:Option Nat} {n:Nat} {b:List Int} (hb:Blk bs) (h:n<bs.length) (hl:b.length=256):(idle bs c).lay (n:Int) b=match c with
 |none=>(idle (bs.set n b) none,0)
 |some 0=>(⟨bs,[],[],true,some 0⟩,19)
 |some 1=>(⟨bs,[((n:Int),b)],[],true,some 0⟩,19)
 |some (k+2)=>(idle (bs.set n b) (some k),0):=by
 have hp:∀c:Option Nat,(idle bs c).put (n:Int) b=if (idle bs c).step.2=true then ({ (idle bs c).step.1 with waits:=[((n:Int),b)] },0) else ((idle bs c).step.1,19):=fun c=>by
  unfold Dsk.put
  have:(idle bs c).down=false:=rfl
  rw[if_neg (by rw[this];decide),if_neg (by rintro (h'|h');exact h' (idle_there h);exact h' hl),if_neg (by show ¬(n:Int)∈[];simp)]
  have:(idle bs c).step.1.waits=[]:=(step_same _).2.1
  rw[this];rfl
 have hs:∀c:Option Nat,(⟨bs,[((n:Int),b)],[],false,c⟩:Dsk).sync=if (⟨bs,[((n:Int),b)],[],false,c⟩:Dsk).step.2=true then ({ (⟨bs,[((n:Int),b)],[],false,c⟩:Dsk).step.1 with blocks:=bs.set n b,waits:=[] },0) else ((⟨bs,[((n:Int),b)],[],false,c⟩:Dsk).step.1,19):=fun c=>by
  unfold Dsk.sync
  simp only[List.foldl_cons,List.foldl_nil,layB_all hb h hl]
  rfl
 unfold Dsk.lay
 rw[hp]
 match c with
 |none=>
  have:=hs none
  simpa [Dsk.step,idle]using this
 |some 0=>simp[Dsk.step,idle]
 |some 1=>
  have:=hs (some 0)
  simpa [Dsk.step,idle]using this
 |some (k+2)=>
  have:=hs (some (k+1))
  simpa [Dsk.step,idle]using this
def fullB (g no:Int) (d:List Int):List Int:=markB (recB g no d) true
theorem crash_none {bs:List (List Int)} {c:Option Nat} {dn:Bool} (picks:List Int):((⟨bs,[],[],dn,c⟩:Dsk).crash picks)=idle bs none:=by
 unfold Dsk.crash;simp[idle]
theorem crash_one {bs:List (List Int)} {c:Option Nat} {dn:Bool} {x:Wr} (picks:List Int):∃k,k≤256∧(((⟨bs,[x],[],dn,c⟩:Dsk).crash picks)=idle bs none∨((⟨bs,[x],[],dn,c⟩:Dsk).crash picks)=idle (layB bs x k) none):=by
 match picks with
 |[]=>exact⟨0,by omega,.inl (by simp[Dsk.crash,idle])⟩
 |p::ps=>exact⟨(clampP p).toNat,by have:=clampP_le p;omega,.inr (by simp[Dsk.crash,idle])⟩
theorem take_drop_mark {b:List Int} {is:Bool} (h:b.length=256) {k:Nat} (hk:k≤256):(markB b is).take k++b.drop k=b∨(markB b is).take k++b.drop k=markB b is:=by
 by_cases hk2:k=256
 ·subst hk2
  refine .inr ?_
  rw[List.take_of_length_le (by rw[markB_len];omega),List.drop_of_length_le (by omega),List.append_nil]
 ·refine .inl ?_
  rw[markB,List.take_set_of_le (by omega),List.take_append_drop]
theorem mark_zero {b:List Int} (h:b.length=256):(markB b false).getD 255 0=0:=by
 rw[List.getD_eq_getElem?_getD,markB,List.getElem?_set_self (by omega)];rfl
theorem recB_zero {g no:Int} {d:List Int} (h:d.length≤234):(recB g no d).getD 255 0=0:=by
 have hb:=recBody_len g no h
 rw[recB,←List.append_assoc,List.getD_eq_getElem?_getD,List.getElem?_append_right (by rw[List.length_append,hb,sum4_len];omega),List.length_append,hb,sum4_len];rfl
theorem torn_zero {a b:List Int} (ha:a.length=256) (hb:b.length=256) (h1:a.getD 255 0=0) (h2:b.getD 255 0=0) {k:Nat} (hk:k≤256):(a.take k++b.drop k).getD 255 0=0∧(a.take k++b.drop k).length=256:=by
 refine⟨?_,by simp[ha,hb];omega⟩
 by_cases h:k=256
 ·subst h
  rw[List.take_of_length_le (by omega),List.drop_of_length_le (by omega),List.append_nil];exact h1
 ·have hl:(a.take k).length=k:=by rw[List.length_take];omega
  rw[List.getD_eq_getElem?_getD,List.getElem?_append_right (by omega),hl,List.getElem?_drop,show k+(255-k)=255 by omega,←List.getD_eq_getElem?_getD];exact h2
def Left (g no:Int) (d:List Int) (bs:List (List Int)) (n:Nat) (c:Option Nat) (r:Dsk×Int):Prop:=
 (r.2=0∧∃c',r.1=idle (bs.set n (fullB g no d)) c'∧(c=none→c'=none)∧(c'=none→c=none)∧(∀k,c'=some k→∃j,c=some j∧k≤j))∨
 (r.2=19∧c≠none∧r.1.down=true∧r.1.Ok 1∧∀picks,∃b,r.1.crash picks=idle (bs.set n b) none∧b.length=256∧B8 b∧(Old g b∨b=fullB g no d))
theorem ok_of {bs ws:List _} {c:Option Nat} {dn:Bool} (hb:Blk bs) (hf:bs.length≤256) (hw:∀x∈ws,(0≤x.1∧x.1<(bs.length:Int))∧x.2.length=256∧B8 x.2) (hl:ws.length≤1) (hc:∀k,c=some k→k<9223372036854775808):(⟨bs,ws,[],dn,c⟩:Dsk).Ok 1:=
 ⟨hf,hb,hw,hl,by show 0≤2^36;decide,hc⟩
theorem Blk.set {bs:List (List Int)} (h:Blk bs) {n:Nat} {b:List Int} (hl:b.length=256) (h8:B8 b):Blk (bs.set n b):=fun x hx=>by
 rcases List.mem_or_eq_of_mem_set hx with h'|rfl
 ·exact h x h'
 ·exact⟨hl,h8⟩
theorem crash_lay {bs:List (List Int)} {n:Nat} {b o:List Int} {g:Int} {c:Option Nat} (hn:n<bs.length) (ho:(bs.getD n [])=o) (P:List Int→Prop) (h0:P o) (h1:∀k,k≤256→P (b.take k++o.drop k)) (picks:List Int):
 ∃b',(⟨bs,[((n:Int),b)],[],true,c⟩:Dsk).crash picks=idle (bs.set n b') none∧P b':=by
 obtain⟨k,hk,h|h⟩:=crash_one (bs:=bs) (c:=c) (dn:=true) (x:=((n:Int),b)) picks
 ·exact⟨o,by rw[h,←ho,set_same hn],h0⟩
 ·exact⟨b.take k++o.drop k,by rw[h,layB];simp only[Int.toNat_natCast];rw[ho],h1 k hk⟩
theorem laid_stop (w:Dsk) (n:Int) (b:List Int):laid (w,19) n b=(w,19):=if_pos (show (19:Int)≠0 by decide)
theorem two_left {g no:Int} {d:List Int} {bs:List (List Int)} {n:Nat} {c:Option Nat} (hb:Blk bs) (hf:bs.length≤256) (hn:n<bs.length) (he:recErr g no d=0) (hd:B8 d) (hz:(bs.getD n []).getD 255 0=0) (hc:∀k,c=some k→k<9223372036854775808):
 Left g no d bs n c (laid (laid (idle bs c,0) (n:Int) (recB g no d)) (n:Int) (fullB g no d)):=by
 have he':=recErr_zero.1 he
 have hL:=recB_len g no he'.2.2.2.2
 have hB:=recB_B8 g no he'.2.2.2.2 hd
 have hLf:(fullB g no d).length=256:=by unfold fullB;rw[markB_len,hL]
 have hBf:B8 (fullB g no d):=markB_B8 hB true
 have ho:=hb _ (List.mem_of_getElem? (getD_blk hn))
 have hz2:(recB g no d).getD 255 0=0:=recB_zero he'.2.2.2.2
 have e1:laid (idle bs c,0) (n:Int) (recB g no d)=(idle bs c).lay (n:Int) (recB g no d):=by unfold laid;rw[if_neg (fun h=>h rfl)]
 rw[e1,idle_lay hb hn hL]
 have hb2:Blk (bs.set n (recB g no d)):=hb.set hL hB
 have hn2:n<(bs.set n (recB g no d)).length:=by simpa using hn
 have second:∀c',laid (idle (bs.set n (recB g no d)) c',0) (n:Int) (fullB g no d)=(idle (bs.set n (recB g no d)) c').lay (n:Int) (fullB g no d):=fun c'=>by unfold laid;rw[if_neg (fun h=>h rfl)]
 have stop:∀w:Dsk,laid (w,19) (n:Int) (fullB g no d)=(w,19):=fun w=>laid_stop w _ _
 have okB:∀{b:List Int},B8 (bs.getD n [])→B8 b→∀k,B8 (b.take k++(bs.getD n []).drop k):=fun h1 h2 k=>(h2.take k).app (h1.drop k)
 match c with
 |none=>
  simp only[second]
  rw[idle_lay hb2 hn2 hLf,List.set_set]
  exact .inl ⟨rfl,none,rfl,fun _=>rfl,fun _=>rfl,fun k h=>by cases h⟩
 |some 0=>
  simp only[stop]
  refine .inr ⟨rfl,by simp,rfl,ok_of hb hf (fun x hx=>by cases hx) (by simp) hc,fun picks=>⟨bs.getD n [],by rw[crash_none,set_same hn],ho.1,ho.2,.inl (old_zero ho.1 hz)⟩⟩
 |some 1=>
  simp only[stop]
  refine .inr ⟨rfl,by simp,rfl,ok_of hb hf (fun x hx=>?_) (by simp) (fun k h=>by simp at h;omega),fun picks=>?_⟩
  ·rw[List.mem_singleton]at hx;subst hx;exact⟨⟨by omega,by show (n:Int)<_;omega⟩,hL,hB⟩
  ·obtain⟨b',h1,h2,h3,h4⟩:=crash_lay (b:=recB g no d) (c:=some 0) (g:=g) hn rfl (fun b'=>b'.length=256∧B8 b'∧b'.getD 255 0=0) ⟨ho.1,ho.2,hz⟩ (fun k hk=>⟨(torn_zero hL ho.1 hz2 hz hk).2,okB ho.2 hB k,(torn_zero hL ho.1 hz2 hz hk).1⟩) picks
   exact⟨b',h1,h2,h3,.inl (old_zero h2 h4)⟩
 |some 2=>
  simp only[second]
  rw[idle_lay hb2 hn2 hLf]
  refine .inr ⟨rfl,by simp,rfl,ok_of hb2 (by simpa using hf) (fun x hx=>by cases hx) (by simp) (fun k h=>by simp at h;omega),fun picks=>⟨recB g no d,by rw[crash_none],hL,hB,.inl (old_zero hL hz2)⟩⟩
 |some 3=>
  simp only[second]
  rw[idle_lay hb2 hn2 hLf]
  refine .inr ⟨rfl,by simp,rfl,ok_of hb2 (by simpa using hf) (fun x hx=>?_) (by simp) (fun k h=>by simp at h;omega),fun picks=>?_⟩
  ·rw[List.mem_singleton]at hx;subst hx;exact⟨⟨by omega,by show (n:Int)<_;omega⟩,hLf,hBf⟩
  ·obtain⟨b',h1,h2⟩:=crash_lay (b:=fullB g no d) (c:=some 0) (g:=g) hn2 (set_getD hn) (fun b'=>b'=recB g no d∨b'=fullB g no d) (.inl rfl) (fun k hk=>take_drop_mark hL hk) picks
   rw[List.set_set]at h1
   rcases h2 with rfl|rfl
   ·exact⟨_,h1,hL,hB,.inl (old_zero hL hz2)⟩
   ·exact⟨_,h1,hLf,hBf,.inr rfl⟩
 |some (k+4)=>
  simp only[second]
  rw[show k+4=(k+2)+2 by omega]
  rw[idle_lay hb2 hn2 hLf,List.set_set]
  exact .inl ⟨rfl,some k,rfl,fun h=>(by cases h),fun h=>(by cases h),fun j h=>⟨_,rfl,by simp at h;omega⟩⟩
theorem append_left {g:Int} {no:Nat} {d:List Int} {bs:List (List Int)} {c:Option Nat} {fr bl:Nat} (hb:Blk bs) (hf:bs.length≤256) (hno:no<bl) (hn:fr+no<bs.length) (he:recErr g no d=0) (hd:B8 d) (ho:Old g (bs.getD (fr+no) [])) (hc:∀k,c=some k→k<9223372036854775808):
 Left g no d bs (fr+no) c (jAppend (idle bs c) fr bl g no d):=by
 have ha:jAppend (idle bs c) fr bl g no d=laid (laid (unmark (idle bs c) ((fr+no:Nat):Int) (bs.getD (fr+no) [])) ((fr+no:Nat):Int) (recB g no d)) ((fr+no:Nat):Int) (fullB g no d):=by
  have e:((fr:Int)+(no:Int))=((fr+no:Nat):Int):=by omega
  unfold jAppend fullB
  rw[if_neg (by omega),if_neg (fun h=>h he),e,idle_rd hn,if_neg (fun h=>h rfl)]
 rw[ha]
 have hoo:=hb _ (List.mem_of_getElem? (getD_blk hn))
 unfold unmark
 by_cases hz:(bs.getD (fr+no) []).getD 255 0=0
 ·rw[if_neg (fun h=>h hz)]
  exact two_left hb hf hn he hd hz hc
 ·rw[if_pos hz]
  have hLu:(markB (bs.getD (fr+no) []) false).length=256:=by rw[markB_len];exact hoo.1
  have hBu:B8 (markB (bs.getD (fr+no) []) false):=markB_B8 hoo.2 false
  rw[idle_lay hb hn hLu]
  have stop:∀(w:Dsk) (b b':List Int),laid (laid (w,19) ((fr+no:Nat):Int) b) ((fr+no:Nat):Int) b'=(w,19):=fun w b b'=>by rw[laid_stop,laid_stop]
  have hz2:((bs.set (fr+no) (markB (bs.getD (fr+no) []) false)).getD (fr+no) []).getD 255 0=0:=by rw[set_getD hn];exact mark_zero hoo.1
  have two:=fun c' hc'=>two_left (g:=g) (no:=no) (d:=d) (c:=c') (hb.set (n:=fr+no) hLu hBu) (by simpa using hf) (by simpa using hn) he hd hz2 hc'
  have back:∀c' r,(c'=none↔c=none)→(∀k,c'=some k→∃j,c=some j∧k≤j)→Left g no d (bs.set (fr+no) (markB (bs.getD (fr+no) []) false)) (fr+no) c' r→Left g no d bs (fr+no) c r:=by
   intro c' r hcc hck h
   rcases h with ⟨h1,c2,h2,h3,h3',h4⟩|⟨h1,h2,h3,h4,h5⟩
   ·rw[List.set_set]at h2
    refine .inl ⟨h1,c2,h2,fun h=>h3 (hcc.2 h),fun h=>hcc.1 (h3' h),fun k hk=>?_⟩
    obtain⟨j,hj,hle⟩:=h4 k hk
    obtain⟨i,hi,hle2⟩:=hck j hj
    exact⟨i,hi,by omega⟩
   ·refine .inr ⟨h1,fun h=>h2 (hcc.2 h),h3,h4,fun picks=>?_⟩
    obtain⟨b,k1,k2⟩:=h5 picks
    rw[List.set_set]at k1
    exact⟨b,k1,k2⟩
  match c with
  |none=>exact back none _ (by simp) (fun k h=>by cases h) (two none (fun k h=>by cases h))
  |some 0=>
   simp only[stop]
   exact .inr ⟨rfl,by simp,rfl,ok_of hb hf (fun x hx=>by cases hx) (by simp) hc,fun picks=>⟨bs.getD (fr+no) [],by rw[crash_none,set_same hn],hoo.1,hoo.2,.inl ho⟩⟩
  |some 1=>
   simp only[stop]
   refine .inr ⟨rfl,by simp,rfl,ok_of hb hf (fun x hx=>?_) (by simp) (fun k h=>by simp at h;omega),fun picks=>?_⟩
   ·rw[List.mem_singleton]at hx;subst hx;exact⟨⟨by omega,by show (((fr+no:Nat)):Int)<_;omega⟩,hLu,hBu⟩
   ·obtain⟨b',h1,h2⟩:=crash_lay (b:=markB (bs.getD (fr+no) []) false) (c:=some 0) (g:=g) hn rfl (fun b'=>b'=bs.getD (fr+no) []∨b'=markB (bs.getD (fr+no) []) false) (.inl rfl) (fun k hk=>take_drop_mark hoo.1 hk) picks
    rcases h2 with h2|h2
    ·exact⟨b',h1,by rw[h2];exact hoo.1,by rw[h2];exact hoo.2,.inl (by rw[h2];exact ho)⟩
    ·exact⟨b',h1,by rw[h2];exact hLu,by rw[h2];exact hBu,.inl (by rw[h2];exact old_zero hLu (mark_zero hoo.1))⟩
  |some (k+2)=>
   exact back (some k) _ (by simp) (fun j h=>⟨_,rfl,by simp at h;omega⟩) (two (some k) (fun j h=>by have:=hc _ rfl;simp at h;omega))
end Go.Ideal.Seat
set_option linter.unusedVariables false
set_option linter.unusedSimpArgs false
set_option maxRecDepth 4000
namespace Go.Ideal.Seat
open Go.Ideal.Plain
section
variable {S X A E:Type}
theorem invLoop {l:List E} {F:S→Option (S⊕X)} (mk:A→Int→S) (inv:Nat→A→Prop) (Q:X→Prop) {a:A} (h0:inv 0 a)
 (h1:∀a i e,l[i]? = some e→i<l.length→inv i a→(∃a',F (mk a i)=some (.inl (mk a' ((i+1:Nat):Int)))∧inv (i+1) a')∨∃x,F (mk a i)=some (.inr x)∧Q x)
 (h2:∀a,inv l.length a→∃x,F (mk a l.length)=some (.inr x)∧Q x):∃x,iterL F (mk a 0)=some x∧Q x:=by
 have key:∀k a,k≤l.length→inv (l.length-k) a→∃x,iterL F (mk a ((l.length-k:Nat):Int))=some x∧Q x:=by
  intro k
  induction k with
  |zero=>intro a _ h;obtain⟨x,e,q⟩:=h2 a h;exact⟨x,by rw[Nat.sub_zero,iterL_inr e],q⟩
  |succ k ih=>
   intro a hk h
   have hlt:l.length-(k+1)<l.length:=by omega
   have hs:l.length-(k+1)+1=l.length-k:=by omega
   rcases h1 a _ _ (List.getElem?_eq_getElem hlt) hlt h with ⟨a',e,h'⟩|⟨x,e,q⟩
   ·rw[hs]at e h'
    obtain⟨x,e2,q⟩:=ih a' (by omega) h'
    exact⟨x,by rw[iterL_inl e,e2],q⟩
   ·exact⟨x,iterL_inr e,q⟩
 have:=key l.length a (Nat.le_refl _) (by simpa using h0)
 simpa using this
end
theorem scan_good {bs:List (List Int)} {c:Option Nat} {fr:Nat} {g:Int}:∀(ds:List (List Int)) (k i:Nat) (out:List (List Int)),ds.length≤k→fr+i+k≤bs.length→
 (∀j (h:j<ds.length),bs.getD (fr+i+j) []=fullB g ((i+j:Nat):Int) ds[j]∧recErr g ((i+j:Nat):Int) ds[j]=0∧B8 ds[j])→(ds.length=k∨Old g (bs.getD (fr+i+ds.length) []))→scanG (idle bs c).rd fr g k i out=(out++ds,0)
 |[],0,i,out,_,_,_,_=>by simp[scanG]
 |[],k+1,i,out,_,hk,_,ho=>by
  have h:Old g (bs.getD (fr+i) []):=by
   rcases ho with h|h
   ·simp at h
   ·simpa using h
  have e:((fr:Int)+(i:Int))=((fr+i:Nat):Int):=by omega
  rw[scanG,e,idle_rd (by omega),if_neg (fun h=>h rfl),if_neg h.1,if_pos (h.2.elim .inl fun h=>.inr (.inl h)),List.append_nil]
 |d::ds,0,_,_,h,_,_,_=>by simp at h
 |d::ds,k+1,i,out,hl,hk,hd,ho=>by
  obtain⟨h1,h2,h3⟩:=hd 0 (by simp)
  simp only[Nat.add_zero,List.getElem_cons_zero]at h1 h2 h3
  have e:((fr:Int)+(i:Int))=((fr+i:Nat):Int):=by omega
  have hr:recR (bs.getD (fr+i) [])=((g,(i:Int),d),0):=by rw[h1];exact recR_made h2 h3
  have hlk:ds.length≤k:=by simpa using hl
  rw[scanG,e,idle_rd (bs:=bs) (c:=c) (n:=fr+i) (by omega),if_neg (fun h=>h rfl),hr,if_neg (show ¬(0:Int)=21 by decide),if_neg (by simp)]
  show scanG _ _ _ _ _ (out++[d])=_
  have:=scan_good (bs:=bs) (c:=c) (fr:=fr) (g:=g) ds k (i+1) (out++[d]) hlk (by omega) (fun j hj=>by
   have:=hd (j+1) (by simpa using hj)
   rw[show i+1+j=i+(j+1) by omega,show fr+(i+1)+j=fr+i+(j+1) by omega]
   simpa using this) (by
   rcases ho with h|h
   ·exact .inl (by simpa using h)
   ·exact .inr (by rw[show fr+(i+1)+ds.length=fr+i+(d::ds).length by simp;omega];exact h))
  rw[this,List.append_assoc];rfl
theorem zB_old (g:Int):Old g zB:=old_zero zB_ok.1 (by
 rw[List.getD_eq_getElem?_getD,zB,List.getElem?_replicate];rfl)
theorem newD_idle (n:Nat):newD n=idle (List.replicate n zB) none:=rfl
theorem rep_blk (n:Nat):Blk (List.replicate n zB):=fun b hb=>by rw[List.eq_of_mem_replicate hb];exact zB_ok
theorem rep_get {n i:Nat} (h:i<n):(List.replicate n zB).getD i []=zB:=by
 rw[List.getD_eq_getElem?_getD,List.getElem?_replicate,if_pos h];rfl
theorem jawake:F_batonlaw23_awake ()=some true:=by
 have hd:B8 [97]:=fun x hx=>by rw[List.mem_singleton]at hx;omega
 have he:recErr 1 ((0:Nat):Int) [97]=0:=recErr_zero.2 (by simp)
 have hl:=append_left (g:=1) (no:=0) (d:=[97]) (bs:=List.replicate 3 zB) (c:=none) (fr:=1) (bl:=2) (rep_blk 3) (by rw[List.length_replicate];omega) (by omega) (by rw[List.length_replicate];omega) he hd (by rw[rep_get (by omega)];exact zB_old 1) (fun k h=>by cases h)
 have e1:=jAppend_eq (w:=newD 3) (newD_ok 3 (by omega)) (by omega) (fr:=1) (bl:=2) (g:=1) (no:=0) hd (by simp) (by omega) (by omega) (by omega)
 rw[newD_idle]at e1
 rcases hl with ⟨h1,c',h2,h3,_⟩|⟨_,h,_⟩
 rotate_left
 ·exact(h rfl).elim
 have hc:=h3 rfl
 subst hc
 simp only[Int.natCast_one,Int.cast_ofNat_Int,show ((2:Nat):Int)=2 from rfl,show ((0:Nat):Int)=0 from rfl,show ((1:Nat):Int)=1 from rfl]at h1 h2
 have hb2:Blk ((List.replicate 3 zB).set (1+0) (fullB 1 0 [97])):=(rep_blk 3).set (by unfold fullB;rw[markB_len,recB_len 1 0 (by simp)]) (markB_B8 (recB_B8 1 0 (by simp) hd) true)
 have hok:(idle ((List.replicate 3 zB).set (1+0) (fullB 1 0 [97])) none).Ok 1:=ok_of hb2 (by rw[List.length_set,List.length_replicate];omega) (fun x hx=>by cases hx) (by simp) (fun k h=>by cases h)
 have hsc:jScan (idle ((List.replicate 3 zB).set (1+0) (fullB 1 0 [97])) none) ((1:Nat):Int) 1 2=([[97]],0):=by
  refine scan_good (fr:=1) [[97]] 2 0 [] (by simp) (by rw[List.length_set,List.length_replicate];omega) (fun j hj=>?_) (.inr ?_)
  ·have:j=0:=by simpa using hj
   subst this
   exact⟨set_getD (by rw[List.length_replicate];omega),he,hd⟩
  ·show Old 1 (((List.replicate 3 zB).set 1 _).getD 2 [])
   rw[set_getD_ne (by decide),rep_get (by omega)];exact zB_old 1
 have e2:=jScan_eq hok (by omega) (fr:=1) (g:=1) (bl:=2) (by omega) (by omega) (by omega)
 unfold F_batonlaw23_awake
 have n3:=newD_eq 3 (by omega) (by omega)
 have j3:=jNew_eq (newD 3) 1 2 (by show (List.replicate 3 zB).length≤256;rw[List.length_replicate];omega)
 have l3:(newD 3).blocks.length=3:=List.length_replicate
 rw[l3]at j3
 rw[if_neg (by omega)]at j3
 rw[show ((3:Nat):Int)=3 from rfl]at n3
 rw[n3]
 simp only[Option.bind_some,bne_self_eq_false,beq_self_eq_true,cond_true,Option.isNone_some,cond_false,j3]
 rw[newD_idle]
 simp only[List.length_singleton,show decide (0<1)=true from rfl,cond_true,e1,Option.bind_some,h1,h2,bne_self_eq_false,cond_false]
 rw[show ((2:Nat):Int)=2 from rfl]at e2
 simp only[e2,Option.bind_some]
 rw[show ((1:Nat):Int)=1 from rfl]at hsc
 rw[hsc]
 rfl
theorem bind_ex' {α β:Type} {o:Option α} {k:α→Option β} {r:β} {Q:α→Prop} (h:∃x,o=some x∧Q x) (hk:∀x,Q x→k x=some r):o.bind k=some r:=by
 obtain⟨x,e,q⟩:=h
 rw[e];exact hk x q
theorem b8_of {l:List Int} (h:∀x∈l,IntKind.min .u8≤x∧x≤IntKind.max .u8):B8 l:=fun x hx=>⟨(h x hx).1,Int.lt_of_le_of_lt (h x hx).2 (by decide)⟩
theorem i64_of {x:Int} (h:IntKind.min .i64≤x∧x≤IntKind.max .i64):-9223372036854775808≤x∧x<9223372036854775808:=⟨h.1,Int.lt_of_le_of_lt h.2 (by decide)⟩
end Go.Ideal.Seat
set_option linter.unusedVariables false
set_option linter.unusedSimpArgs false
set_option maxRecDepth 4000
namespace Go.Ideal.Seat
open Go.Ideal.Plain
def repB (v:Int):List Int:=List.replicate 256 v
theorem repB_len (v:Int):(repB v).length=256:=List.length_replicate
def blkOf (fill last:Int) (short:Bool):List Int:=if short=true then ((repB fill).set 255 last).take 255 else (repB fill).set 255 last
theorem blkOf_B8 {fill last:Int} (h1:0≤fill∧fill<256) (h2:0≤last∧last<256) (short:Bool):B8 (blkOf fill last short):=by
 have hr:B8 (repB fill):=fun x hx=>by rw[List.eq_of_mem_replicate hx];exact h1
 unfold blkOf
 split
 ·exact(hr.set _ h2).take _
 ·exact hr.set _ h2
abbrev DOp:=Int×Int×Int×Int×Bool×List Int
theorem block_eq (o:DOp):F_batonlaw21_block o=some (blkOf o.2.2.1 o.2.2.2.1 o.2.2.2.2.1):=by
 obtain⟨k,n,fill,last,short,picks⟩:=o
 unfold F_batonlaw21_block
 have hm:decide ((0:Nat)≤256∧(256:Int)*((1+1:Nat):Int)≤most)=true:=by unfold most;decide
 have hz:List.replicate (Int.toNat 256) (0:Int)=repB 0:=rfl
 simp only[hm,cond_true,hz]
 rw[countLoop 256 (fun(l:List Int) i=>(l,i)) (fun i l=>l.set i fill) (fun _ l=>l.length=256) (a:=repB 0) (fin:=fun l=>(l,((256:Nat):Int),false)) (repB_len 0) (fun l i hi hl=>?_) (fun l hl=>by rfl)]
 ·have hr:upTo (fun i l=>l.set i fill) 256 (repB 0)=repB fill:=replicate_fold fill 0
  have g:(repB fill)[255]? = some ((repB fill).getD 255 0):=getD_some (by rw[repB_len];omega)
  have l1:((repB fill).set 255 last).length=256:=by rw[List.length_set,repB_len]
  simp only[hr,Option.bind_some,repB_len,show decide (255<256)=true from rfl,cond_true,g,l1]
  cases short with
  |true=>simp only[cond_true,blkOf,if_true,List.drop_zero,Nat.sub_zero,show decide (0≤255∧255≤256)=true from rfl]
  |false=>simp only[cond_false,blkOf,Bool.false_eq_true,if_false]
 ·have c:(i:Int)<256:=by omega
  have c2:i<l.length:=by omega
  refine⟨?_,by rw[List.length_set];exact hl⟩
  simp only[c,c2,decide_true,cond_true,Int.natCast_nonneg,Int.toNat_natCast,List.getElem?_eq_getElem c2,Option.bind_some,wsucc (show i<2^62 by omega)]
def doOp (w:Dsk) (o:DOp):Dsk:=if o.1=0 then (w.put o.2.1 (blkOf o.2.2.1 o.2.2.2.1 o.2.2.2.2.1)).1 else if o.1=1 then w.sync.1 else if o.1=2 then w.cutAt o.2.1 else w.crash o.2.2.2.2.2
theorem doOp_ok {w:Dsk} {m:Nat} (ok:w.Ok m) (o:DOp) (hn:o.2.1<9223372036854775808) (hf:0≤o.2.2.1∧o.2.2.1<256) (hl:0≤o.2.2.2.1∧o.2.2.2.1<256):(doOp w o).Ok (m+1):=by
 unfold doOp
 split
 ·exact put_ok ok (blkOf_B8 hf hl _)
 ·split
  ·exact Ok.up (sync_ok ok) (by omega)
  ·split
   ·exact Ok.up (cut_ok ok hn) (by omega)
   ·exact Ok.up (crash_ok ok _) (by omega)
theorem do_eq {w:Dsk} {m:Nat} (ok:w.Ok m) (hm:m≤2^30) (o:DOp) (hp:o.2.2.2.2.2.length<2^60):O_batonlaw21_Do (w.toD,w.toR,o)=some ((doOp w o).toD,(doOp w o).toR,true):=by
 unfold O_batonlaw21_Do doOp
 by_cases a:o.1=0
 ·simp only[a,beq_self_eq_true,cond_true,if_true,block_eq,Option.bind_some,put_eq ok hm,refPut ok hm]
 ·have a':(o.1==0)=false:=by simpa using a
  simp only[a',cond_false,a,if_false]
  by_cases b:o.1=1
  ·simp only[b,beq_self_eq_true,cond_true,if_true,Option.bind_some,sync_eq ok hm,refSync ok hm]
  ·have b':(o.1==1)=false:=by simpa using b
   simp only[b',cond_false,b,if_false]
   by_cases c:o.1=2
   ·simp only[c,beq_self_eq_true,cond_true,if_true,Option.bind_some,cut_eq,refCut]
   ·have c':(o.1==2)=false:=by simpa using c
    simp only[c',cond_false,c,if_false,crash_eq ok hm _ hp,refCrash ok hm _ hp,Option.bind_some]
theorem shows_eq {w:Dsk} {m:Nat} (ok:w.Ok m) (hm:m≤2^30):O_batonlaw21_Shows (w.toD,w.toR)=some (w.toD,true):=by
 unfold O_batonlaw21_Shows O_disk_Disk_Blocks O_disk_Disk_Up O_disk_Disk_Waits
 have e1:w.toD.1.length=w.blocks.length:=rfl
 have e2:w.toR.1.length=w.blocks.length:=rfl
 have e3:w.toD.2.2.2.1=w.down:=rfl
 have e4:w.toR.2.2.2.1=w.down:=rfl
 have e5:w.toD.2.1.length=w.waits.length:=rfl
 have e6:w.toR.2.1.length=w.waits.length:=rfl
 have e7:((!w.down)==w.down)=false:=by cases w.down<;>rfl
 simp only[Option.bind_some,e1,e2,e3,e4,e5,e6,e7,bne_self_eq_false,beq_self_eq_true,cond_true,cond_false]
 rw[countLoop w.blocks.length (fun(_:Unit) i=>(w.toD.1,w.toD.2.1,w.toD.2.2.1,w.down,w.toD.2.2.2.2,i)) (fun _ a=>a) (fun _ _=>True) (a:=()) (fin:=fun _=>.inr w.toD) trivial (fun a i hi _=>⟨?_,trivial⟩) (fun a _=>?_)]
 ·rfl
 ·have c:(i:Int)<(w.blocks.length:Int):=by omega
  have ht:w.there (i:Int):=⟨by omega,c⟩
  have hbk:(w.toD.1,w.toD.2.1,w.toD.2.2.1,w.down,w.toD.2.2.2.2)=w.toD:=rfl
  have hl:(w.rd (i:Int)).1.length<2^60:=by
   unfold Dsk.rd
   split
   ·simp
   ·have:=(lastW_ok (n:=(i:Int)) (fun x hx=>(ok.wts x hx).2) (blk_get ok ht)).1
    show (lastW w.waits (i:Int) (w.blocks.getD (i:Int).toNat [])).length<_
    omega
  have hlies:w.lies (i:Int)=w.blocks.getD i []:=by unfold Dsk.lies;rw[if_pos ht];rfl
  have g:w.toR.1[i]? = some (w.blocks.getD i []):=getD_blk hi
  have hbl:=(blk_get ok ht).1
  rw[Int.toNat_natCast]at hbl
  simp only[c,decide_true,cond_true,hbk,rd_eq ok hm,refRd ok hm,Option.bind_some,bne_self_eq_false,beq_self_eq_true,bsame _ _ hl,Bool.not_true,Int.natCast_nonneg,Int.toNat_natCast,g,lies_eq ok,hlies,bsame _ _ (show (w.blocks.getD i []).length<2^60 by omega),cond_false,wsucc (show i<2^62 by have:=ok.few;omega)]
  rfl
 ·have c:¬((w.blocks.length:Int)<(w.blocks.length:Int)):=by omega
  simp only[c,decide_false,cond_false]
  rfl
theorem u8_of {x:Int} (h:IntKind.min .u8≤x∧x≤IntKind.max .u8):0≤x∧x<256:=⟨h.1,Int.lt_of_le_of_lt h.2 (by decide)⟩
abbrev JOp:=Int×Int×Int×List Int×DOp
theorem plays_law (x:Int×Int×List JOp) (h:∀o∈x.2.2,B8 o.2.2.2.1∧o.2.2.2.2.2.1<9223372036854775808∧(0≤o.2.2.2.2.2.2.1∧o.2.2.2.2.2.2.1<256)∧(0≤o.2.2.2.2.2.2.2.1∧o.2.2.2.2.2.2.2.1<256)) (hx1:-9223372036854775808≤x.1∧x.1<9223372036854775808) (hx2:-9223372036854775808≤x.2.1∧x.2.1<9223372036854775808):F_batonlaw23_JournalPlays x=some true:=by
 obtain⟨fr,bl,l⟩:=x
 dsimp only at h hx1 hx2
 unfold F_batonlaw23_JournalPlays
 simp only[jawake,Option.bind_some,Bool.not_true,cond_false]
 by_cases hl:(((l.length:Nat):Int)>20)
 ·simp only[hl,decide_true,cond_true]
 simp only[hl,decide_false,cond_false]
 have n4:=newD_eq 4 (by omega) (by omega)
 have r4:=refNew 4 (by omega)
 have l4:(newD 4).blocks.length=4:=List.length_replicate
 have j4:=jNew_eq (newD 4) fr bl (by rw[l4];omega)
 rw[l4]at j4
 rw[show ((4:Nat):Int)=4 from rfl]at n4 j4 r4
 simp only[n4,Option.bind_some,bne_self_eq_false,beq_self_eq_true,cond_true,Option.isNone_some,cond_false,j4,r4]
 have q:∀a b c d:Prop,∀[Decidable a] [Decidable b] [Decidable c] [Decidable d],(bif (decide a==false) then (bif (decide b==false) then (bif (decide c==false) then some (decide d) else some true) else some true) else some true)=some (decide (a∨b∨c∨d)):=by
  intro a b c d _ _ _ _
  by_cases a<;>by_cases b<;>by_cases c<;>simp[*]
 simp only[q,Option.bind_some]
 by_cases hb:fr<0∨bl<1∨bl>4∨fr>4-bl
 ·have hb2:fr<0∨bl<1∨bl>4∨fr>IntKind.wrap .i64 (4-bl):=by
   rcases hb with a|a|a|a
   ·exact .inl a
   ·exact .inr (.inl a)
   ·exact .inr (.inr (.inl a))
   ·by_cases c1:bl<1
    ·exact .inr (.inl c1)
    ·by_cases c2:bl>4
     ·exact .inr (.inr (.inl c2))
     ·exact .inr (.inr (.inr (by rw[w64 (by omega) (by omega)];exact a)))
  rw[if_pos hb]
  simp only[hb2,decide_true,cond_true]
  rfl
 ·have hb2:¬(fr<0∨bl<1∨bl>4∨fr>IntKind.wrap .i64 (4-bl)):=by
   rw[w64 (by omega) (by omega)];exact hb
  rw[if_neg hb]
  simp only[hb2,decide_false,cond_false,bne_self_eq_false,beq_self_eq_true,cond_true,Option.isNone_some,Option.bind_some,O_journal_Journal_Room]
  refine bind_ex' (Q:=fun w=>w = .inl true∨w = .inr ()) ?_ ?_
  ·refine invLoop (l:=l) (fun(w:Dsk) i=>(w.blocks,w.waits,w.bad,w.down,Dsk.left w.cut,some ((),fr,bl),w.blocks,w.waits,w.bad,w.down,w.cut.isSome,((w.cut.getD 0:Nat):Int),i)) (fun i w=>w.Ok (3*i)) _ (a:=newD 4) (newD_ok 4 (by omega)) (fun w i e he hi ok=>?_) (fun w hv=>?_)
   ·have c:(i:Int)<(l.length:Int):=by omega
    obtain⟨hd,hn,hf,hla⟩:=h e (List.mem_of_getElem? he)
    obtain⟨k,g,no,d,o⟩:=e
    dsimp only at hd hn hf hla
    by_cases hbig:d.length>300∨o.2.2.2.2.2.length>40
    ·refine .inr ⟨.inl true,?_,.inl rfl⟩
     have v:(bif ((decide (((d.length:Nat):Int)>300))==false) then (some (decide (((o.2.2.2.2.2.length:Nat):Int)>40))) else (some true))=some true:=by
      rcases hbig with a|a
      ·have:(((d.length:Nat):Int)>300):=by omega
       simp[this]
      ·have:(((o.2.2.2.2.2.length:Nat):Int)>40):=by omega
       simp[this]
     simp only[c,decide_true,cond_true,Int.natCast_nonneg,Int.toNat_natCast,he,Option.bind_some,v]
    ·have v:(bif ((decide (((d.length:Nat):Int)>300))==false) then (some (decide (((o.2.2.2.2.2.length:Nat):Int)>40))) else (some true))=some false:=by
      have a:¬(((d.length:Nat):Int)>300):=by omega
      have b:¬(((o.2.2.2.2.2.length:Nat):Int)>40):=by omega
      simp only[a,b,decide_false,beq_self_eq_true,cond_true]
     have bD:∀w:Dsk,(w.blocks,w.waits,w.bad,w.down,Dsk.left w.cut)=w.toD:=fun _=>rfl
     have bR:∀w:Dsk,(w.blocks,w.waits,w.bad,w.down,w.cut.isSome,((w.cut.getD 0:Nat):Int))=w.toR:=fun _=>rfl
     have fin:∀w':Dsk,w'.Ok (3*(i+1))→((O_batonlaw21_Shows (w'.toD,w'.toR)).bind fun r320=>some (r320.1,(!r320.2)))=some (w'.toD,false):=fun w' ok'=>by
      rw[shows_eq ok' (by omega)];rfl
     by_cases k0:k=0
     ·subst k0
      have ok':(jAppend w fr bl g no d).1.Ok (3*(i+1)):=jAppend_ok ok fr bl g no hd
      have ja:=jAppend_eq ok (by omega) (fr:=fr) (bl:=bl) (g:=g) (no:=no) hd (by omega) (by omega) (by omega) (by omega)
      have ra:=refJAppend ok (by omega) (fr:=fr) (bl:=bl) (g:=g) (no:=no) hd (by omega) (by omega) (by omega)
      refine .inl ⟨(jAppend w fr bl g no d).1,?_,ok'⟩
      simp only[c,decide_true,cond_true,Int.natCast_nonneg,Int.toNat_natCast,he,Option.bind_some,v,cond_false,beq_self_eq_true,bD,bR,ja,ra,Bool.not_true]
      have f:=fin _ ok'
      simp only[Dsk.toD,Dsk.toR]at f
      simp only[Dsk.toD,Dsk.toR,f,Option.bind_some,cond_false,wsucc (show i<2^62 by omega)]
     ·have k0':(k==0)=false:=by simpa using k0
      by_cases k1:k=1
      ·subst k1
       obtain⟨bn,rfl⟩:=Int.eq_ofNat_of_zero_le (show 0≤bl by omega)
       have js:=jScan_eq ok (by omega) (fr:=fr) (g:=g) (bl:=bn) (by omega) (by omega) (by omega)
       have rs:=refJScan ok (by omega) (fr:=fr) (g:=g) (bl:=bn) (by omega) (by omega) (by omega)
       have hsl:(jScan w fr g bn).1.length<2^60:=by
        have key:∀(rd:Int→List Int×Int) (k i:Nat) (out:List (List Int)),(scanG rd fr g k i out).1.length≤out.length+k:=by
         intro rd k
         induction k with
         |zero=>intro i out;simp[scanG]
         |succ k ih=>
          intro i out
          unfold scanG
          split
          ·simp
          ·split
           ·simp
           ·split
            ·simp
            ·have:=ih (i+1) (out++[(recR (rd (fr+i)).1).1.2.2])
             simp at this;omega
        have:=key w.rd bn 0 []
        unfold jScan;simp at this;omega
       have ok':w.Ok (3*(i+1)):=Ok.up ok (by omega)
       refine .inl ⟨w,?_,ok'⟩
       simp only[c,decide_true,cond_true,Int.natCast_nonneg,Int.toNat_natCast,he,Option.bind_some,v,cond_false,show ((1:Int)==0)=false from rfl,beq_self_eq_true,bD,bR,js,rs,same23 _ _ hsl,Bool.not_true]
       have f:=fin _ ok'
       simp only[f,Option.bind_some,cond_false,wsucc (show i<2^62 by omega)]
       rfl
      ·have k1':(k==1)=false:=by simpa using k1
       have ok':(doOp w o).Ok (3*(i+1)):=Ok.up (doOp_ok ok o hn hf hla) (by omega)
       have dd:=do_eq ok (by omega) o (by omega)
       refine .inl ⟨doOp w o,?_,ok'⟩
       simp only[c,decide_true,cond_true,Int.natCast_nonneg,Int.toNat_natCast,he,Option.bind_some,v,cond_false,k0',k1',bD,bR,dd,Bool.not_true,beq_self_eq_true]
       have f:=fin _ ok'
       simp only[Dsk.toD,Dsk.toR]at f
       simp only[Dsk.toD,Dsk.toR,f,Option.bind_some,cond_false,wsucc (show i<2^62 by omega)]
   ·refine⟨.inr (),?_,.inr rfl⟩
    have c:¬((l.length:Int)<(l.length:Int)):=by omega
    simp only[c,decide_false,cond_false]
  ·rintro w (rfl|rfl)<;>rfl
end Go.Ideal.Seat
