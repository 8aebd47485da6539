/- Loops and numbers: plain facts. -/
import Derived.Test.YtbkfoogenhinfaaJc
import Derived.Test.YtbkfoogenhinfaaSe
set_option linter.unusedVariables false
set_option linter.unusedSimpArgs false
namespace Go.Ideal.Plain
theorem w64 {x:Int} (h1:-9223372036854775808≤x) (h2:x≤9223372036854775807):IntKind.wrap .i64 x=x:=Go.IntWalk.i64_in _ ⟨h1,h2⟩
section
variable {S X A E:Type}
theorem foldLoop {l:List E} (mk:A→Int→S) (g:A→E→A) (inv:Nat→A→Prop) {fin:A→X} {F:S→Option (S⊕X)} {a:A} (h0:inv 0 a)
 (h1:∀a i e,l[i]? = some e→i<l.length→inv i a→F (mk a i)=some (.inl (mk (g a e) ((i+1:Nat):Int)))∧inv (i+1) (g a e))
 (h2:∀a,inv l.length a→F (mk a l.length)=some (.inr (fin a))):iterL F (mk a 0)=some (fin (l.foldl g a)):=by
 rw[iter_run (l:=l) (mk:=mk) (step:=stepS g) (fin:=fun a=>some (fin a)) inv (fun a i e he hv=>?_) (fun a i e a' he hv hs=>?_) (fun a hv=>?_) h0,runL_fold]
 ·rw[(h1 a i e he (getE_bound he) hv).1];rfl
 ·simp only[stepS,Option.some.injEq,Sum.inl.injEq]at hs
  rw[←hs];exact(h1 a i e he (getE_bound he) hv).2
 ·rw[h2 a hv];rfl
def upTo (g:Nat→A→A):Nat→A→A
 |0,a=>a
 |n+1,a=>g n (upTo g n a)
theorem countLoop (n:Nat) (mk:A→Int→S) (g:Nat→A→A) (inv:Nat→A→Prop) {fin:A→X} {F:S→Option (S⊕X)} {a:A} (h0:inv 0 a)
 (h1:∀a i,i<n→inv i a→F (mk a i)=some (.inl (mk (g i a) ((i+1:Nat):Int)))∧inv (i+1) (g i a))
 (h2:∀a,inv n a→F (mk a n)=some (.inr (fin a))):iterL F (mk a 0)=some (fin (upTo g n a)):=by
 have key:∀m,m≤n→inv m (upTo g m a)∧iterL F (mk a 0)=iterL F (mk (upTo g m a) (m:Nat)):=by
  intro m
  induction m with
  |zero=>intro _;exact⟨h0,rfl⟩
  |succ m ih=>
   intro hm
   obtain⟨i1,i2⟩:=ih (by omega)
   obtain⟨j1,j2⟩:=h1 _ m (by omega) i1
   exact⟨j2,i2.trans (iterL_inl j1)⟩
 obtain⟨i1,i2⟩:=key n (Nat.le_refl _)
 rw[i2,iterL_inr (h2 _ i1)]
theorem allLoop {X:Type} {l:List E} (p:E→Bool) {F:Int→Option (Int⊕(Bool⊕X))} {z:X} (h1:∀(i:Nat) e,l[i]? = some e→F i=some (if p e=true then .inl ((i+1:Nat):Int) else .inr (.inl false)))
 (h2:F (l.length:Int)=some (.inr (.inr z))):iterL F 0=some (if l.all p=true then .inr z else .inl false):=by
 rw[iter_run (l:=l) (mk:=fun(_:Unit) i=>i) (step:=fun _ _ e=>if p e=true then some (.inl ()) else some (.inr (.inl false))) (fin:=fun _=>some (.inr z)) (fun _ _=>True) ?_ (fun _ _ _ _ _ _ _=>trivial) ?_ trivial]
 ·have key:∀(r:List E) (i:Nat),runL (A:=Unit) (X:=Bool⊕X) (fun _ _ e=>if p e=true then some (.inl ()) else some (.inr (.inl false))) (fun _=>some (.inr z)) i () r=some (if r.all p=true then .inr z else .inl false):=by
   intro r
   induction r with
   |nil=>intro i;rfl
   |cons c r ih=>
    intro i
    simp only[runL]
    by_cases hc:p c=true
    ·have:(c::r).all p=r.all p:=by rw[List.all_cons,hc];rfl
     rw[if_pos hc,this]
     exact ih (i+1)
    ·have:(c::r).all p=false:=by rw[List.all_cons,(Bool.not_eq_true _).mp hc];rfl
     rw[if_neg hc,this];rfl
  exact key l 0
 ·intro _ i c hc _
  rw[h1 i c hc]
  by_cases hk:p c=true
  ·rw[if_pos hk,if_pos hk];rfl
  ·rw[if_neg hk,if_neg hk];rfl
 ·intro _ _;rw[h2];rfl
theorem sameLoop {X:Type} {l m:List E} (hl:l.length=m.length) (p:E→E→Bool) {F:Int→Option (Int⊕(Bool⊕X))} {z:X} (h1:∀(i:Nat) d e,l[i]? = some d→m[i]? = some e→F i=some (if p d e=true then .inl ((i+1:Nat):Int) else .inr (.inl false)))
 (h2:F (l.length:Int)=some (.inr (.inr z))):iterL F 0=some (if (l.zip m).all (fun x=>p x.1 x.2)=true then .inr z else .inl false):=by
 refine allLoop (l:=l.zip m) (fun x=>p x.1 x.2) (fun i e he=>?_) ?_
 ·rw[List.getElem?_zip_eq_some]at he
  exact h1 i e.1 e.2 he.1 he.2
 ·rw[List.length_zip,←hl,Nat.min_self];exact h2
theorem zip_all_eq {l m:List E} (hl:l.length=m.length) {p:E×E→Bool} (hp:∀x,p x=true↔x.1=x.2):((l.zip m).all p=true)↔l=m:=by
 induction l generalizing m with
 |nil=>cases m<;>simp_all
 |cons a l ih=>
  cases m with
  |nil=>simp at hl
  |cons b m=>
   simp only[List.zip_cons_cons,List.all_cons,Bool.and_eq_true,hp,List.cons.injEq]
   rw[ih (by simpa using hl)]
theorem append_fold {n:Nat} (c:E):upTo (fun _ a=>a++[c]) n []=List.replicate n c:=by
 induction n with
 |zero=>rfl
 |succ n ih=>simp only[upTo,ih,List.replicate_succ']
end
end Go.Ideal.Plain
set_option linter.unusedVariables false
set_option linter.unusedSimpArgs false
namespace Go.Ideal.Seat
open Go.Ideal.Plain
def B8 (l:List Int):Prop:=∀x∈l,0≤x∧x<256
theorem B8.app {a b:List Int} (ha:B8 a) (hb:B8 b):B8 (a++b):=fun x hx=>(List.mem_append.1 hx).elim (ha x) (hb x)
theorem B8.take {a:List Int} (ha:B8 a) (n:Nat):B8 (a.take n):=fun x hx=>ha x (List.mem_of_mem_take hx)
theorem B8.drop {a:List Int} (ha:B8 a) (n:Nat):B8 (a.drop n):=fun x hx=>ha x (List.mem_of_mem_drop hx)
theorem B8.rep (n:Nat):B8 (List.replicate n 0):=fun x hx=>by rw[(List.mem_replicate.1 hx).2];omega
theorem B8.set {a:List Int} (ha:B8 a) (n:Nat) {v:Int} (h:0≤v∧v<256):B8 (a.set n v):=fun x hx=>(List.mem_or_eq_of_mem_set hx).elim (ha x) (fun e=>e▸h)
theorem wu8' (x:Int):IntKind.wrap .u8 x=x%256:=rfl
theorem wu32 (x:Int):IntKind.wrap .u32 x=x%4294967296:=rfl
theorem wu64 (x:Int):IntKind.wrap .u64 x=x%18446744073709551616:=rfl
def beP:Nat→Int→List Int
 |0,_=>[]
 |k+1,n=>beP k (n/256)++[n%256]
def beN (b:List Int):Int:=b.foldl (fun n x=>n*256+x) 0
theorem beP_len:∀(k:Nat) (n:Int),(beP k n).length=k
 |0,_=>rfl
 |k+1,n=>by simp[beP,beP_len k]
theorem beP_B8:∀(k:Nat) (n:Int),B8 (beP k n)
 |0,_=>fun x hx=>by cases hx
 |k+1,n=>(beP_B8 k _).app fun x hx=>by rw[List.mem_singleton]at hx;omega
theorem beN_snoc (b:List Int) (x:Int):beN (b++[x])=beN b*256+x:=by simp[beN]
theorem beN_beP:∀(k:Nat) (n:Int),0≤n→n<256^k→beN (beP k n)=n
 |0,n,h1,h2=>by simp at h2;simp[beP,beN];omega
 |k+1,n,h1,h2=>by
  rw[Int.pow_succ]at h2
  rw[beP,beN_snoc,beN_beP k (n/256) (by omega) (by generalize (256:Int)^k=p at h2 ⊢;omega)];omega
theorem snocInd {P:List Int→Prop} (h0:P []) (h1:∀l x,P l→P (l++[x])) (l:List Int):P l:=by
 have key:∀r:List Int,P r.reverse:=fun r=>by
  induction r with
  |nil=>exact h0
  |cons x r ih=>rw[List.reverse_cons];exact h1 _ x ih
 have:=key l.reverse
 rwa [List.reverse_reverse]at this
theorem beN_lt:∀(l:List Int),B8 l→0≤beN l∧beN l<256^l.length:=by
 refine snocInd ?_ ?_
 ·intro _;simp[beN]
 ·intro l x ih h
  have hx:=h x (by simp)
  obtain⟨i1,i2⟩:=ih (fun y hy=>h y (by simp[hy]))
  rw[beN_snoc,List.length_append,List.length_singleton,Int.pow_succ]
  generalize (256:Int)^l.length=p at i2 ⊢
  omega
theorem beP8 (n:Int):beP 8 n=[n/72057594037927936%256,n/281474976710656%256,n/1099511627776%256,n/4294967296%256,n/16777216%256,n/65536%256,n/256%256,n%256]:=by
 simp only[beP,List.nil_append,List.cons_append]
 congr 1
 ·omega
 congr 1
 ·omega
 congr 1
 ·omega
 congr 1
 ·omega
 congr 1
 ·omega
 congr 1
 ·omega
theorem fdivP (n:Int) (k:Nat):Int.fdiv n (2^k)=n/2^k:=Int.fdiv_eq_ediv_of_nonneg _ (Int.le_of_lt (Int.pow_pos (by decide)))
theorem put8 (n:Int) (h1:0≤n) (h2:n<18446744073709551616):F_word_Put (n,8)=some (beP 8 n,0):=by
 unfold F_word_Put
 have c1:(bif ((decide ((8:Int)<1))==false) then (some (decide ((8:Int)>8))) else (some true))=some false:=rfl
 have c2:(bif ((decide ((8:Int)<8))==true) then (bif decide ((IntKind.wrap .u64 ((IntKind.wrap .i64 (8*8))))<0) then none else (some ((Int.fdiv n (2^min (Int.toNat (IntKind.wrap .u64 ((IntKind.wrap .i64 (8*8))))) (IntKind.bits .u64))) != 0))) else (some false))=some false:=rfl
 have c3:decide ((0:Int)≤8∧(8:Int)*((1+1:Nat):Int)≤most)=true:=by unfold most;decide
 simp only[c1,c2,c3,Option.bind_some,cond_false,cond_true]
 rw[countLoop 8 (fun l i=>(l,i)) (fun i l=>l.set (7-i) (n/2^(8*i)%256)) (fun _ l=>l.length=8) (fin:=fun l=>(l,8,false)) (by rfl) (fun l i hi hl=>?_) (fun l hl=>?_)]
 ·simp only[Option.bind_some,upTo,beP8]
  simp only[show (Int.toNat 8)=8 from rfl,List.replicate,List.set,Nat.reduceSub,Nat.reduceMul]
  simp
 ·refine⟨?_,by simp[hl]⟩
  have hr:(((List.replicate (Int.toNat 8) (0:Int)).length:Nat):Int)=8:=rfl
  have a1:(i:Int)<8:=by omega
  have a2:IntKind.wrap .i64 (8*(i:Int))=((8*i:Nat):Int):=by rw[w64 (by omega) (by omega)];omega
  have a3:IntKind.wrap .u64 ((8*i:Nat):Int)=((8*i:Nat):Int):=by rw[wu64];omega
  have a4:IntKind.wrap .i64 ((IntKind.wrap .i64 (8-1))-(i:Int))=((7-i:Nat):Int):=by rw[show IntKind.wrap .i64 (8-1)=7 from rfl,w64 (by omega) (by omega)];omega
  have a5:¬(((8*i:Nat):Int)<0):=by omega
  have a6:min (8*i) (IntKind.bits .u64)=8*i:=Nat.min_eq_left (by show 8*i≤64;omega)
  have a7:7-i<l.length:=by omega
  simp only[hr,a1,a2,a3,a4,a5,a6,decide_true,decide_false,cond_true,cond_false,Int.natCast_nonneg,Int.toNat_natCast,a7,List.getElem?_eq_getElem a7,Option.bind_some,wsucc (show i<2^62 by omega),fdivP,wu8']
 ·rfl
theorem orB {a x:Int} (h1:0≤a) (h2:a<2^56) (h3:0≤x) (h4:x<256):((BitVec.ofInt (IntKind.bits .u64) (a*256)|||BitVec.ofInt (IntKind.bits .u64) x).toNat:Int)=a*256+x:=by
 obtain⟨m,rfl⟩:=Int.eq_ofNat_of_zero_le h1
 obtain⟨k,rfl⟩:=Int.eq_ofNat_of_zero_le h3
 have hm:m*256<2^64:=by omega
 have hk:k<2^8:=by omega
 have e1:(((m:Nat):Int)*256)=(((m*256:Nat)):Int):=by omega
 rw[e1]
 show ((BitVec.ofNat 64 (m*256)|||BitVec.ofNat 64 k).toNat:Int)=_
 rw[BitVec.toNat_or,BitVec.toNat_ofNat,BitVec.toNat_ofNat,Nat.mod_eq_of_lt hm,Nat.mod_eq_of_lt (by omega)]
 have:=Nat.shiftLeft_add_eq_or_of_lt hk m
 rw[Nat.shiftLeft_eq]at this
 rw[show m*256=m*2^8 by rfl,←this];omega
theorem foldB (l:List Int) (h:B8 l) (hl:l.length≤8) (i:Nat) (hi:i<l.length) {a:Int} (ha:0≤a∧a<256^i):a<2^56:=by
 have:∀j,j<8→(256:Int)^j≤2^56:=by decide
 have:=this i (by omega)
 omega
theorem getW (l:List Int) (h:B8 l) (h1:1≤l.length) (h2:l.length≤8):F_word_Get l=some (beN l,0):=by
 unfold F_word_Get
 have c1:(bif ((decide ((((l.length):Nat):Int)<1))==false) then (some (decide ((((l.length):Nat):Int)>8))) else (some true))=some false:=by
  have a:¬((((l.length):Nat):Int)<1):=by omega
  have b:¬((((l.length):Nat):Int)>8):=by omega
  simp only[a,b,decide_false,beq_self_eq_true,cond_true]
 simp only[c1,Option.bind_some,cond_false]
 rw[foldLoop (l:=l) (fun a i=>(a,i)) (fun a e=>a*256+e) (fun i a=>0≤a∧a<256^i) (fin:=fun a=>(a,(l.length:Int),false)) (by simp) (fun a i e he hi ha=>?_) (fun a ha=>by simp)]
 ·rfl
 ·have he2:=h e (List.mem_of_getElem? he)
  have h56:=foldB l h h2 i hi ha
  have a1:(i:Int)<(l.length:Int):=by omega
  have a2:IntKind.wrap .u64 (a*2^min (Int.toNat 8) (IntKind.bits .u64))=a*256:=by
   show (a*256)%18446744073709551616=_;omega
  have a3:IntKind.wrap .u64 e=e:=by rw[wu64];omega
  refine⟨?_,?_⟩
  ·simp only[a1,decide_true,cond_true,Int.natCast_nonneg,Int.toNat_natCast,he,Option.bind_some,wsucc (show i<2^62 by omega),a2,a3,orB ha.1 h56 he2.1 he2.2]
   rw[wu64,Int.emod_eq_of_lt (by omega) (by omega)]
  ·rw[Int.pow_succ]
   generalize (256:Int)^i=q at ha ⊢
   omega
end Go.Ideal.Seat
set_option linter.unusedVariables false
set_option linter.unusedSimpArgs false
namespace Go.Ideal.Seat
open Go.Ideal.Plain
def stepN (c:Nat):Nat:=if c%2=1 then c/2 ^^^ 2197175160 else c/2
def entN:Nat→Nat→Nat
 |0,c=>c
 |k+1,c=>entN k (stepN c)
theorem stepN_lt {c:Nat} (h:c<2^32):stepN c<2^32:=by
 unfold stepN
 split
 ·exact Nat.xor_lt_two_pow (by omega) (by decide)
 ·omega
theorem entN_lt:∀(k:Nat) {c:Nat},c<2^32→entN k c<2^32
 |0,_,h=>h
 |k+1,_,h=>entN_lt k (stepN_lt h)
theorem xor_div2 (a b:Nat):(a ^^^ b)/2=a/2 ^^^ b/2:=by
 have:=Nat.shiftRight_xor_distrib (a:=a) (b:=b) (i:=1)
 simpa [Nat.shiftRight_eq_div_pow]using this
theorem xor_mod2 (a b:Nat):(a ^^^ b)%2=(a%2+b%2)%2:=by
 have:=Nat.xor_mod_two_pow (a:=a) (b:=b) (n:=1)
 simp at this
 rw[this]
 rcases Nat.mod_two_eq_zero_or_one a with h|h<;>rcases Nat.mod_two_eq_zero_or_one b with h'|h'<;>simp[h,h']
theorem stepN_xor (a b:Nat):stepN (a ^^^ b)=stepN a ^^^ stepN b:=by
 unfold stepN
 rw[xor_mod2,xor_div2]
 rcases Nat.mod_two_eq_zero_or_one a with h|h<;>rcases Nat.mod_two_eq_zero_or_one b with h'|h'<;>simp[h,h']
 ·rw[Nat.xor_assoc]
 ·rw[Nat.xor_assoc,Nat.xor_assoc];congr 1;rw[Nat.xor_comm]
 ·rw[Nat.xor_assoc,Nat.xor_comm 2197175160,Nat.xor_assoc,Nat.xor_self,Nat.xor_zero]
theorem entN_xor:∀(k a b:Nat),entN k (a ^^^ b)=entN k a ^^^ entN k b
 |0,_,_=>rfl
 |k+1,a,b=>by simp only[entN];rw[stepN_xor,entN_xor k]
theorem stepN_two (y:Nat):stepN (2*y)=y:=by unfold stepN;rw[if_neg (by omega)];omega
theorem entN_pow:∀(k h:Nat),entN k (2^k*h)=h
 |0,h=>by simp[entN]
 |k+1,h=>by rw[entN,Nat.pow_succ,Nat.mul_comm (2^k) 2,Nat.mul_assoc,stepN_two,entN_pow k]
theorem entN_eight (y:Nat):entN 8 y=y/256 ^^^ entN 8 (y%256):=by
 have h:(2^8*(y/256)) ^^^ (y%256)=y:=by
  have h1:=Nat.two_pow_add_eq_or_of_lt (show y%256<2^8 by omega) (y/256)
  have h2:(2^8*(y/256)) ^^^ (y%256)=(2^8*(y/256))|||(y%256):=by
   apply Nat.eq_of_testBit_eq
   intro i
   rw[Nat.testBit_xor,Nat.testBit_or]
   by_cases hi:i<8
   ·have:(2^8*(y/256)).testBit i=false:=by rw[Nat.testBit_two_pow_mul];simp;omega
    simp[this]
   ·have:(y%256).testBit i=false:=Nat.testBit_lt_two_pow (Nat.lt_of_lt_of_le (show y%256<2^8 by omega) (Nat.pow_le_pow_right (by decide) (by omega)))
    simp[this]
  rw[h2,←h1];omega
 have h3:=entN_xor 8 (2^8*(y/256)) (y%256)
 rw[h,entN_pow]at h3
 exact h3
theorem xor32 {a b:Nat} (ha:a<2^32) (hb:b<2^32):IntKind.wrap .u32 (((BitVec.ofInt (IntKind.bits .u32) (a:Int) ^^^ BitVec.ofInt (IntKind.bits .u32) (b:Int)).toNat:Nat))=((a ^^^ b:Nat):Int):=by
 have e:(BitVec.ofInt (IntKind.bits .u32) (a:Int) ^^^ BitVec.ofInt (IntKind.bits .u32) (b:Int)).toNat=a ^^^ b:=by
  show (BitVec.ofNat 32 a ^^^ BitVec.ofNat 32 b).toNat=_
  rw[BitVec.toNat_xor,BitVec.toNat_ofNat,BitVec.toNat_ofNat,Nat.mod_eq_of_lt ha,Nat.mod_eq_of_lt hb]
 have:=Nat.xor_lt_two_pow ha hb
 rw[e,wu32];omega
theorem and32 {a k:Nat} (ha:a<2^32) (hk:k<32):IntKind.wrap .u32 (((BitVec.ofInt (IntKind.bits .u32) (a:Int)&&&BitVec.ofInt (IntKind.bits .u32) ((2^k-1:Nat):Int)).toNat:Nat))=((a%2^k:Nat):Int):=by
 have hp:2^k<2^32:=Nat.pow_lt_pow_right (by decide) hk
 have e:(BitVec.ofInt (IntKind.bits .u32) (a:Int)&&&BitVec.ofInt (IntKind.bits .u32) ((2^k-1:Nat):Int)).toNat=a%2^k:=by
  show (BitVec.ofNat 32 a&&&BitVec.ofNat 32 (2^k-1)).toNat=_
  rw[BitVec.toNat_and,BitVec.toNat_ofNat,BitVec.toNat_ofNat,Nat.mod_eq_of_lt ha,Nat.mod_eq_of_lt (by omega),Nat.and_two_pow_sub_one_eq_mod]
 have:a%2^k≤a:=Nat.mod_le _ _
 rw[e,wu32];omega
theorem crcStep (c:Nat) (h:c<2^32):F_crc_step (c:Int)=some (stepN c:Int):=by
 unfold F_crc_step stepN
 have a1:=and32 (k:=1) h (by decide)
 have a2:Int.fdiv (c:Int) (2^min (Int.toNat 1) (IntKind.bits .u32))=((c/2:Nat):Int):=by
  show Int.fdiv (c:Int) (2^1)=_
  rw[fdivP];omega
 have a3:=xor32 (a:=c/2) (b:=2197175160) (by omega) (by decide)
 simp only[show (((2^1-1:Nat)):Int)=1 from rfl]at a1
 simp only[show ((2197175160:Nat):Int)=2197175160 from rfl]at a3
 simp only[a1,a2,a3]
 rcases Nat.mod_two_eq_zero_or_one c with h'|h'<;>simp[h']
theorem upTo_ent (k c:Nat):upTo (fun _ a=>stepN a) k c=entN k c:=by
 have:∀k c,entN k (stepN c)=stepN (entN k c):=fun k=>by
  induction k with
  |zero=>intro c;rfl
  |succ k ih=>intro c;rw[entN,entN,ih]
 induction k with
 |zero=>rfl
 |succ k ih=>rw[upTo,ih,entN,this]
theorem crcEntry (c:Nat) (h:c<2^32):F_crc_entry (c:Int)=some (entN 8 c:Int):=by
 unfold F_crc_entry
 rw[countLoop 8 (fun(a:Nat) i=>((a:Int),i)) (fun _ a=>stepN a) (fun _ a=>a<2^32) (a:=c) (fin:=fun a=>((a:Int),8,false)) h (fun a i hi ha=>?_) (fun a ha=>by rfl)]
 ·rw[upTo_ent];rfl
 ·have b1:(i:Int)<8:=by omega
  simp only[b1,decide_true,cond_true,crcStep a ha,Option.bind_some,wsucc (show i<2^62 by omega),stepN_lt ha,and_self]
def crcN (b:List Int):Nat:=b.foldl (fun c x=>entN 8 (c ^^^ x.toNat)) 4294967295
def sumN (b:List Int):Nat:=4294967295-crcN b
theorem ones_sub {c:Nat} (h:c<2^32):4294967295 ^^^ c=4294967295-c:=by
 have e:(~~~(BitVec.ofNat 32 c)).toNat=2^32-1-c:=by rw[BitVec.toNat_not,BitVec.toNat_ofNat,Nat.mod_eq_of_lt h]
 rw[←BitVec.allOnes_xor,BitVec.toNat_xor,BitVec.toNat_ofNat,Nat.mod_eq_of_lt h]at e
 exact e
theorem crcN_go (b:List Int) (hb:B8 b):∀c:Nat,c<2^32→b.foldl (fun c x=>entN 8 (c ^^^ x.toNat)) c<2^32:=by
 induction b with
 |nil=>intro c h;exact h
 |cons x r ih=>
  intro c h
  have hx:=hb x (by simp)
  exact ih (fun y hy=>hb y (by simp[hy])) _ (entN_lt 8 (Nat.xor_lt_two_pow h (by omega)))
theorem crcN_lt {b:List Int} (hb:B8 b):crcN b<2^32:=crcN_go b hb _ (by decide)
theorem crcMore (b:List Int) (hb:B8 b) (hl:b.length<2^60):F_crc_More (0,b)=some (sumN b:Int):=by
 unfold F_crc_More
 have i0:IntKind.wrap .u32 (((BitVec.ofInt (IntKind.bits .u32) (IntKind.max .u32) ^^^ BitVec.ofInt (IntKind.bits .u32) 0).toNat:Nat))=((4294967295:Nat):Int):=by decide
 simp only[i0]
 rw[foldLoop (l:=b) (fun(a:Nat) i=>((a:Int),i)) (fun a x=>entN 8 (a ^^^ x.toNat)) (fun _ a=>a<2^32) (a:=4294967295) (fin:=fun a=>((a:Int),(b.length:Int),false)) (by decide) (fun a i e he hi ha=>?_) (fun a ha=>by simp)]
 ·have hc:=crcN_lt hb
  have:=xor32 (a:=4294967295) (b:=crcN b) (by decide) hc
  rw[ones_sub hc]at this
  simp only[Option.bind_some,sumN]
  exact congrArg some this
 ·have hx:=hb e (List.mem_of_getElem? he)
  obtain⟨k,rfl⟩:=Int.eq_ofNat_of_zero_le hx.1
  have hk:k<2^8:=by omega
  have b1:(i:Int)<(b.length:Int):=by omega
  have b2:IntKind.wrap .u32 ((k:Nat):Int)=((k:Nat):Int):=by rw[wu32];omega
  have b3:=xor32 (a:=a) (b:=k) ha (by omega)
  have hlt:=Nat.xor_lt_two_pow ha (show k<2^32 by omega)
  have b4:=and32 (k:=8) hlt (by decide)
  simp only[show (((2^8-1:Nat)):Int)=255 from rfl]at b4
  have b5:Int.fdiv (a:Int) (2^min (Int.toNat 8) (IntKind.bits .u32))=((a/256:Nat):Int):=by
   show Int.fdiv (a:Int) (2^8)=_
   rw[fdivP];omega
  have b6:=xor32 (a:=a/256) (b:=entN 8 ((a ^^^ k)%2^8)) (by omega) (entN_lt 8 (by omega))
  have b7:(a ^^^ k)/256=a/256:=by
   have:=Nat.shiftRight_xor_distrib (a:=a) (b:=k) (i:=8)
   simp only[Nat.shiftRight_eq_div_pow]at this
   rw[show k/2^8=0 by omega,Nat.xor_zero]at this
   exact this
  refine⟨?_,entN_lt 8 (by simpa using hlt)⟩
  simp only[b1,decide_true,cond_true,Int.natCast_nonneg,Int.toNat_natCast,he,Option.bind_some,wsucc (show i<2^62 by omega),b2,b3,b4,crcEntry _ (show (a ^^^ k)%2^8<2^32 by omega),b5,b6]
  rw[entN_eight (a ^^^ k),b7]
def sum4 (b:List Int):List Int:=[(sumN b:Int)%256,(sumN b:Int)/256%256,(sumN b:Int)/65536%256,(sumN b:Int)/16777216%256]
theorem sum4_len (b:List Int):(sum4 b).length=4:=rfl
theorem sum4_B8 (b:List Int):B8 (sum4 b):=fun x hx=>by
 simp only[sum4,List.mem_cons,List.not_mem_nil,or_false]at hx
 omega
theorem sumN_lt (b:List Int):sumN b<2^32:=by unfold sumN;omega
theorem sums_eq (b:List Int) (hb:B8 b) (hl:b.length<2^60):F_record_sums b=some (sum4 b):=by
 unfold F_record_sums F_crc_Sum
 rw[crcMore b hb hl]
 have:=sumN_lt b
 have a1:Int.fdiv ((sumN b:Nat):Int) (2^min (Int.toNat 8) (IntKind.bits .u32))=(sumN b:Int)/256:=fdivP _ 8
 have a2:Int.fdiv ((sumN b:Nat):Int) (2^min (Int.toNat 16) (IntKind.bits .u32))=(sumN b:Int)/65536:=fdivP _ 16
 have a3:Int.fdiv ((sumN b:Nat):Int) (2^min (Int.toNat 24) (IntKind.bits .u32))=(sumN b:Int)/16777216:=fdivP _ 24
 simp only[Option.bind_some,a1,a2,a3,wu8',sum4]
end Go.Ideal.Seat
set_option linter.unusedVariables false
set_option linter.unusedSimpArgs false
namespace Go.Ideal.Seat
open Go.Ideal.Plain
section
variable {E X:Type}
theorem findLoop {l:List E} (p:E→Bool) {F:Int→Option (Int⊕(Int⊕X))} {z:X} (h1:∀(i:Nat) e,l[i]? = some e→F i=some (if p e=true then .inr (.inl (i:Int)) else .inl ((i+1:Nat):Int)))
 (h2:F (l.length:Int)=some (.inr (.inr z))):iterL F 0=some (match l.findIdx? p with|some i=>.inl (i:Int)|none=>.inr z):=by
 have key:∀k,k≤l.length→iterL F ((l.length-k:Nat):Int)=some (match (l.drop (l.length-k)).findIdx? p with|some i=>.inl ((l.length-k+i:Nat):Int)|none=>.inr z):=by
  intro k
  induction k with
  |zero=>intro _;rw[Nat.sub_zero,iterL_inr h2];simp
  |succ k ih=>
   intro hk
   have hlt:l.length-(k+1)<l.length:=by omega
   have hs:l.length-(k+1)+1=l.length-k:=by omega
   have e:=h1 (l.length-(k+1)) _ (List.getElem?_eq_getElem hlt)
   rw[List.drop_eq_getElem_cons hlt,List.findIdx?_cons]
   by_cases hp:p l[l.length-(k+1)]=true
   ·rw[if_pos hp]at e
    rw[iterL_inr e,if_pos hp];simp
   ·rw[if_neg hp]at e
    rw[iterL_inl e,if_neg hp,hs,ih (by omega)]
    cases (List.drop (l.length-k) l).findIdx? p with
    |none=>rfl
    |some i=>simp only[Option.map_some];congr 3;omega
 have:=key l.length (Nat.le_refl _)
 simpa using this
end
theorem findIdx_none {l:List Int} {p:Int→Bool}:(l.findIdx? p=none)↔∀x∈l,p x=false:=by
 rw[List.findIdx?_eq_none_iff]
theorem bequal (a b:List Int) (h:a.length<2^60):F_slices_Equal_byte_byte (a,b)=some (decide (a=b)):=by
 unfold F_slices_Equal_byte_byte
 by_cases hl:a.length=b.length
 ·have hne:((((a.length):Nat):Int) != (((b.length):Nat):Int))=false:=by simp[hl]
  simp only[hne,cond_false]
  rw[sameLoop (l:=a) (m:=b) hl (fun d e=>decide (d=e)) (z:=((a.length:Int),false)) (fun i d e hd he=>?_) (by simp)]
  ·have:=zip_all_eq (l:=a) (m:=b) hl (p:=fun x=>decide (x.1=x.2)) (by simp)
   by_cases hab:a=b
   ·rw[if_pos (this.2 hab)];simp[hab]
   ·rw[if_neg (fun h=>hab (this.1 h))];simp[hab]
  ·have hi:=getE_bound hd
   have hi':(i:Int)<(a.length:Int):=by omega
   have hbq:(d != e) = !decide (d=e):=by by_cases h:d=e<;>simp[h]
   simp only[hi',decide_true,cond_true,Int.natCast_nonneg,Int.toNat_natCast,hd,he,Option.bind_some,hbq,wsucc (show i<2^62 by omega)]
   by_cases hde:d=e<;>simp[hde]
 ·have hne:((((a.length):Nat):Int) != (((b.length):Nat):Int))=true:=by simp;omega
  have:a≠b:=fun e=>hl (by rw[e])
  simp only[hne,cond_true,this,decide_false]
theorem bsame (a b:List Int) (h:a.length<2^60):F_batonref01_Same (a,b)=some (decide (a=b)):=bequal a b h
theorem cloneB (l:List Int) (h:l.length≤2^36):O_slices_Clone_byte_byte l=some l:=by
 unfold O_slices_Clone_byte_byte
 have hm:(([]:List Int).length+l.length)*(1+1)≤most:=by unfold most;simp;omega
 simp only[hm,decide_true,cond_true,List.nil_append]
 refine both_eq fun h=>?_
 have:l=[]:=by simpa using h
 rw[this]
theorem cloneC (l:List Int) (h:l.length≤2^36):F_slices_Clone_byte_byte_c l=some l:=cloneB l h
def recErr (g n:Int) (d:List Int):Int:=if g<0∨g≥72057594037927936∨n<0∨n≥72057594037927936 then 1 else if d.length>234 then 22 else 0
def recBody (g n:Int) (d:List Int):List Int:=beP 8 g++(beP 8 n++([(d.length:Int)]++(d++List.replicate (234-d.length) 0)))
def recB (g n:Int) (d:List Int):List Int:=recBody g n d++(sum4 (recBody g n d)++[0])
theorem recBody_len (g n:Int) {d:List Int} (h:d.length≤234):(recBody g n d).length=251:=by simp[recBody,beP_len];omega
theorem recBody_B8 (g n:Int) {d:List Int} (h:d.length≤234) (hd:B8 d):B8 (recBody g n d):=
 (beP_B8 8 g).app ((beP_B8 8 n).app (B8.app (fun x hx=>by rw[List.mem_singleton]at hx;omega) (hd.app (B8.rep _))))
theorem recB_len (g n:Int) {d:List Int} (h:d.length≤234):(recB g n d).length=256:=by
 simp[recB,recBody_len g n h,sum4_len]
theorem recB_B8 (g n:Int) {d:List Int} (h:d.length≤234) (hd:B8 d):B8 (recB g n d):=
 (recBody_B8 g n h hd).app ((sum4_B8 _).app fun x hx=>by rw[List.mem_singleton]at hx;omega)
theorem recErr_zero {g n:Int} {d:List Int}:recErr g n d=0↔(0≤g∧g<72057594037927936∧0≤n∧n<72057594037927936∧d.length≤234):=by
 unfold recErr
 split
 ·constructor
  ·intro h;cases h
  ·intro h;omega
 ·split
  ·constructor
   ·intro h;cases h
   ·intro h;omega
  ·constructor
   ·intro _;omega
   ·intro _;rfl
theorem make_eq (g n:Int) (d:List Int) (hd:B8 d) (hl:d.length≤2^36):O_record_Make (g,n,d)=some (if recErr g n d=0 then recB g n d else [],recErr g n d):=by
 unfold O_record_Make
 have c1:(bif ((decide (g<0))==false) then (bif ((decide (g≥72057594037927936))==false) then (bif ((decide (n<0))==false) then (some (decide (n≥72057594037927936))) else (some true)) else (some true)) else (some true))=some (decide (g<0∨g≥72057594037927936∨n<0∨n≥72057594037927936)):=by
  by_cases a:g<0<;>by_cases b:g≥72057594037927936<;>by_cases c:n<0<;>by_cases d:n≥72057594037927936<;>simp[a,b,c,d]<;>omega
 simp only[c1,Option.bind_some]
 by_cases h1:g<0∨g≥72057594037927936∨n<0∨n≥72057594037927936
 ·simp only[recErr,if_pos h1,h1,decide_true,cond_true];rfl
 ·simp only[recErr,if_neg h1,h1,decide_false,cond_false]
  by_cases h2:d.length>234
  ·have h2':(((d.length:Nat):Int)>234):=by omega
   simp only[h2',decide_true,cond_true,if_pos h2];rfl
  ·have h2':¬(((d.length:Nat):Int)>234):=by omega
   simp only[h2',decide_false,cond_false,if_neg h2,if_true]
   have w1:IntKind.wrap .u64 g=g:=by rw[wu64];omega
   have w2:IntKind.wrap .u64 n=n:=by rw[wu64];omega
   have w3:IntKind.wrap .u8 ((d.length:Nat):Int)=((d.length:Nat):Int):=by rw[wu8'];omega
   have cat:O_slices_Concat_byte_byte [beP 8 g,beP 8 n,[((d.length:Nat):Int)]]=some (beP 8 g++(beP 8 n++[((d.length:Nat):Int)])):=by
    have f:[beP 8 g,beP 8 n,[((d.length:Nat):Int)]].flatten=beP 8 g++(beP 8 n++[((d.length:Nat):Int)]):=by simp
    have m1:[beP 8 g,beP 8 n,[((d.length:Nat):Int)]].length≤most:=by show 3≤most;unfold most;decide
    have m2:(beP 8 g++(beP 8 n++[((d.length:Nat):Int)])).length*2≤most:=by unfold most;simp[beP_len]
    unfold O_slices_Concat_byte_byte catF
    rw[f]
    simp only[cut,m1,m2,decide_true,cond_true]
   simp only[w1,w2,w3,put8 g (by omega) (by omega),put8 n (by omega) (by omega),Option.bind_some,cat]
   have l1:(beP 8 g++(beP 8 n++[((d.length:Nat):Int)])).length=17:=by simp[beP_len]
   have l2:((beP 8 g++(beP 8 n++[((d.length:Nat):Int)]))++d).length=17+d.length:=by rw[List.length_append,l1]
   have w4:IntKind.wrap .i64 (251-((17+d.length:Nat):Int))=((234-d.length:Nat):Int):=by rw[w64 (by omega) (by omega)];omega
   have m1:(17+d.length)*(1+1)≤most:=by unfold most;omega
   have m2:(0:Int)≤((234-d.length:Nat):Int)∧((234-d.length:Nat):Int)*((1+1:Nat):Int)≤most:=by unfold most;omega
   have m3:(17+d.length+(List.replicate (234-d.length) (0:Int)).length)*(1+1)≤most:=by unfold most;simp;omega
   have e1:(beP 8 g++(beP 8 n++[((d.length:Nat):Int)]))++d++List.replicate (234-d.length) 0=recBody g n d:=by simp[recBody]
   have hb:=recBody_len g n (d:=d) (by omega)
   have hb8:=recBody_B8 g n (d:=d) (by omega) hd
   simp only[l1,l2,w4,m1,m2,m3,decide_true,cond_true,and_self,Int.toNat_natCast,e1,sums_eq _ hb8 (by omega),Option.bind_some,hb,sum4_len]
   have m4:(251+4)*(1+1)≤most:=by unfold most;decide
   have m5:((recBody g n d++sum4 (recBody g n d)).length+([0]:List Int).length)*(1+1)≤most:=by rw[List.length_append,hb,sum4_len];unfold most;decide
   simp only[m4,m5,decide_true,cond_true,recB,List.append_assoc,if_false,if_true]
end Go.Ideal.Seat
set_option linter.unusedVariables false
set_option linter.unusedSimpArgs false
namespace Go.Ideal.Seat
open Go.Ideal.Plain
abbrev Rec:=Int×Int×List Int
def recBad (b:List Int):Prop:=beN (b.take 8)≥72057594037927936∨beN ((b.drop 8).take 8)≥72057594037927936∨b.getD 16 0>234∨((b.drop (17+(b.getD 16 0).toNat)).take (234-(b.getD 16 0).toNat)).all (· ==0)=false
noncomputable def recR (b:List Int):Rec×Int:=open Classical in
 if b.length≠256 then ((0,0,[]),22) else if b.getD 255 0=0 then ((0,0,[]),3) else if b.getD 255 0>1 then ((0,0,[]),6)
 else if sum4 (b.take 251)≠(b.drop 251).take 4 then ((0,0,[]),21) else if recBad b then ((0,0,[]),6)
 else ((beN (b.take 8),beN ((b.drop 8).take 8),(b.drop 17).take (b.getD 16 0).toNat),0)
theorem getD_some {b:List Int} {i:Nat} (h:i<b.length):b[i]? = some (b.getD i 0):=by
 rw[List.getElem?_eq_getElem h,List.getD_eq_getElem?_getD,List.getElem?_eq_getElem h];rfl
theorem getD_B8 {b:List Int} (hb:B8 b) (i:Nat):0≤b.getD i 0∧b.getD i 0<256:=by
 by_cases h:i<b.length
 ·exact hb _ (List.mem_of_getElem? (getD_some h))
 ·rw[List.getD_eq_getElem?_getD,List.getElem?_eq_none (by omega)];exact⟨by decide,by decide⟩
theorem all0 (l:List Int):(l.findIdx? fun x=>x != 0)=none↔l.all (· ==0)=true:=by
 rw[findIdx_none,List.all_eq_true]
 constructor
 ·intro h x hx;simpa using h x hx
 ·intro h x hx;simpa using h x hx
theorem recRead_eq (b:List Int) (hb:B8 b) (hlen:b.length≤2^36):O_record_Read b=some (recR b):=by
 classical
 unfold O_record_Read recR
 by_cases h0:b.length=256
 rotate_left
 ·have:((((b.length):Nat):Int) != 256)=true:=by simp;omega
  simp only[this,cond_true,ne_eq,h0,not_false_eq_true,if_true]
 have e0:((((256):Nat):Int) != 256)=false:=rfl
 have g255:b[255]? = some (b.getD 255 0):=getD_some (by omega)
 have g16:b[16]? = some (b.getD 16 0):=getD_some (by omega)
 have k16:=getD_B8 hb 16
 simp only[e0,cond_false,g255,g16,Option.bind_some,ne_eq,h0,not_true_eq_false,if_false]
 by_cases h1:b.getD 255 0=0
 ·simp only[h1,beq_self_eq_true,cond_true,if_true]
 have e1:(b.getD 255 0==0)=false:=by simpa using h1
 simp only[e1,cond_false,h1,if_false]
 by_cases h2:b.getD 255 0>1
 ·simp only[h2,decide_true,cond_true,if_true]
 simp only[h2,decide_false,cond_false,if_false]
 have d1:(0≤251∧251≤256):=by decide
 have d2:(251≤255∧255≤256):=by decide
 have d3:(0≤8∧8≤256):=by decide
 have d4:(8≤16∧16≤256):=by decide
 have t251:(b.take 251).length=251:=by simp[h0]
 simp only[d1,d2,d3,d4,and_self,decide_true,cond_true,List.drop_zero,Nat.sub_zero,Nat.reduceSub,sums_eq _ (hb.take 251) (by omega),Option.bind_some,bequal (sum4 (b.take 251)) _ (by rw[sum4_len];omega)]
 by_cases h3:sum4 (b.take 251)=(b.drop 251).take 4
 rotate_left
 ·simp only[h3,decide_false,Bool.not_false,cond_true,not_false_eq_true,if_true]
 simp only[h3,decide_true,Bool.not_true,cond_false,not_true_eq_false,if_false]
 have la:(b.take 8).length=8:=by simp[h0]
 have lb:((b.drop 8).take 8).length=8:=by simp[h0]
 have w1:IntKind.wrap .i64 (b.getD 16 0)=b.getD 16 0:=w64 (by omega) (by omega)
 simp only[getW (b.take 8) (hb.take 8) (by omega) (by omega),getW ((b.drop 8).take 8) ((hb.drop 8).take 8) (by omega) (by omega),Option.bind_some,w1]
 obtain⟨k,hk⟩:=Int.eq_ofNat_of_zero_le k16.1
 have w2:IntKind.wrap .i64 (17+((k:Nat):Int))=((17+k:Nat):Int):=by rw[w64 (by omega) (by omega)];omega
 simp only[hk,w2,Int.toNat_natCast]
 have bn1:=(beN_lt _ (hb.take 8)).1
 have bn2:=(beN_lt _ ((hb.drop 8).take 8)).1
 by_cases hk2:k≤234
 rotate_left
 ·have q:(bif decide (((k:Nat):Int)>234)==false then (bif decide (0≤((17+k:Nat):Int)) then (none:Option Bool) else none) else some true)=some true:=by
   have:((k:Nat):Int)>234:=by omega
   simp only[this,decide_true];rfl
  have hbad:recBad b:=by unfold recBad;rw[hk];omega
  have q2:(((k:Nat):Int)>234):=by omega
  simp only[hbad,if_true]
  simp only[q2,decide_true,show (true==false)=false from rfl,cond_false]
  have q3:∀(c1 c2:Bool),(bif (c1==false) then (bif (c2==false) then (some true) else (some true)) else (some true))=some true:=by decide
  rw[q3];rfl
 have q2:¬(((k:Nat):Int)>234):=by omega
 have q4:17+k≤251∧251≤256:=by omega
 have lz:(((b.drop (17+k)).take (251-(17+k))).length)=251-(17+k):=by simp[h0];omega
 have loop:(iterL (S:=Int) (X:=(Int)⊕(Int×Bool)) (fun s99=>(bif (decide (s99<(((((b.drop (17+k)).take (251-(17+k))).length):Nat):Int))) then (bif decide (0≤s99) then ((((b.drop (17+k)).take (251-(17+k)))[(s99).toNat]?).bind fun e100=>((F_record_Read_1 e100).bind fun r101=>(bif r101 then (some (Sum.inr (Sum.inl s99))) else (some (Sum.inl (IntKind.wrap .i64 (s99+1))))))) else none) else (some (Sum.inr (Sum.inr (s99,(decide (s99<(((((b.drop (17+k)).take (251-(17+k))).length):Nat):Int))))))))) 0)=some (match ((b.drop (17+k)).take (251-(17+k))).findIdx? (fun x=>x != 0)with|some i=>.inl (i:Int)|none=>.inr (((((b.drop (17+k)).take (251-(17+k))).length:Nat):Int),false)):=by
  refine findLoop (fun x=>x != 0) (fun i e he=>?_) (by simp)
  have hi:=getE_bound he
  have hi':(i:Int)<((((b.drop (17+k)).take (251-(17+k))).length:Nat):Int):=by omega
  simp only[hi',decide_true,cond_true,Int.natCast_nonneg,Int.toNat_natCast,he,Option.bind_some,F_record_Read_1,wsucc (show i<2^62 by omega)]
  by_cases hz:(e != 0)=true
  ·simp only[hz,cond_true,if_true]
  ·simp only[(Bool.not_eq_true _).mp hz,cond_false];rfl
 simp only[q2,q4,decide_false,decide_true,beq_self_eq_true,cond_true,Int.natCast_nonneg,and_self,loop,Option.bind_some]
 have hz:((b.drop (17+k)).take (251-(17+k)))=((b.drop (17+k)).take (234-k)):=by rw[show 251-(17+k)=234-k by omega]
 have fin:∀{α:Type} (v:α),(match (((b.drop (17+k)).take (251-(17+k))).findIdx? (fun x=>x != 0):Option Nat)with|some i=>(Sum.inl (i:Int):Int⊕(Int×Bool))|none=>.inr (((((b.drop (17+k)).take (251-(17+k))).length:Nat):Int),false))=if ((b.drop (17+k)).take (234-k)).all (· ==0)=true then .inr (((((b.drop (17+k)).take (251-(17+k))).length:Nat):Int),false) else .inl (((((b.drop (17+k)).take (251-(17+k))).findIdx? (fun x=>x != 0)).getD 0:Nat):Int):=by
  intro _ _
  by_cases ha:((b.drop (17+k)).take (234-k)).all (· ==0)=true
  ·rw[if_pos ha,←hz]at *
   rw[(all0 _).2 (by rw[hz];exact ha)]
  ·rw[if_neg ha]
   cases hf:((b.drop (17+k)).take (251-(17+k))).findIdx? (fun x=>x != 0) with
   |none=>rw[all0,hz]at hf;exact(ha hf).elim
   |some i=>rfl
 rw[fin ()]
 have hc:(17≤17+k∧17+k≤256):=by omega
 have hcl:O_slices_Clone_byte_byte ((b.drop 17).take (17+k-17))=some ((b.drop 17).take k):=by rw[show 17+k-17=k by omega];exact cloneB _ (by simp;omega)
 simp only[hc,decide_true,cond_true,and_self,hcl,Option.bind_some]
 by_cases ha:((b.drop (17+k)).take (234-k)).all (· ==0)=true
 ·rw[if_pos ha]
  by_cases p1:beN (b.take 8)≥72057594037927936
  ·have hbad:recBad b:=by unfold recBad;omega
   simp only[p1,hbad,decide_true,if_true];rfl
  ·by_cases p2:beN ((b.drop 8).take 8)≥72057594037927936
   ·have hbad:recBad b:=by unfold recBad;omega
    simp only[p1,p2,hbad,decide_true,decide_false,if_true];rfl
   ·have hbad:¬recBad b:=by unfold recBad;rw[hk];simp only[Int.toNat_natCast,ha];simp;omega
    simp only[p1,p2,hbad,decide_false,beq_self_eq_true,cond_true,if_false,Option.bind_some,show decide ((-1:Int)≥0)=false from rfl,cond_false]
    rw[w64 (by omega) (by omega),w64 (by omega) (by omega)]
 ·rw[if_neg ha]
  have hbad:recBad b:=by unfold recBad;rw[hk];simp only[Int.toNat_natCast];exact .inr (.inr (.inr ((Bool.not_eq_true _).mp ha)))
  have pos:decide (((((((b.drop (17+k)).take (251-(17+k))).findIdx? (fun x=>x != 0)).getD 0:Nat):Int))≥0)=true:=decide_eq_true (Int.natCast_nonneg _)
  simp only[hbad,if_true,pos]
  have q3:∀(c1 c2:Bool),(bif (c1==false) then (bif (c2==false) then (some true) else (some true)) else (some true))=some true:=by decide
  rw[q3];rfl
end Go.Ideal.Seat
set_option linter.unusedVariables false
set_option linter.unusedSimpArgs false
namespace Go.Ideal.Seat
open Go.Ideal.Plain
theorem take_getD {b:List Int} {i n:Nat} (h:i<n):(b.take n).getD i 0=b.getD i 0:=by
 simp only[List.getD_eq_getElem?_getD,List.getElem?_take,h,if_true]
def markB (b:List Int) (is:Bool):List Int:=b.set 255 (if is then 1 else 0)
theorem markB_len (b:List Int) (is:Bool):(markB b is).length=b.length:=by simp[markB]
theorem markB_B8 {b:List Int} (h:B8 b) (is:Bool):B8 (markB b is):=h.set _ (by cases is<;>decide)
theorem marked_eq (b:List Int) (is:Bool) (h:b.length=256):O_record_Marked (b,is)=some (markB b is):=by
 unfold O_record_Marked markB
 have w:IntKind.wrap .i64 (((256:Nat):Int)-1)=((255:Nat):Int):=by decide
 have p:(((256:Nat):Int)>0):=by decide
 have g255:b[255]? = some (b.getD 255 0):=getD_some (by omega)
 have g2:(b.set 255 0)[255]? = some 0:=by rw[List.getElem?_set_self (by omega)]
 simp only[cloneB b (by omega),Option.bind_some,h,p,w,decide_true,cond_true,Int.natCast_nonneg,Int.toNat_natCast,List.length_set,show (255<256) from by decide,g255,g2]
 cases is<;>simp[List.set_set]
theorem recR_made {g n:Int} {d:List Int} (he:recErr g n d=0) (hd:B8 d):recR (markB (recB g n d) true)=((g,n,d),0):=by
 classical
 obtain⟨h1,h2,h3,h4,h5⟩:=recErr_zero.1 he
 have hl:=recB_len g n h5
 have hbl:=recBody_len g n h5
 have b1:(markB (recB g n d) true).getD 255 0=1:=by
  rw[List.getD_eq_getElem?_getD,markB,List.getElem?_set_self (by omega)];rfl
 have b2:(markB (recB g n d) true).take 251=recBody g n d:=by
  rw[markB,List.take_set_of_le (by omega),recB,List.take_append_of_le_length (by omega),List.take_of_length_le (by omega)]
 have b3:((markB (recB g n d) true).drop 251).take 4=sum4 (recBody g n d):=by
  have:(markB (recB g n d) true)=recBody g n d++(sum4 (recBody g n d)++[1]):=by
   rw[markB,recB,←List.append_assoc,←List.append_assoc]
   rw[List.set_append_right _ _ (by rw[List.length_append,hbl,sum4_len];omega),List.length_append,hbl,sum4_len];rfl
  rw[this,List.drop_append_of_le_length (by omega),List.drop_of_length_le (by omega),List.nil_append];rfl
 have bt:∀k,k≤251→(markB (recB g n d) true).take k=(recBody g n d).take k:=fun k hk=>by
  rw[←b2,List.take_take,Nat.min_eq_left hk]
 have g16:(markB (recB g n d) true).getD 16 0=(d.length:Int):=by
  rw[←take_getD (n:=251) (by decide),b2,recBody,List.getD_eq_getElem?_getD,List.getElem?_append_right (by rw[beP_len];omega),beP_len,List.getElem?_append_right (by rw[beP_len];omega),beP_len];rfl
 have hpl:=beP_len 8 g
 have hpn:=beP_len 8 n
 have b8:(markB (recB g n d) true).take 8=beP 8 g:=by
  rw[bt 8 (by omega),recBody,List.take_append_of_le_length (by omega),List.take_of_length_le (by omega)]
 have dt:∀i k,i+k≤251→((markB (recB g n d) true).drop i).take k=((recBody g n d).drop i).take k:=fun i k h=>by
  rw[List.take_drop,List.take_drop,bt _ (by omega)]
 have b16:((markB (recB g n d) true).drop 8).take 8=beP 8 n:=by
  rw[dt _ _ (by omega),recBody,List.drop_append_of_le_length (by omega),List.drop_of_length_le (by omega),List.nil_append,List.take_append_of_le_length (by omega),List.take_of_length_le (by omega)]
 have rest:(recBody g n d).drop 17=d++List.replicate (234-d.length) 0:=by
  have:(recBody g n d)=(beP 8 g++beP 8 n++[(d.length:Int)])++(d++List.replicate (234-d.length) 0):=by simp[recBody]
  rw[this,List.drop_append_of_le_length (by simp[beP_len]),List.drop_of_length_le (by simp[beP_len]),List.nil_append]
 have b17:((markB (recB g n d) true).drop 17).take d.length=d:=by
  rw[dt _ _ (by omega),rest,List.take_append_of_le_length (by omega),List.take_of_length_le (by omega)]
 have bz:(((markB (recB g n d) true).drop (17+d.length)).take (234-d.length)).all (· ==0)=true:=by
  rw[dt _ _ (by omega),←List.drop_drop,rest,List.drop_append_of_le_length (by omega),List.drop_of_length_le (by omega),List.nil_append,List.all_eq_true]
  intro x hx
  rw[List.eq_of_mem_replicate (List.mem_of_mem_take hx)];rfl
 have n1:=beN_beP 8 g h1 (by rw[show (256:Int)^8=18446744073709551616 by decide];omega)
 have n2:=beN_beP 8 n h3 (by rw[show (256:Int)^8=18446744073709551616 by decide];omega)
 have hbad:¬recBad (markB (recB g n d) true):=by
  unfold recBad
  rw[b8,b16,n1,n2,g16,Int.toNat_natCast,bz]
  simp;omega
 unfold recR
 rw[if_neg (by rw[markB_len];omega),if_neg (by rw[b1];decide),if_neg (by rw[b1];decide),if_neg (by rw[b2,b3];simp),if_neg hbad,b8,b16,n1,n2,g16,Int.toNat_natCast,b17]
end Go.Ideal.Seat
set_option linter.unusedVariables false
set_option linter.unusedSimpArgs false
namespace Go.Ideal.Seat
open Go.Ideal.Plain
abbrev Wr:=Int×List Int
abbrev DkT:=List (List Int)×List Wr×List Int×Bool×Int
structure Dsk where
 blocks:List (List Int)
 waits:List Wr
 bad:List Int
 down:Bool
 cut:Option Nat
namespace Dsk
def left:Option Nat→Int
 |none=>-1
 |some k=>(k:Int)
def toD (w:Dsk):List (List Int)×List Wr×List Int×Bool×Int:=(w.blocks,w.waits,w.bad,w.down,left w.cut)
def there (w:Dsk) (n:Int):Prop:=0≤n∧n<w.blocks.length
instance (w:Dsk) (n:Int):Decidable (w.there n):=by unfold there;exact inferInstance
end Dsk
def lastW (ws:List Wr) (n:Int) (b:List Int):List Int:=ws.foldl (fun b x=>if x.1=n then x.2 else b) b
def layB (bs:List (List Int)) (x:Wr) (k:Nat):List (List Int):=bs.set x.1.toNat (x.2.take k++(bs.getD x.1.toNat []).drop k)
def clampP (p:Int):Int:=if 256<(if 0>p then 0 else p) then 256 else (if 0>p then 0 else p)
namespace Dsk
def lies (w:Dsk) (n:Int):List Int:=if w.there n then w.blocks.getD n.toNat [] else []
def rd (w:Dsk) (n:Int):List Int×Int:=if w.down=true then ([],19) else if ¬w.there n then ([],1) else (lastW w.waits n (w.blocks.getD n.toNat []),0)
def step (w:Dsk):Dsk×Bool:=match w.cut with
 |some 0=>({ w with down:=true },false)
 |some (k+1)=>({ w with cut:=some k },true)
 |none=>(w,true)
def put (w:Dsk) (n:Int) (b:List Int):Dsk×Int:=if w.down=true then (w,19) else if ¬w.there n∨b.length≠256 then (w,1) else if n∈w.bad then (w,17)
 else if w.step.2=true then ({ w.step.1 with waits:=w.step.1.waits++[(n,b)] },0) else (w.step.1,19)
def sync (w:Dsk):Dsk×Int:=if w.down=true then (w,19) else if w.step.2=true then ({ w.step.1 with blocks:=w.waits.foldl (fun bs x=>layB bs x 256) w.blocks,waits:=[] },0) else (w.step.1,19)
def crash (w:Dsk) (picks:List Int):Dsk:={ w with blocks:=(w.waits.zip picks).foldl (fun bs x=>layB bs x.1 (clampP x.2).toNat) w.blocks,waits:=[],down:=false,cut:=none }
def cutAt (w:Dsk) (n:Int):Dsk:={ w with cut:=some n.toNat }
end Dsk
def Blk (bs:List (List Int)):Prop:=∀b∈bs,b.length=256∧B8 b
structure Dsk.Ok (w:Dsk) (m:Nat):Prop where
 few:w.blocks.length≤256
 blk:Blk w.blocks
 wts:∀x∈w.waits,w.there x.1∧x.2.length=256∧B8 x.2
 len:w.waits.length≤m
 bad:w.bad.length≤2^36
 cut:∀k,w.cut=some k→k<9223372036854775808
theorem layB_len (bs:List (List Int)) (x:Wr) (k:Nat):(layB bs x k).length=bs.length:=by simp[layB]
theorem layB_ok {bs:List (List Int)} {x:Wr} {k:Nat} (h:Blk bs) (h1:0≤x.1) (h2:x.1.toNat<bs.length) (h3:x.2.length=256) (h4:B8 x.2) (hk:k≤256):Blk (layB bs x k):=by
 intro b hb
 rcases List.mem_or_eq_of_mem_set hb with h'|rfl
 ·exact h b h'
 ·have e:bs.getD x.1.toNat []=bs[x.1.toNat]:=by rw[List.getD_eq_getElem?_getD,List.getElem?_eq_getElem h2];rfl
  have:=h _ (List.getElem_mem h2)
  rw[e]
  exact⟨by simp[h3,this.1];omega,(h4.take k).app (this.2.drop k)⟩
theorem lastW_ok {ws:List Wr} {n:Int}:∀{b:List Int},(∀x∈ws,x.2.length=256∧B8 x.2)→b.length=256∧B8 b→(lastW ws n b).length=256∧B8 (lastW ws n b):=by
 induction ws with
 |nil=>intro b _ h;exact h
 |cons x r ih=>
  intro b h1 h2
  show (lastW r n (if x.1=n then x.2 else b)).length=256∧_
  refine ih (fun y hy=>h1 y (by simp[hy])) ?_
  split
  ·exact h1 x (by simp)
  ·exact h2
theorem there_iff (w:Dsk) (n:Int):O_disk_Disk_there (w.toD,n)=some (w.toD,decide (w.there n)):=by
 unfold O_disk_Disk_there Dsk.there
 by_cases h:n≥0
 ·simp only[h,decide_true,beq_self_eq_true,cond_true]
  have:(n<(w.toD.1.length:Int))↔(True∧n<(w.blocks.length:Int)):=⟨fun h'=>⟨trivial,h'⟩,fun h=>h.2⟩
  exact congrArg (fun b=>some (w.toD,b)) (decide_eq_decide.2 this)
 ·have:¬(0≤n∧n<(w.blocks.length:Int)):=by omega
  simp only[h,this,decide_false];rfl
theorem there_get {w:Dsk} {n:Int} (h:w.there n):n.toNat<w.blocks.length∧w.blocks[n.toNat]? = some (w.blocks.getD n.toNat []):=by
 have h1:n.toNat<w.blocks.length:=by obtain⟨a,b⟩:=h;omega
 exact⟨h1,by rw[List.getD_eq_getElem?_getD,List.getElem?_eq_getElem h1];rfl⟩
theorem blk_get {w:Dsk} {m:Nat} (ok:w.Ok m) {n:Int} (h:w.there n):(w.blocks.getD n.toNat []).length=256∧B8 (w.blocks.getD n.toNat []):=
 ok.blk _ (List.mem_of_getElem? (there_get h).2)
theorem lies_eq {w:Dsk} {m:Nat} (ok:w.Ok m) (n:Int):O_disk_Disk_Lies (w.toD,n)=some (w.toD,w.lies n):=by
 unfold O_disk_Disk_Lies
 rw[there_iff]
 by_cases h:w.there n
 ·obtain⟨h1,h2⟩:=there_get h
  have hb:=blk_get ok h
  have c1:0≤n:=h.1
  have c2:n.toNat<w.toD.1.length:=h1
  have c3:w.toD.1[n.toNat]? = some (w.blocks.getD n.toNat []):=h2
  have c4:w.toD.1.set n.toNat (w.blocks.getD n.toNat [])=w.toD.1:=by
   have e:w.blocks.getD n.toNat []=w.blocks[n.toNat]:=by rw[List.getD_eq_getElem?_getD,List.getElem?_eq_getElem h1];rfl
   rw[e];exact List.set_getElem_self h1
  simp only[Option.bind_some,h,decide_true,Bool.not_true,cond_false,cond_true,c1,c2,c3,cloneB _ (by omega:(w.blocks.getD n.toNat []).length≤2^36),c4,Dsk.lies,if_true]
 ·simp only[Option.bind_some,h,decide_false,Bool.not_false,cond_true,Dsk.lies,if_false]
theorem backLoop {X Y:Type} {ws:List Wr} {n:Int} {F:Int→Option (Int⊕(X⊕Y))} {g:List Int→X} {z:Y} (h1:∀(i:Nat) e,ws[i]? = some e→F (i:Int)=some (if e.1=n then .inr (.inl (g e.2)) else .inl ((i:Int)-1)))
 (h2:F (-1)=some (.inr (.inr z))):∀k,k≤ws.length→(iterL F ((k:Int)-1)=some (.inr z)∧∀b,lastW (ws.take k) n b=b)∨∃r,iterL F ((k:Int)-1)=some (.inl (g r))∧∀b,lastW (ws.take k) n b=r:=by
 intro k
 induction k with
 |zero=>intro _;exact .inl ⟨by rw[show ((0:Nat):Int)-1 = -1 by decide,iterL_inr h2],fun b=>by rw[List.take_zero];rfl⟩
 |succ k ih=>
  intro hk
  have hlt:k<ws.length:=by omega
  have e:=h1 k _ (List.getElem?_eq_getElem hlt)
  have ht:∀b,lastW (ws.take (k+1)) n b=if ws[k].1=n then ws[k].2 else lastW (ws.take k) n b:=fun b=>by
   rw[←List.take_append_getElem hlt,lastW,List.foldl_append];rfl
  rw[show ((k+1:Nat):Int)-1=(k:Int) by omega]
  by_cases hn:ws[k].1=n
  ·rw[if_pos hn]at e
   exact .inr ⟨ws[k].2,by rw[iterL_inr e],fun b=>by rw[ht,if_pos hn]⟩
  ·rw[if_neg hn]at e
   rw[iterL_inl e]
   rcases ih (by omega)with ⟨a,b⟩|⟨r,a,b⟩
   ·exact .inl ⟨a,fun b'=>by rw[ht,if_neg hn,b]⟩
   ·exact .inr ⟨r,a,fun b'=>by rw[ht,if_neg hn,b]⟩
theorem rd_eq {w:Dsk} {m:Nat} (ok:w.Ok m) (hm:m≤2^30) (n:Int):O_disk_Disk_Read (w.toD,n)=some (w.toD,w.rd n):=by
 unfold O_disk_Disk_Read Dsk.rd
 cases hd:w.down with
 |true=>
  have:w.toD.2.2.2.1=true:=hd
  simp only[this,cond_true,if_true]
 |false=>
  have hdd:w.toD.2.2.2.1=false:=hd
  simp only[hdd,cond_false,Bool.false_eq_true,if_false]
  rw[there_iff]
  simp only[Option.bind_some]
  by_cases h:w.there n
  ·simp only[h,decide_true,Bool.not_true,cond_false,not_true_eq_false,if_false]
   have hl:=ok.len
   have w1:IntKind.wrap .i64 (((w.toD.2.1.length:Nat):Int)-1)=((w.waits.length:Nat):Int)-1:=by
    have:w.toD.2.1.length=w.waits.length:=rfl
    rw[this,w64 (by omega) (by omega)]
   rw[w1]
   have key:=backLoop (X:=List Int×Int) (ws:=w.waits) (n:=n) (g:=fun r=>(r,0)) (z:=((-1:Int),false)) (F:=(fun s47=>(bif (decide (s47≥0)) then (bif decide (0≤s47) then (bif decide ((s47).toNat<w.toD.2.1.length) then ((w.toD.2.1[(s47).toNat]?).bind fun e48=>(bif (e48.1==n) then (bif decide (0≤s47) then (bif decide ((s47).toNat<w.toD.2.1.length) then ((w.toD.2.1[(s47).toNat]?).bind fun e49=>((O_slices_Clone_byte_byte e49.2).bind fun r50=>(some (Sum.inr (Sum.inl (r50,0)))))) else none) else none) else (some (Sum.inl (IntKind.wrap .i64 (s47-1)))))) else none) else none) else (some (Sum.inr (Sum.inr (s47,(decide (s47≥0))))))))) (fun i e he=>?_) (by rfl) w.waits.length (Nat.le_refl _)
   ·rw[List.take_length]at key
    rcases key with ⟨a,b⟩|⟨r,a,b⟩
    ·rw[a,b]
     simp only[Option.bind_some,lies_eq ok,Dsk.lies,if_pos h]
    ·rw[a,b]
     simp only[Option.bind_some]
   ·have hi:=getE_bound he
    have c1:(i:Int)≥0:=by omega
    have c2:(i<w.toD.2.1.length):=hi
    have c3:w.toD.2.1[i]? = some e:=he
    have hx:=ok.wts e (List.mem_of_getElem? he)
    simp only[c1,c2,c3,decide_true,cond_true,Int.toNat_natCast,Option.bind_some,cloneB e.2 (by omega)]
    by_cases hn:e.1=n
    ·simp only[hn,beq_self_eq_true,cond_true,if_true]
    ·have:(e.1==n)=false:=by simpa using hn
     simp only[this,cond_false,hn,if_false,w64 (show -9223372036854775808≤(i:Int)-1 by omega) (by omega)]
  ·simp only[h,decide_false,Bool.not_false,cond_true,not_false_eq_true,if_true]
end Go.Ideal.Seat
set_option linter.unusedVariables false
set_option linter.unusedSimpArgs false
namespace Go.Ideal.Seat
open Go.Ideal.Plain
theorem step_same (w:Dsk):w.step.1.blocks=w.blocks∧w.step.1.waits=w.waits∧w.step.1.bad=w.bad:=by
 unfold Dsk.step;split<;>exact⟨rfl,rfl,rfl⟩
theorem step_ok {w:Dsk} {m:Nat} (ok:w.Ok m):w.step.1.Ok m:=by
 unfold Dsk.step
 split
 ·exact⟨ok.few,ok.blk,ok.wts,ok.len,ok.bad,ok.cut⟩
 ·rename_i k h
  have:=ok.cut _ h
  exact⟨ok.few,ok.blk,ok.wts,ok.len,ok.bad,fun j hj=>by simp only[Option.some.injEq]at hj;omega⟩
 ·exact ok
theorem stepD {w:Dsk} {m:Nat} (ok:w.Ok m):O_disk_Disk_step w.toD=some (w.step.1.toD,w.step.2):=by
 unfold O_disk_Disk_step Dsk.step
 obtain⟨bs,ws,bd,dn,ct⟩:=w
 cases ct with
 |none=>rfl
 |some k=>
  cases k with
  |zero=>rfl
  |succ k=>
   have hk:=ok.cut _ rfl
   have c1:((((k+1:Nat):Int))==0)=false:=by simp;omega
   have c2:((((k+1:Nat):Int))>0):=by omega
   have c3:IntKind.wrap .i64 (((k+1:Nat):Int)-1)=(k:Int):=by rw[w64 (by omega) (by omega)];omega
   simp only[Dsk.toD,Dsk.left,c1,c2,c3,decide_true,cond_false,cond_true]
theorem idx_eq (l:List Int) (n:Int) (h:l.length≤2^36):F_slices_Contains_int_int (l,n)=some (decide (n∈l)):=by
 unfold F_slices_Contains_int_int F_slices_Index_int_int
 rw[findLoop (l:=l) (fun x=>n==x) (z:=((l.length:Int),false)) (fun i e he=>?_) (by simp)]
 ·simp only[Option.bind_some]
  cases hf:l.findIdx? (fun x=>n==x) with
  |none=>
   rw[findIdx_none]at hf
   have:¬n∈l:=fun hm=>by have:=hf n hm;simp at this
   simp only[Option.bind_some,this,decide_false];rfl
  |some i=>
   have hm:n∈l:=by
    obtain⟨hl,h1,_⟩:=List.findIdx?_eq_some_iff_getElem.1 hf
    have:n=l[i]:=by simpa using h1
    rw[this];exact List.getElem_mem hl
   have:((i:Int)≥0):=by omega
   simp only[Option.bind_some,hm,this,decide_true]
 ·have hi:=getE_bound he
  have c1:(i:Int)<(l.length:Int):=by omega
  simp only[c1,decide_true,cond_true,Int.natCast_nonneg,Int.toNat_natCast,he,Option.bind_some,wsucc (show i<2^62 by omega)]
  by_cases hn:(n==e)=true
  ·simp only[hn,cond_true,if_true]
  ·simp only[(Bool.not_eq_true _).mp hn,cond_false,Bool.false_eq_true,if_false]
theorem put_eq {w:Dsk} {m:Nat} (ok:w.Ok m) (hm:m≤2^30) (n:Int) (b:List Int):O_disk_Disk_Write (w.toD,n,b)=some ((w.put n b).1.toD,(w.put n b).2):=by
 unfold O_disk_Disk_Write Dsk.put
 cases hd:w.down with
 |true=>
  have:w.toD.2.2.2.1=true:=hd
  simp only[this,cond_true,if_true]
 |false=>
  have hdd:w.toD.2.2.2.1=false:=hd
  simp only[hdd,cond_false,Bool.false_eq_true,if_false,there_iff,Option.bind_some]
  by_cases h:w.there n
  ·by_cases hl:b.length=256
   ·have c1:(((256:Nat):Int) != 256)=false:=rfl
    have hbd:w.toD.2.2.1=w.bad:=rfl
    simp only[h,decide_true,Bool.not_true,beq_self_eq_true,cond_true,hl,c1,Option.bind_some,cond_false,not_true_eq_false,ne_eq,or_self,if_false,hbd,idx_eq _ n ok.bad]
    by_cases hb:n∈w.bad
    ·simp only[hb,decide_true,cond_true,if_true]
    ·simp only[hb,decide_false,cond_false,if_false,stepD ok,Option.bind_some]
     cases hs:w.step.2 with
     |false=>simp only[Bool.not_false,cond_true,Bool.false_eq_true,if_false]
     |true=>
      have l2:w.step.1.toD.2.1=w.waits:=(step_same w).2.1
      have hwl:=ok.len
      have c2:((w.step.1.toD.2.1.length+([(n,b)]:List Wr).length)*(32+1)≤most):=by rw[l2];unfold most;simp;omega
      simp only[Bool.not_true,cond_false,if_true,cloneC b (by omega),Option.bind_some,c2,decide_true,cond_true]
      rfl
   ·have c1:(((b.length:Nat):Int) != 256)=true:=by simp;omega
    simp only[h,decide_true,Bool.not_true,beq_self_eq_true,cond_true,c1,Option.bind_some,hl,not_true_eq_false,ne_eq,not_false_eq_true,or_true,if_true]
  ·simp only[h,decide_false,Bool.not_false,show (true==false)=false from rfl,cond_false,Option.bind_some,cond_true,not_false_eq_true,true_or,if_true]
theorem put_ok {w:Dsk} {m:Nat} (ok:w.Ok m) {n:Int} {b:List Int} (hb:B8 b):(w.put n b).1.Ok (m+1):=by
 have up:∀{w:Dsk},w.Ok m→w.Ok (m+1):=fun ok=>⟨ok.few,ok.blk,ok.wts,by have:=ok.len;omega,ok.bad,ok.cut⟩
 unfold Dsk.put
 split
 ·exact up ok
 ·split
  ·exact up ok
  ·rename_i h
   split
   ·exact up ok
   ·split
    ·have so:=step_ok ok
     obtain⟨e1,e2,e3⟩:=step_same w
     refine⟨so.few,so.blk,fun x hx=>?_,?_,so.bad,so.cut⟩
     ·rcases List.mem_append.1 hx with hx|hx
      ·exact so.wts x hx
      ·rw[List.mem_singleton]at hx
       subst hx
       have ht:w.there n:=Classical.not_not.1 (fun h'=>h (.inl h'))
       refine⟨?_,Classical.not_not.1 (fun h'=>h (.inr h')),hb⟩
       unfold Dsk.there at ht ⊢
       rw[←e1]at ht;exact ht
     ·have:=so.len
      rw[List.length_append,List.length_singleton];omega
    ·exact up (step_ok ok)
theorem lays_ok {k:Wr→Nat}:∀{l:List (Wr×Int)} {bs:List (List Int)} {f:Int→Nat},(∀p,f p≤256)→Blk bs→(∀x∈l,0≤x.1.1∧x.1.1.toNat<bs.length∧x.1.2.length=256∧B8 x.1.2)→Blk (l.foldl (fun bs x=>layB bs x.1 (f x.2)) bs)∧(l.foldl (fun bs x=>layB bs x.1 (f x.2)) bs).length=bs.length
 |[],bs,f,_,h,_=>⟨h,rfl⟩
 |x::l,bs,f,hf,h,hx=>by
  obtain⟨a1,a2,a3,a4⟩:=hx x (by simp)
  obtain⟨i1,i2⟩:=lays_ok (k:=k) (l:=l) (f:=f) hf (layB_ok h a1 a2 a3 a4 (hf x.2)) (fun y hy=>by rw[layB_len];exact hx y (by simp[hy]))
  exact⟨i1,by rw[layB_len]at i2;exact i2⟩
theorem sync_all {l:List Wr} {bs:List (List Int)} (h:Blk bs) (hx:∀x∈l,0≤x.1∧x.1.toNat<bs.length∧x.2.length=256∧B8 x.2):Blk (l.foldl (fun bs x=>layB bs x 256) bs)∧(l.foldl (fun bs x=>layB bs x 256) bs).length=bs.length:=by
 induction l generalizing bs with
 |nil=>exact⟨h,rfl⟩
 |cons x l ih=>
  obtain⟨a1,a2,a3,a4⟩:=hx x (by simp)
  obtain⟨i1,i2⟩:=ih (layB_ok h a1 a2 a3 a4 (Nat.le_refl _)) (fun y hy=>by rw[layB_len];exact hx y (by simp[hy]))
  exact⟨i1,by rw[layB_len]at i2;exact i2⟩
theorem wts_nat {w:Dsk} {m:Nat} (ok:w.Ok m):∀x∈w.waits,0≤x.1∧x.1.toNat<w.blocks.length∧x.2.length=256∧B8 x.2:=fun x hx=>by
 obtain⟨a,b,c⟩:=ok.wts x hx
 exact⟨a.1,(there_get a).1,b,c⟩
theorem sync_ok {w:Dsk} {m:Nat} (ok:w.Ok m):w.sync.1.Ok m:=by
 unfold Dsk.sync
 split
 ·exact ok
 ·split
  ·have so:=step_ok ok
   obtain⟨e1,e2,e3⟩:=step_same w
   obtain⟨i1,i2⟩:=sync_all ok.blk (wts_nat ok)
   exact⟨Nat.le_trans (Nat.le_of_eq i2) ok.few,i1,(fun x hx=>by cases hx),Nat.zero_le _,so.bad,so.cut⟩
  ·exact step_ok ok
theorem clampP_le (p:Int):0≤clampP p∧clampP p≤256:=by unfold clampP;split<;>split<;>omega
theorem zip_mem {ws:List Wr} {ps:List Int} {x:Wr×Int} (h:x∈ws.zip ps):x.1∈ws:=(List.of_mem_zip h).1
theorem crash_ok {w:Dsk} {m:Nat} (ok:w.Ok m) (picks:List Int):(w.crash picks).Ok m:=by
 obtain⟨i1,i2⟩:=lays_ok (k:=fun _=>0) (l:=w.waits.zip picks) (f:=fun p=>(clampP p).toNat) (fun p=>by have:=clampP_le p;omega) ok.blk (fun x hx=>wts_nat ok x.1 (zip_mem hx))
 exact⟨Nat.le_trans (Nat.le_of_eq i2) ok.few,i1,(fun x hx=>by cases hx),Nat.zero_le _,ok.bad,fun k hk=>by cases hk⟩
end Go.Ideal.Seat
set_option linter.unusedVariables false
set_option linter.unusedSimpArgs false
namespace Go.Ideal.Seat
open Go.Ideal.Plain
theorem laid_eq {bs:List (List Int)} {x:Wr} (h:Blk bs) (h2:x.1.toNat<bs.length) (h3:x.2.length=256):
 bs.set x.1.toNat (((bs.getD x.1.toNat []).take 0)++x.2.take (min x.2.length (bs.getD x.1.toNat []).length)++(bs.getD x.1.toNat []).drop (0+min x.2.length (bs.getD x.1.toNat []).length))=layB bs x 256:=by
 have e:bs.getD x.1.toNat []=bs[x.1.toNat]:=by rw[List.getD_eq_getElem?_getD,List.getElem?_eq_getElem h2];rfl
 have:=(h _ (List.getElem_mem h2)).1
 rw[←e]at this
 rw[this,h3,layB];simp
theorem getD_blk {bs:List (List Int)} {i:Nat} (h:i<bs.length):bs[i]? = some (bs.getD i []):=by
 rw[List.getD_eq_getElem?_getD,List.getElem?_eq_getElem h];rfl
theorem sync_eq {w:Dsk} {m:Nat} (ok:w.Ok m) (hm:m≤2^30):O_disk_Disk_Sync w.toD=some (w.sync.1.toD,w.sync.2):=by
 unfold O_disk_Disk_Sync Dsk.sync
 cases hd:w.down with
 |true=>
  have:w.toD.2.2.2.1=true:=hd
  simp only[this,show (true==false)=false from rfl,cond_false,Option.bind_some,cond_true,if_true]
 |false=>
  have hdd:w.toD.2.2.2.1=false:=hd
  simp only[hdd,beq_self_eq_true,cond_true,Bool.false_eq_true,if_false,stepD ok,Option.bind_some]
  cases hs:w.step.2 with
  |false=>simp only[Bool.not_false,cond_true,Bool.false_eq_true,if_false]
  |true=>
   obtain⟨e1,e2,e3⟩:=step_same w
   have hw:=wts_nat ok
   have hlen:=ok.len
   simp only[Bool.not_true,cond_false,if_true]
   rw[foldLoop (l:=w.waits) (fun(a:List (List Int)) i=>(a,w.step.1.toD.2.1,w.step.1.toD.2.2.1,w.step.1.toD.2.2.2.1,w.step.1.toD.2.2.2.2,w.step.1.toD.2.1,i)) (fun bs x=>layB bs x 256) (fun _ a=>Blk a∧a.length=w.blocks.length) (a:=w.step.1.toD.1)
    (fin:=fun a=>(a,w.step.1.toD.2.1,w.step.1.toD.2.2.1,w.step.1.toD.2.2.2.1,w.step.1.toD.2.2.2.2,w.step.1.toD.2.1,(w.waits.length:Int),false)) (by show Blk w.step.1.blocks∧w.step.1.blocks.length=_;rw[e1];exact⟨ok.blk,rfl⟩) (fun a i e he hi ha=>?_) (fun a ha=>?_)]
   ·simp only[Option.bind_some]
    have:w.step.1.toD.1=w.blocks:=e1
    rw[this];rfl
   ·obtain⟨x1,x2,x3,x4⟩:=hw e (List.mem_of_getElem? he)
    have l2:w.step.1.toD.2.1=w.waits:=e2
    have c1:(i:Int)<((w.waits.length:Nat):Int):=by omega
    have c2:e.1.toNat<a.length:=by rw[ha.2];exact x2
    refine⟨?_,layB_ok ha.1 x1 c2 x3 x4 (Nat.le_refl _),by rw[layB_len];exact ha.2⟩
    simp only[l2,c1,decide_true,cond_true,Int.natCast_nonneg,Int.toNat_natCast,he,Option.bind_some,x1,c2,getD_blk c2,wsucc (show i<2^62 by omega),laid_eq ha.1 c2 x3]
   ·have l2:w.step.1.toD.2.1=w.waits:=e2
    simp[l2]
theorem clamp_nat (p:Int):clampP p=(if 256<(if 0>p then 0 else p) then 256 else (if 0>p then 0 else p)):=rfl
theorem cpy_eq {bs:List (List Int)} {x:Wr} {k:Nat} (h:Blk bs) (h2:x.1.toNat<bs.length) (h3:x.2.length=256) (hk:k≤256):
 bs.set x.1.toNat (((bs.getD x.1.toNat []).take 0)++(((x.2.drop 0).take (k-0)).take (min ((x.2.drop 0).take (k-0)).length (bs.getD x.1.toNat []).length))++(bs.getD x.1.toNat []).drop (0+min ((x.2.drop 0).take (k-0)).length (bs.getD x.1.toNat []).length))=layB bs x k:=by
 have e:bs.getD x.1.toNat []=bs[x.1.toNat]:=by rw[List.getD_eq_getElem?_getD,List.getElem?_eq_getElem h2];rfl
 have:=(h _ (List.getElem_mem h2)).1
 rw[←e]at this
 have l1:((x.2.drop 0).take (k-0)).length=k:=by simp[h3];omega
 rw[this,l1,Nat.min_eq_left hk,layB];simp[List.take_take]
theorem crash_eq {w:Dsk} {m:Nat} (ok:w.Ok m) (hm:m≤2^30) (picks:List Int) (hp:picks.length<2^60):O_disk_Disk_Crash (w.toD,picks)=some (w.crash picks).toD:=by
 unfold O_disk_Disk_Crash Dsk.crash
 have hw:=wts_nat ok
 have hlen:=ok.len
 have eb:w.toD.1=w.blocks:=rfl
 dsimp only
 simp only[eb]
 rw[iter_run (l:=w.waits) (mk:=fun(a:List (List Int)) (i:Int)=>(a,w.toD.2.1,w.toD.2.2.1,w.toD.2.2.2.1,w.toD.2.2.2.2,w.toD.2.1,i)) (step:=fun a i e=>some (.inl (if h:i<picks.length then layB a e (clampP picks[i]).toNat else a))) (fin:=fun a=>some (a,w.toD.2.1,w.toD.2.2.1,w.toD.2.2.2.1,w.toD.2.2.2.2,w.toD.2.1,(w.waits.length:Int),false)) (fun _ a=>Blk a∧a.length=w.blocks.length) (fun a i e he ha=>?_) (fun a i e a' he ha hs=>?_) (fun a ha=>?_) ⟨ok.blk,rfl⟩]
 ·have key:∀(l:List Wr) (i:Nat) (a:List (List Int)),runL (fun a i e=>some (Sum.inl (if h:i<picks.length then layB a e (clampP picks[i]).toNat else a))) (fun a=>some (a,w.toD.2.1,w.toD.2.2.1,w.toD.2.2.2.1,w.toD.2.2.2.2,w.toD.2.1,(w.waits.length:Int),false)) i a l=some ((l.zip (picks.drop i)).foldl (fun bs x=>layB bs x.1 (clampP x.2).toNat) a,w.toD.2.1,w.toD.2.2.1,w.toD.2.2.2.1,w.toD.2.2.2.2,w.toD.2.1,(w.waits.length:Int),false):=by
   intro l
   induction l with
   |nil=>intro i a;rfl
   |cons x l ih=>
    intro i a
    simp only[runL,Option.bind_some]
    rw[ih]
    by_cases h:i<picks.length
    ·rw[dif_pos h,List.drop_eq_getElem_cons h,List.zip_cons_cons,List.foldl_cons]
    ·rw[dif_neg h,List.drop_of_length_le (by omega),List.drop_of_length_le (by omega),List.zip_nil_right,List.zip_nil_right]
  rw[key]
  rfl
 ·obtain⟨x1,x2,x3,x4⟩:=hw e (List.mem_of_getElem? he)
  have hi:=getE_bound he
  have l2:w.toD.2.1=w.waits:=rfl
  have c1:(i:Int)<((w.waits.length:Nat):Int):=by omega
  have c2:e.1.toNat<a.length:=by rw[ha.2];exact x2
  simp only[l2,c1,decide_true,cond_true,Int.natCast_nonneg,Int.toNat_natCast,he,Option.bind_some,wsucc (show i<2^62 by omega)]
  by_cases h:i<picks.length
  ·have c3:(i:Int)<(picks.length:Int):=by omega
   have hcl:=clampP_le picks[i]
   have c4:(0≤(clampP picks[i]).toNat∧(clampP picks[i]).toNat≤e.2.length):=by omega
   simp only[c3,decide_true,cond_true,x1,c2,getD_blk c2,Option.bind_some,List.getElem?_eq_getElem h,←clamp_nat,hcl.1,c4,and_self,cpy_eq ha.1 c2 x3 (show (clampP picks[i]).toNat≤256 by omega),h,dif_pos,Option.map_some]
  ·have c3:¬(i:Int)<(picks.length:Int):=by omega
   simp only[c3,decide_false,cond_false,h,dif_neg,not_false_eq_true,Option.map_some]
 ·obtain⟨x1,x2,x3,x4⟩:=hw e (List.mem_of_getElem? he)
  simp only[Option.some.injEq,Sum.inl.injEq]at hs
  subst hs
  have c2:e.1.toNat<a.length:=by rw[ha.2];exact x2
  split
  ·rename_i h
   have hcl:=clampP_le picks[i]
   exact⟨layB_ok ha.1 x1 c2 x3 x4 (by omega),by rw[layB_len];exact ha.2⟩
  ·exact ha
 ·have l2:w.toD.2.1=w.waits:=rfl
  simp[l2]
theorem cut_eq (w:Dsk) (n:Int):O_disk_Disk_Cut (w.toD,n)=some (w.cutAt n).toD:=by
 unfold O_disk_Disk_Cut Dsk.cutAt
 have:(if 0>n then 0 else n)=((n.toNat:Nat):Int):=by split<;>omega
 rw[this];rfl
end Go.Ideal.Seat
set_option linter.unusedVariables false
set_option linter.unusedSimpArgs false
namespace Go.Ideal.Seat
open Go.Ideal.Plain
namespace Dsk
def lay (w:Dsk) (n:Int) (b:List Int):Dsk×Int:=if (w.put n b).2≠0 then w.put n b else (w.put n b).1.sync
end Dsk
theorem Ok.up {w:Dsk} {m k:Nat} (ok:w.Ok m) (h:m≤k):w.Ok k:=⟨ok.few,ok.blk,ok.wts,Nat.le_trans ok.len h,ok.bad,ok.cut⟩
theorem lay_ok {w:Dsk} {m:Nat} (ok:w.Ok m) {n:Int} {b:List Int} (hb:B8 b):(w.lay n b).1.Ok (m+1):=by
 unfold Dsk.lay
 split
 ·exact put_ok ok hb
 ·exact sync_ok (put_ok ok hb)
theorem rd_good {w:Dsk} {m:Nat} (ok:w.Ok m) {n:Int} (h:(w.rd n).2=0):(w.rd n).1.length=256∧B8 (w.rd n).1:=by
 unfold Dsk.rd at h ⊢
 split at h
 ·cases h
 ·split at h
  ·cases h
  ·rename_i h1 h2
   rw[if_neg h1,if_neg h2]
   exact lastW_ok (fun x hx=>(ok.wts x hx).2) (blk_get ok (Classical.not_not.1 h2))
def unmark (w:Dsk) (n:Int) (was:List Int):Dsk×Int:=if was.getD 255 0≠0 then w.lay n (markB was false) else (w,0)
def laid (s:Dsk×Int) (n:Int) (b:List Int):Dsk×Int:=if s.2≠0 then s else s.1.lay n b
theorem unmark_ok {w:Dsk} {m:Nat} (ok:w.Ok m) {n:Int} {b:List Int} (hb:B8 b):(unmark w n b).1.Ok (m+1):=by
 unfold unmark
 split
 ·exact lay_ok ok (markB_B8 hb false)
 ·exact Ok.up ok (by omega)
theorem laid_ok {s:Dsk×Int} {m:Nat} (ok:s.1.Ok m) {n:Int} {b:List Int} (hb:B8 b):(laid s n b).1.Ok (m+1):=by
 unfold laid
 split
 ·exact Ok.up ok (by omega)
 ·exact lay_ok ok hb
end Go.Ideal.Seat
set_option linter.unusedVariables false
set_option linter.unusedSimpArgs false
namespace Go.Ideal.Seat
open Go.Ideal.Plain
def zB:List Int:=List.replicate 256 0
theorem zB_ok:zB.length=256∧B8 zB:=⟨List.length_replicate,B8.rep _⟩
def newD (n:Nat):Dsk:=⟨List.replicate n zB,[],[],false,none⟩
theorem newD_ok (n:Nat) (h:n≤256):(newD n).Ok 0:=
 ⟨by show (List.replicate n zB).length≤256;rw[List.length_replicate];exact h,(fun b hb=>by rw[List.eq_of_mem_replicate hb];exact zB_ok),(fun x hx=>by cases hx),Nat.le_refl _,by show 0≤2^36;decide,(fun k hk=>by cases hk)⟩
theorem cloneI:O_slices_Clone_int_int []=some []:=by
 unfold O_slices_Clone_int_int
 have hm:(([]:List Int).length+([]:List Int).length)*(8+1)≤most:=by unfold most;decide
 simp only[hm,decide_true,cond_true,List.nil_append]
 exact both_self
theorem newD_eq (n:Nat) (h1:1≤n) (h2:n≤256):O_disk_New ((n:Int),[])=some (some (newD n).toD,0):=by
 unfold O_disk_New
 have a:¬((n:Int)<1):=by omega
 have b:¬((n:Int)>256):=by omega
 have hm:decide ((0:Nat)≤256∧(256:Int)*((1+1:Nat):Int)≤most)=true:=by unfold most;decide
 have hz:List.replicate (Int.toNat 256) (0:Int)=zB:=rfl
 simp only[a,b,decide_false,beq_self_eq_true,cond_true,Option.bind_some,cond_false,cloneI,hm,hz]
 rw[countLoop n (fun(l:List (List Int)) i=>(l,([]:List Wr),([]:List Int),false,(-1:Int),i)) (fun _ l=>l++[zB]) (fun i l=>l.length=i) (fin:=fun l=>(l,([]:List Wr),([]:List Int),false,(-1:Int),(n:Int),false)) rfl (fun l i hi hl=>?_) (fun l hl=>by simp)]
 ·rw[append_fold];rfl
 ·have c:(i:Int)<(n:Int):=by omega
  have m1:((l.length+([zB]:List (List Int)).length)*(24+1)≤most):=by unfold most;simp;omega
  refine⟨?_,by simp[hl]⟩
  simp only[c,m1,hm,decide_true,cond_true,wsucc (show i<2^62 by omega)]
end Go.Ideal.Seat
set_option linter.unusedVariables false
set_option linter.unusedSimpArgs false
namespace Go.Ideal.Seat
open Go.Ideal.Plain
theorem set_getD {bs:List (List Int)} {i:Nat} {b:List Int} (h:i<bs.length):(bs.set i b).getD i []=b:=by
 rw[List.getD_eq_getElem?_getD,List.getElem?_set_self h];rfl
theorem set_getD_ne {bs:List (List Int)} {i j:Nat} {b:List Int} (h:i≠j):(bs.set i b).getD j []=bs.getD j []:=by
 rw[List.getD_eq_getElem?_getD,List.getElem?_set_ne h,←List.getD_eq_getElem?_getD]
theorem set_same {bs:List (List Int)} {i:Nat} (h:i<bs.length):bs.set i (bs.getD i [])=bs:=by
 have e:bs.getD i []=bs[i]:=by rw[List.getD_eq_getElem?_getD,List.getElem?_eq_getElem h];rfl
 rw[e];exact List.set_getElem_self h
def idle (bs:List (List Int)) (c:Option Nat):Dsk:=⟨bs,[],[],false,c⟩
theorem idle_there {bs:List (List Int)} {c:Option Nat} {n:Nat} (h:n<bs.length):(idle bs c).there (n:Int):=⟨by omega,by show (n:Int)<(bs.length:Int);omega⟩
theorem idle_rd {bs:List (List Int)} {c:Option Nat} {n:Nat} (h:n<bs.length):(idle bs c).rd (n:Int)=(bs.getD n [],0):=by
 unfold Dsk.rd
 have:(idle bs c).down=false:=rfl
 rw[if_neg (by rw[this];decide),if_neg (fun h'=>h' (idle_there h))]
 rfl
theorem layB_all {bs:List (List Int)} {n:Nat} {b:List Int} (hb:Blk bs) (h:n<bs.length) (hl:b.length=256):layB bs ((n:Int),b) 256=bs.set n b:=by
 have:=(hb _ (List.mem_of_getElem? (getD_blk h))).1
 rw[layB]
 simp only[Int.toNat_natCast]
 rw[List.take_of_length_le (by omega),List.drop_of_length_le (by omega),List.append_nil]
theorem idle_lay {bs:List (List Int)} {c:Option Nat} {n:Nat} {b:List Int} (hb:Blk bs) (h:n<bs.length) (hl:b.length=256):(idle bs c).lay (n:Int) b=match c with
 |none=>(idle (bs.set n b) none,0)
 |some 0=>(⟨bs,[],[],true,some 0⟩,19)
 |some 1=>(⟨bs,[((n:Int),b)],[],true,some 0⟩,19)
 |some (k+2)=>(idle (bs.set n b) (some k),0):=by
 have hp:∀c:Option Nat,(idle bs c).put (n:Int) b=if (idle bs c).step.2=true then ({ (idle bs c).step.1 with waits:=[((n:Int),b)] },0) else ((idle bs c).step.1,19):=fun c=>by
  unfold Dsk.put
  have:(idle bs c).down=false:=rfl
  rw[if_neg (by rw[this];decide),if_neg (by rintro (h'|h');exact h' (idle_there h);exact h' hl),if_neg (by show ¬(n:Int)∈[];simp)]
  have:(idle bs c).step.1.waits=[]:=(step_same _).2.1
  rw[this];rfl
 have hs:∀c:Option Nat,(⟨bs,[((n:Int),b)],[],false,c⟩:Dsk).sync=if (⟨bs,[((n:Int),b)],[],false,c⟩:Dsk).step.2=true then ({ (⟨bs,[((n:Int),b)],[],false,c⟩:Dsk).step.1 with blocks:=bs.set n b,waits:=[] },0) else ((⟨bs,[((n:Int),b)],[],false,c⟩:Dsk).step.1,19):=fun c=>by
  unfold Dsk.sync
  simp only[List.foldl_cons,List.foldl_nil,layB_all hb h hl]
  rfl
 unfold Dsk.lay
 rw[hp]
 match c with
 |none=>
  have:=hs none
  simpa [Dsk.step,idle]using this
 |some 0=>simp[Dsk.step,idle]
 |some 1=>
  have:=hs (some 0)
  simpa [Dsk.step,idle]using this
 |some (k+2)=>
  have:=hs (some (k+1))
  simpa [Dsk.step,idle]using this
def fullB (g no:Int) (d:List Int):List Int:=markB (recB g no d) true
theorem crash_none {bs:List (List Int)} {c:Option Nat} {dn:Bool} (picks:List Int):((⟨bs,[],[],dn,c⟩:Dsk).crash picks)=idle bs none:=by
 unfold Dsk.crash;simp[idle]
theorem crash_one {bs:List (List Int)} {c:Option Nat} {dn:Bool} {x:Wr} (picks:List Int):∃k,k≤256∧(((⟨bs,[x],[],dn,c⟩:Dsk).crash picks)=idle bs none∨((⟨bs,[x],[],dn,c⟩:Dsk).crash picks)=idle (layB bs x k) none):=by
 match picks with
 |[]=>exact⟨0,by omega,.inl (by simp[Dsk.crash,idle])⟩
 |p::ps=>exact⟨(clampP p).toNat,by have:=clampP_le p;omega,.inr (by simp[Dsk.crash,idle])⟩
theorem take_drop_mark {b:List Int} {is:Bool} (h:b.length=256) {k:Nat} (hk:k≤256):(markB b is).take k++b.drop k=b∨(markB b is).take k++b.drop k=markB b is:=by
 by_cases hk2:k=256
 ·subst hk2
  refine .inr ?_
  rw[List.take_of_length_le (by rw[markB_len];omega),List.drop_of_length_le (by omega),List.append_nil]
 ·refine .inl ?_
  rw[markB,List.take_set_of_le (by omega),List.take_append_drop]
theorem mark_zero {b:List Int} (h:b.length=256):(markB b false).getD 255 0=0:=by
 rw[List.getD_eq_getElem?_getD,markB,List.getElem?_set_self (by omega)];rfl
theorem recB_zero {g no:Int} {d:List Int} (h:d.length≤234):(recB g no d).getD 255 0=0:=by
 have hb:=recBody_len g no h
 rw[recB,←List.append_assoc,List.getD_eq_getElem?_getD,List.getElem?_append_right (by rw[List.length_append,hb,sum4_len];omega),List.length_append,hb,sum4_len];rfl
theorem torn_zero {a b:List Int} (ha:a.length=256) (hb:b.length=256) (h1:a.getD 255 0=0) (h2:b.getD 255 0=0) {k:Nat} (hk:k≤256):(a.take k++b.drop k).getD 255 0=0∧(a.take k++b.drop k).length=256:=by
 refine⟨?_,by simp[ha,hb];omega⟩
 by_cases h:k=256
 ·subst h
  rw[List.take_of_length_le (by omega),List.drop_of_length_le (by omega),List.append_nil];exact h1
 ·have hl:(a.take k).length=k:=by rw[List.length_take];omega
  rw[List.getD_eq_getElem?_getD,List.getElem?_append_right (by omega),hl,List.getElem?_drop,show k+(255-k)=255 by omega,←List.getD_eq_getElem?_getD];exact h2
theorem ok_of {bs ws:List _} {c:Option Nat} {dn:Bool} (hb:Blk bs) (hf:bs.length≤256) (hw:∀x∈ws,(0≤x.1∧x.1<(bs.length:Int))∧x.2.length=256∧B8 x.2) (hl:ws.length≤1) (hc:∀k,c=some k→k<9223372036854775808):(⟨bs,ws,[],dn,c⟩:Dsk).Ok 1:=
 ⟨hf,hb,hw,hl,by show 0≤2^36;decide,hc⟩
theorem Blk.set {bs:List (List Int)} (h:Blk bs) {n:Nat} {b:List Int} (hl:b.length=256) (h8:B8 b):Blk (bs.set n b):=fun x hx=>by
 rcases List.mem_or_eq_of_mem_set hx with h'|rfl
 ·exact h x h'
 ·exact⟨hl,h8⟩
theorem crash_lay {bs:List (List Int)} {n:Nat} {b o:List Int} {g:Int} {c:Option Nat} (hn:n<bs.length) (ho:(bs.getD n [])=o) (P:List Int→Prop) (h0:P o) (h1:∀k,k≤256→P (b.take k++o.drop k)) (picks:List Int):
 ∃b',(⟨bs,[((n:Int),b)],[],true,c⟩:Dsk).crash picks=idle (bs.set n b') none∧P b':=by
 obtain⟨k,hk,h|h⟩:=crash_one (bs:=bs) (c:=c) (dn:=true) (x:=((n:Int),b)) picks
 ·exact⟨o,by rw[h,←ho,set_same hn],h0⟩
 ·exact⟨b.take k++o.drop k,by rw[h,layB];simp only[Int.toNat_natCast];rw[ho],h1 k hk⟩
theorem laid_stop (w:Dsk) (n:Int) (b:List Int):laid (w,19) n b=(w,19):=if_pos (show (19:Int)≠0 by decide)
end Go.Ideal.Seat
set_option linter.unusedVariables false
set_option linter.unusedSimpArgs false
set_option maxRecDepth 4000
namespace Go.Ideal.Seat
open Go.Ideal.Plain
section
variable {S X A E:Type}
theorem invLoop {l:List E} {F:S→Option (S⊕X)} (mk:A→Int→S) (inv:Nat→A→Prop) (Q:X→Prop) {a:A} (h0:inv 0 a)
 (h1:∀a i e,l[i]? = some e→i<l.length→inv i a→(∃a',F (mk a i)=some (.inl (mk a' ((i+1:Nat):Int)))∧inv (i+1) a')∨∃x,F (mk a i)=some (.inr x)∧Q x)
 (h2:∀a,inv l.length a→∃x,F (mk a l.length)=some (.inr x)∧Q x):∃x,iterL F (mk a 0)=some x∧Q x:=by
 have key:∀k a,k≤l.length→inv (l.length-k) a→∃x,iterL F (mk a ((l.length-k:Nat):Int))=some x∧Q x:=by
  intro k
  induction k with
  |zero=>intro a _ h;obtain⟨x,e,q⟩:=h2 a h;exact⟨x,by rw[Nat.sub_zero,iterL_inr e],q⟩
  |succ k ih=>
   intro a hk h
   have hlt:l.length-(k+1)<l.length:=by omega
   have hs:l.length-(k+1)+1=l.length-k:=by omega
   rcases h1 a _ _ (List.getElem?_eq_getElem hlt) hlt h with ⟨a',e,h'⟩|⟨x,e,q⟩
   ·rw[hs]at e h'
    obtain⟨x,e2,q⟩:=ih a' (by omega) h'
    exact⟨x,by rw[iterL_inl e,e2],q⟩
   ·exact⟨x,iterL_inr e,q⟩
 have:=key l.length a (Nat.le_refl _) (by simpa using h0)
 simpa using this
end
theorem newD_idle (n:Nat):newD n=idle (List.replicate n zB) none:=rfl
theorem rep_blk (n:Nat):Blk (List.replicate n zB):=fun b hb=>by rw[List.eq_of_mem_replicate hb];exact zB_ok
theorem rep_get {n i:Nat} (h:i<n):(List.replicate n zB).getD i []=zB:=by
 rw[List.getD_eq_getElem?_getD,List.getElem?_replicate,if_pos h];rfl
theorem bind_ex' {α β:Type} {o:Option α} {k:α→Option β} {r:β} {Q:α→Prop} (h:∃x,o=some x∧Q x) (hk:∀x,Q x→k x=some r):o.bind k=some r:=by
 obtain⟨x,e,q⟩:=h
 rw[e];exact hk x q
theorem b8_of {l:List Int} (h:∀x∈l,IntKind.min .u8≤x∧x≤IntKind.max .u8):B8 l:=fun x hx=>⟨(h x hx).1,Int.lt_of_le_of_lt (h x hx).2 (by decide)⟩
theorem i64_of {x:Int} (h:IntKind.min .i64≤x∧x≤IntKind.max .i64):-9223372036854775808≤x∧x<9223372036854775808:=⟨h.1,Int.lt_of_le_of_lt h.2 (by decide)⟩
end Go.Ideal.Seat
set_option linter.unusedVariables false
set_option linter.unusedSimpArgs false
set_option maxRecDepth 4000
namespace Go.Ideal.Seat
open Go.Ideal.Plain
theorem idle_ok {bs:List (List Int)} {c:Option Nat} (hb:Blk bs) (hf:bs.length≤256) (hc:∀k,c=some k→k<9223372036854775808):(idle bs c).Ok 1:=ok_of hb hf (fun x hx=>by cases hx) (by simp) hc
end Go.Ideal.Seat
set_option linter.unusedVariables false
set_option linter.unusedSimpArgs false
namespace Go.Ideal.Seat
open Go.Ideal.Plain
theorem bindS {α β:Type} {o:Option α} {k:α→Option β} {v:α} {r:Option β} (h:o=some v) (hk:k v=r):o.bind k=r:=by rw[h];exact hk
theorem bindE {α β γ:Type} {o:Option α} {k:α→Option β} {v:γ→α} {r:Option β} (h:∃j,o=some (v j)) (hk:∀j,k (v j)=r):o.bind k=r:=by
 obtain⟨j,e⟩:=h
 rw[e];exact hk j
abbrev Sl:=Unit×Int×Int
theorem slay_eq {w:Dsk} {m:Nat} (ok:w.Ok m) (hm:m<2^30) {p:Int} (fr n:Int) {b:List Int} (hb:B8 b):O_slots_Slots_lay (w.toD,(((),fr,n):Sl),p,b)=some ((w.lay p b).1.toD,((),fr,n),(w.lay p b).2):=by
 unfold O_slots_Slots_lay Dsk.lay
 simp only[put_eq ok (by omega),Option.bind_some]
 by_cases h:(w.put p b).2=0
 ·simp only[h,bne_self_eq_false,cond_false,ne_eq,not_true_eq_false,if_false,sync_eq (put_ok ok hb) (by omega),Option.bind_some]
 ·have:((w.put p b).2 != 0)=true:=by simpa using h
  simp only[this,cond_true,ne_eq,h,not_false_eq_true,if_true]
def partI (b:List Int) (i:Nat):List Int:=(b.drop (256*i)).take 256
def blkI (b:List Int) (i:Nat):List Int:=partI b i++List.replicate (256-(partI b i).length) 0
theorem partI_len (b:List Int) (i:Nat):(partI b i).length≤256:=by unfold partI;rw[List.length_take];omega
theorem blkI_len (b:List Int) (i:Nat):(blkI b i).length=256:=by
 have:=partI_len b i
 unfold blkI;rw[List.length_append,List.length_replicate];omega
theorem blkI_B8 {b:List Int} (hb:B8 b) (i:Nat):B8 (blkI b i):=((hb.drop _).take _).app (B8.rep _)
def putN (b:List Int) (p:Int):Nat→Dsk→Nat→Dsk×Int
 |0,w,_=>(w,0)
 |k+1,w,i=>if (w.put (p+1+i) (blkI b i)).2≠0 then w.put (p+1+i) (blkI b i) else putN b p k (w.put (p+1+i) (blkI b i)).1 (i+1)
theorem putN_ok {b:List Int} (hb:B8 b) (p:Int):∀(k:Nat) (w:Dsk) (i m:Nat),w.Ok m→(putN b p k w i).1.Ok (m+k)
 |0,w,i,m,ok=>ok
 |k+1,w,i,m,ok=>by
  have:=put_ok (n:=p+1+i) ok (blkI_B8 hb i)
  unfold putN
  split
  ·exact Ok.up this (by omega)
  ·exact Ok.up (putN_ok hb p k _ (i+1) (m+1) this) (by omega)
theorem putLoop {S X:Type} {F:S→Option (S⊕X)} {b:List Int} {p:Int} (K:Nat) (mk:Dsk→Nat→S) (bad:Dsk→Int→Nat→X) (good:Dsk→X) {m0:Nat} (hb:B8 b)
 (h1:∀i w,i<K→w.Ok (m0+i)→(w.put (p+1+i) (blkI b i)).2=0→F (mk w i)=some (.inl (mk (w.put (p+1+i) (blkI b i)).1 (i+1))))
 (h2:∀i w,i<K→w.Ok (m0+i)→(w.put (p+1+i) (blkI b i)).2≠0→iterL F (mk w i)=some (bad (w.put (p+1+i) (blkI b i)).1 (w.put (p+1+i) (blkI b i)).2 i))
 (h3:∀w,w.Ok (m0+K)→F (mk w K)=some (.inr (good w))):∀(k i:Nat) (w:Dsk),i+k=K→w.Ok (m0+i)→
 ∃j,iterL F (mk w i)=some (if (putN b p k w i).2≠0 then bad (putN b p k w i).1 (putN b p k w i).2 j else good (putN b p k w i).1):=by
 intro k
 induction k with
 |zero=>
  intro i w hi ok
  have:i=K:=by omega
  subst this
  exact⟨0,by rw[iterL_inr (h3 w ok)];rfl⟩
 |succ k ih=>
  intro i w hi ok
  unfold putN
  by_cases h:(w.put (p+1+i) (blkI b i)).2=0
  ·rw[iterL_inl (h1 i w (by omega) ok h),if_neg (fun h'=>h' h)]
   exact ih (i+1) _ (by omega) (put_ok ok (blkI_B8 hb i))
  ·refine⟨i,?_⟩
   rw[if_pos h,h2 i w (by omega) ok h,if_pos h]
theorem putLoop0 {S X:Type} {F:S→Option (S⊕X)} {b:List Int} {p:Int} (K:Nat) (mk:Dsk→Nat→S) (bad:Dsk→Int→Nat→X) (good:Dsk→X) {m0:Nat} (hb:B8 b) {w:Dsk} {s0:S} (h0:mk w 0=s0) (ok:w.Ok m0)
 (h1:∀i w,i<K→w.Ok (m0+i)→(w.put (p+1+i) (blkI b i)).2=0→F (mk w i)=some (.inl (mk (w.put (p+1+i) (blkI b i)).1 (i+1))))
 (h2:∀i w,i<K→w.Ok (m0+i)→(w.put (p+1+i) (blkI b i)).2≠0→iterL F (mk w i)=some (bad (w.put (p+1+i) (blkI b i)).1 (w.put (p+1+i) (blkI b i)).2 i))
 (h3:∀w,w.Ok (m0+K)→F (mk w K)=some (.inr (good w))):
 ∃j,iterL F s0=some (if (putN b p K w 0).2≠0 then bad (putN b p K w 0).1 (putN b p K w 0).2 j else good (putN b p K w 0).1):=by
 subst h0
 exact putLoop K mk bad good hb h1 h2 h3 K 0 w (by omega) ok
def parts (b:List Int):Nat:=(b.length+255)/256
def sTail (s:Dsk×Int) (b:List Int) (p:Int) (hd:List Int):Dsk×Int:=laid (laid (if s.2≠0 then s else putN b p (parts b) s.1 0) p hd) p (markB hd true)
def sWrite (w:Dsk) (fr n g:Int) (b:List Int):Dsk×Int:=
 if g<0 then (w,1) else if (b.length:Int)>(n-1)*256 then (w,22) else if recErr g b.length (sum4 b)≠0 then (w,recErr g b.length (sum4 b)) else
 if (w.rd (fr+g%2*n)).2≠0 then (w,(w.rd (fr+g%2*n)).2) else
 sTail (unmark w (fr+g%2*n) (w.rd (fr+g%2*n)).1) b (fr+g%2*n) (recB g b.length (sum4 b))
theorem sumsS_eq (b:List Int) (hb:B8 b) (hl:b.length<2^60):O_slots_sums b=some (sum4 b):=sums_eq b hb hl
theorem sTail_ok {s:Dsk×Int} {m:Nat} (ok:s.1.Ok m) {b:List Int} (hb:B8 b) (p:Int) {hd:List Int} (hh:B8 hd):(sTail s b p hd).1.Ok (m+parts b+2):=by
 unfold sTail
 refine laid_ok (laid_ok ?_ hh) (markB_B8 hh true)
 split
 ·exact Ok.up ok (by omega)
 ·exact putN_ok hb p _ _ _ _ ok
theorem sWrite_ok {w:Dsk} {m:Nat} (ok:w.Ok m) (fr n g:Int) {b:List Int} (hb:B8 b):(sWrite w fr n g b).1.Ok (m+parts b+3):=by
 unfold sWrite
 split
 ·exact Ok.up ok (by omega)
 ·split
  ·exact Ok.up ok (by omega)
  ·split
   ·exact Ok.up ok (by omega)
   ·rename_i h
    split
    ·exact Ok.up ok (by omega)
    ·rename_i h2
     have he:=recErr_zero.1 (Classical.not_not.1 h)
     exact Ok.up (sTail_ok (unmark_ok ok (rd_good ok (Classical.not_not.1 h2)).2) hb _ (recB_B8 g _ he.2.2.2.2 (sum4_B8 b))) (by omega)
theorem blk_prog {p:List Int} (h:p.length≤256):zB.take 0++p.take (min p.length zB.length)++zB.drop (0+min p.length zB.length)=p++List.replicate (256-p.length) 0:=by
 have:zB.length=256:=zB_ok.1
 rw[this,Nat.min_eq_left h,Nat.zero_add,List.take_zero,List.nil_append,List.take_length]
 congr 1
 exact List.drop_replicate
theorem part_facts {b:List Int} {i:Nat} (hl:b.length<32768) (h:256*i<b.length):
 IntKind.wrap .i64 ((b.length:Int)-256*(i:Int))=(b.length:Int)-256*(i:Int)∧(if (b.length:Int)-256*(i:Int)<256 then (b.length:Int)-256*(i:Int) else 256)=((partI b i).length:Int)∧
 IntKind.wrap .i64 (256*(i:Int)+((partI b i).length:Int))=((256*i+(partI b i).length:Nat):Int)∧(256*(i:Int)).toNat=256*i∧256*i+(partI b i).length≤b.length∧
 (b.drop (256*i)).take (256*i+(partI b i).length-256*i)=partI b i∧IntKind.wrap .i64 (256*(i:Int)+256)=256*((i+1:Nat):Int):=by
 have hp:(partI b i).length=min 256 (b.length-256*i):=by unfold partI;rw[List.length_take,List.length_drop]
 refine⟨w64 (by omega) (by omega),?_,?_,by omega,by omega,?_,?_⟩
 ·rw[hp];split<;>omega
 ·rw[w64 (by omega) (by omega)];omega
 ·rw[show 256*i+(partI b i).length-256*i=(partI b i).length by omega,hp]
  unfold partI
  by_cases h':b.length-256*i≤256
  ·rw[Nat.min_eq_right h',List.take_of_length_le (by simp),List.take_of_length_le (by simp;omega)]
  ·rw[Nat.min_eq_left (by omega)]
 ·rw[w64 (by omega) (by omega)];omega
theorem tm2 {g:Int} (h:0≤g):Int.tmod g 2=g%2:=Int.tmod_eq_emod_of_nonneg h
theorem at_in {fr n g:Int} (h1:0≤fr) (h2:fr≤256) (h3:2≤n) (h4:n≤128) (hg:0≤g):g%2*n=(if g%2=0 then 0 else n)∧IntKind.wrap .i64 (g%2*n)=g%2*n∧IntKind.wrap .i64 (fr+g%2*n)=fr+g%2*n∧0≤fr+g%2*n∧fr+g%2*n≤384:=by
 have:g%2*n=(if g%2=0 then 0 else n):=by
  rcases Int.emod_two_eq g with h|h<;>rw[h]<;>simp
 refine⟨this,w64 ?_ ?_,w64 ?_ ?_,?_,?_⟩<;>rw[this]<;>split<;>omega
theorem parts_lt {b:List Int} {i:Nat}:i<parts b↔256*i<b.length:=by unfold parts;omega
end Go.Ideal.Seat
set_option linter.unusedVariables false
set_option linter.unusedSimpArgs false
namespace Go.Ideal.Seat
open Go.Ideal.Plain
theorem sWrite_eq {w:Dsk} {m:Nat} (ok:w.Ok m) (hm:m≤2^29) {fr n g:Int} {b:List Int} (hb:B8 b) (h1:0≤fr) (h2:fr≤256) (h3:2≤n) (h4:n≤128):
 O_slots_Slots_Write (w.toD,(((),fr,n):Sl),g,b)=some ((sWrite w fr n g b).1.toD,((),fr,n),(sWrite w fr n g b).2):=by
 unfold O_slots_Slots_Write sWrite
 by_cases a:g<0
 ·simp only[a,decide_true,cond_true,if_true]
 obtain⟨q1,q2,q3,q4,q5⟩:=at_in h1 h2 h3 h4 (show 0≤g by omega)
 have w1:IntKind.wrap .i64 ((IntKind.wrap .i64 (n-1))*256)=(n-1)*256:=by rw[w64 (x:=n-1) (by omega) (by omega),w64 (by omega) (by omega)]
 simp only[a,decide_false,cond_false,if_false,O_slots_Slots_Room,Option.bind_some,w1]
 by_cases c:(b.length:Int)>(n-1)*256
 ·simp only[c,decide_true,cond_true,if_true]
 have hl:b.length<32768:=by omega
 simp only[c,decide_false,cond_false,if_false,sumsS_eq b hb (by omega),Option.bind_some,make_eq g _ _ (sum4_B8 b) (show (sum4 b).length≤2^36 by rw[sum4_len];omega)]
 by_cases e:recErr g (b.length:Int) (sum4 b)=0
 rotate_left
 ·have:(recErr g (b.length:Int) (sum4 b) != 0)=true:=by simpa using e
  simp only[this,cond_true,ne_eq,e,not_false_eq_true,if_true]
 simp only[e,bne_self_eq_false,cond_false,ne_eq,not_true_eq_false,if_false,if_true,tm2 (show 0≤g by omega),q2,q3,rd_eq ok (show m≤2^30 by omega),Option.bind_some]
 generalize hp:fr+g%2*n=p at *
 by_cases r:(w.rd p).2=0
 rotate_left
 ·have:((w.rd p).2 != 0)=true:=by simpa using r
  simp only[this,cond_true,r,not_false_eq_true,if_true]
 obtain⟨rl,r8⟩:=rd_good ok r
 have he:=recErr_zero.1 e
 have hB:=recB_B8 g (b.length:Int) he.2.2.2.2 (sum4_B8 b)
 have hL:=recB_len g (b.length:Int) he.2.2.2.2
 generalize hh:recB g (b.length:Int) (sum4 b)=hd at *
 have g255:(w.rd p).1[255]? = some ((w.rd p).1.getD 255 0):=getD_some (by omega)
 have w2:IntKind.wrap .i64 (((256:Nat):Int)-1)=((255:Nat):Int):=by decide
 simp only[r,bne_self_eq_false,cond_false,not_true_eq_false,if_false,rl,w2,Int.natCast_nonneg,Int.toNat_natCast,decide_true,cond_true,show (255<256) from by decide,g255,Option.bind_some]
 have okU:=unmark_ok ok (n:=p) r8
 refine bindS (v:=if (unmark w p (w.rd p).1).2≠0 then .inl ((unmark w p (w.rd p).1).1.toD,(),fr,n,(unmark w p (w.rd p).1).2) else .inr ((unmark w p (w.rd p).1).1.toD,(),fr,n,0,hd)) ?_ ?_
 ·by_cases z:(w.rd p).1.getD 255 0=0
  ·have eu:unmark w p (w.rd p).1=(w,0):=by unfold unmark;rw[if_neg (fun h=>h z)]
   simp only[z,bne_self_eq_false,cond_false,eu,ne_eq,not_true_eq_false,if_false]
  ·have:((w.rd p).1.getD 255 0 != 0)=true:=by simpa using z
   have eu:unmark w p (w.rd p).1=w.lay p (markB (w.rd p).1 false):=by unfold unmark;rw[if_pos z]
   simp only[this,cond_true,marked_eq _ false rl,Option.bind_some,slay_eq ok (by omega) fr n (markB_B8 r8 false),eu]
   by_cases h:(w.lay p (markB (w.rd p).1 false)).2=0
   ·simp only[h,bne_self_eq_false,cond_false,ne_eq,not_true_eq_false,if_false]
   ·have h':((w.lay p (markB (w.rd p).1 false)).2 != 0)=true:=by simpa using h
    simp only[h',cond_true,ne_eq,h,not_false_eq_true,if_true]
 generalize unmark w p (w.rd p).1=s at *
 by_cases u:s.2=0
 rotate_left
 ·have e1:sTail s b p hd=s:=by unfold sTail laid;simp only[ne_eq,u,not_false_eq_true,if_true]
  rw[if_pos u,e1]
 have e1:sTail s b p hd=laid (laid (putN b p (parts b) s.1 0) p hd) p (markB hd true):=by unfold sTail;rw[if_neg (fun h=>h u)]
 rw[if_neg (fun h=>h u),e1]
 have hlt:((b.length:Int)<32768):=by omega
 simp only[hlt,decide_true,cond_true]
 have hz:List.replicate (Int.toNat 256) (0:Int)=zB:=rfl
 have hm256:decide ((0:Nat)≤256∧(256:Int)*((1+1:Nat):Int)≤most)=true:=by unfold most;decide
 refine bindE (putLoop0 (b:=b) (p:=p) (m0:=m+1) (parts b) (fun w i=>(w.toD,(),fr,n,0,p+i,256*(i:Int))) (fun w c _=>Sum.inl (w.toD,(),fr,n,c)) (fun w=>Sum.inr (w.toD,(),fr,n,0)) hb (by simp) okU ?_ ?_ ?_) ?_
 ·intro i w' hi ok' h
  have hi':=parts_lt.1 hi
  obtain⟨f1,f2,f3,f4,f5,f6,f7⟩:=part_facts hl hi'
  have c1:256*(i:Int)<(b.length:Int):=by omega
  have c2:(0:Int)≤256*(i:Int):=by omega
  have c3:256*i≤256*i+(partI b i).length:=Nat.le_add_right _ _
  have w3:IntKind.wrap .i64 (p+(i:Int)+1)=p+1+(i:Int):=by rw[w64 (by omega) (by omega)];omega
  have w4:p+1+(i:Int)=p+((i+1:Nat):Int):=by omega
  simp only[c1,c2,decide_true,cond_true,f1,f2,f3,f4,f5,f6,c3,Int.natCast_nonneg,Int.toNat_natCast,Nat.le_refl,and_self,hm256,hz,blk_prog (partI_len b i),w3,f7]
  have hblk:partI b i++List.replicate (256-(partI b i).length) 0=blkI b i:=rfl
  simp only[hblk,put_eq ok' (show m+1+i≤2^30 by omega),Option.bind_some,h,bne_self_eq_false,cond_false,←w4]
 ·intro i w' hi ok' h
  have hi':=parts_lt.1 hi
  obtain⟨f1,f2,f3,f4,f5,f6,f7⟩:=part_facts hl hi'
  have c1:256*(i:Int)<(b.length:Int):=by omega
  have c2:(0:Int)≤256*(i:Int):=by omega
  have c3:256*i≤256*i+(partI b i).length:=Nat.le_add_right _ _
  have w3:IntKind.wrap .i64 (p+(i:Int)+1)=p+1+(i:Int):=by rw[w64 (by omega) (by omega)];omega
  have h':((w'.put (p+1+(i:Int)) (blkI b i)).2 != 0)=true:=by simpa using h
  have hblk:partI b i++List.replicate (256-(partI b i).length) 0=blkI b i:=rfl
  refine iterL_inr ?_
  simp only[c1,c2,decide_true,cond_true,f1,f2,f3,f4,f5,f6,c3,Int.natCast_nonneg,Int.toNat_natCast,Nat.le_refl,and_self,hm256,hz,blk_prog (partI_len b i),w3,f7]
  simp only[hblk,put_eq ok' (show m+1+i≤2^30 by omega),Option.bind_some,h',cond_true]
 ·intro w' ok'
  have c1:¬(256*(parts b:Int)<(b.length:Int)):=by
   have:¬256*parts b<b.length:=fun h=>Nat.lt_irrefl _ (parts_lt.2 h)
   omega
  simp only[c1,decide_false,cond_false]
 ·intro j
  have okP:=putN_ok hb p (parts b) _ 0 _ okU
  have hpl:parts b≤128:=by unfold parts;omega
  by_cases v:(putN b p (parts b) s.1 0).2=0
  ·rw[if_neg (fun h=>h v)]
   have e2:laid (putN b p (parts b) s.1 0) p hd=(putN b p (parts b) s.1 0).1.lay p hd:=by unfold laid;rw[if_neg (fun h=>h v)]
   rw[e2]
   simp only[slay_eq okP (show m+1+parts b<2^30 by omega) fr n hB,Option.bind_some]
   by_cases y:((putN b p (parts b) s.1 0).1.lay p hd).2=0
   ·have e3:laid ((putN b p (parts b) s.1 0).1.lay p hd) p (markB hd true)=((putN b p (parts b) s.1 0).1.lay p hd).1.lay p (markB hd true):=by unfold laid;rw[if_neg (fun h=>h y)]
    rw[e3]
    simp only[y,bne_self_eq_false,cond_false,marked_eq _ true hL,Option.bind_some,slay_eq (lay_ok okP hB) (show m+1+parts b+1<2^30 by omega) fr n (markB_B8 hB true)]
   ·have y':(((putN b p (parts b) s.1 0).1.lay p hd).2 != 0)=true:=by simpa using y
    have e3:laid ((putN b p (parts b) s.1 0).1.lay p hd) p (markB hd true)=((putN b p (parts b) s.1 0).1.lay p hd):=by unfold laid;rw[if_pos y]
    rw[e3]
    simp only[y',cond_true]
  ·rw[if_pos v]
   have e2:laid (laid (putN b p (parts b) s.1 0) p hd) p (markB hd true)=putN b p (parts b) s.1 0:=by unfold laid;simp only[ne_eq,v,not_false_eq_true,if_true]
   rw[e2]
end Go.Ideal.Seat
set_option linter.unusedVariables false
set_option linter.unusedSimpArgs false
namespace Go.Ideal.Seat
open Go.Ideal.Plain
end Go.Ideal.Seat
set_option linter.unusedVariables false
set_option linter.unusedSimpArgs false
namespace Go.Ideal.Seat
open Go.Ideal.Plain
theorem recR_pos {b:List Int} (hb:B8 b):0≤(recR b).1.1∧0≤(recR b).1.2.1∧(recR b).1.2.2.length≤256∧B8 (recR b).1.2.2:=by
 classical
 have z:(0:Int)≤((0,0,[]):Rec).1∧(0:Int)≤((0,0,[]):Rec).2.1∧((0,0,[]):Rec).2.2.length≤256∧B8 ((0,0,[]):Rec).2.2:=⟨by decide,by decide,by decide,fun x hx=>by cases hx⟩
 unfold recR
 split
 ·exact z
 ·rename_i h
  split
  ·exact z
  ·split
   ·exact z
   ·split
    ·exact z
    ·split
     ·exact z
     ·exact⟨(beN_lt _ (hb.take 8)).1,(beN_lt _ ((hb.drop 8).take 8)).1,by simp;omega,(hb.drop _).take _⟩
abbrev Hd:=Rec×Bool×Int
def noHd (e:Int):Hd:=((0,0,[]),false,e)
noncomputable def sHead (w:Dsk) (fr n pl:Int):Hd:=
 if (w.rd (fr+pl*n)).2≠0 then noHd (w.rd (fr+pl*n)).2 else if (recR (w.rd (fr+pl*n)).1).2=21 then noHd 21
 else if (recR (w.rd (fr+pl*n)).1).2≠0∨Int.tmod (recR (w.rd (fr+pl*n)).1).1.1 2≠pl∨(recR (w.rd (fr+pl*n)).1).1.2.1>(n-1)*256 then noHd 0
 else ((recR (w.rd (fr+pl*n)).1).1,true,0)
theorem sHead_good {w:Dsk} {m:Nat} (ok:w.Ok m) {fr n pl:Int} (h:(sHead w fr n pl).2.1=true):(w.rd (fr+pl*n)).2=0∧(sHead w fr n pl).2.2=0∧Int.tmod (sHead w fr n pl).1.1 2=pl∧0≤(sHead w fr n pl).1.1∧0≤(sHead w fr n pl).1.2.1∧(sHead w fr n pl).1.2.1≤(n-1)*256∧(sHead w fr n pl).1.2.2.length≤256:=by
 unfold sHead at h ⊢
 by_cases a:(w.rd (fr+pl*n)).2=0
 rotate_left
 ·rw[if_pos a]at h;cases h
 rw[if_neg (fun h=>h a)]at h ⊢
 obtain⟨rl,r8⟩:=rd_good ok a
 obtain⟨p1,p2,p3,_⟩:=recR_pos r8
 split at h
 ·cases h
 ·split at h
  ·cases h
  ·rename_i b c
   rw[if_neg b,if_neg c]
   exact⟨a,rfl,Classical.not_not.1 fun h=>c (.inr (.inl h)),p1,p2,by show _≤_;exact Int.not_lt.1 fun h=>c (.inr (.inr h)),p3⟩
theorem pl_in {fr n pl:Int} (h1:0≤fr) (h2:fr≤256) (h3:2≤n) (h4:n≤128) (hp:pl=0∨pl=1):IntKind.wrap .i64 (pl*n)=pl*n∧IntKind.wrap .i64 (fr+pl*n)=fr+pl*n∧0≤fr+pl*n∧fr+pl*n≤fr+n:=by
 rcases hp with rfl|rfl
 ·refine⟨w64 ?_ ?_,w64 ?_ ?_,?_,?_⟩<;>omega
 ·refine⟨w64 ?_ ?_,w64 ?_ ?_,?_,?_⟩<;>omega
theorem sHead_eq {w:Dsk} {m:Nat} (ok:w.Ok m) (hm:m≤2^30) {fr n pl:Int} (h1:0≤fr) (h2:fr≤256) (h3:2≤n) (h4:n≤128) (hp:pl=0∨pl=1):
 O_slots_Slots_head (w.toD,(((),fr,n):Sl),pl)=some (w.toD,((),fr,n),sHead w fr n pl):=by
 unfold O_slots_Slots_head sHead
 obtain⟨p1,p2,p3,p4⟩:=pl_in h1 h2 h3 h4 hp
 have w1:IntKind.wrap .i64 ((IntKind.wrap .i64 (n-1))*256)=(n-1)*256:=by rw[w64 (x:=n-1) (by omega) (by omega),w64 (by omega) (by omega)]
 simp only[p1,p2,rd_eq ok hm,Option.bind_some]
 generalize hq:fr+pl*n=q at *
 by_cases a:(w.rd q).2=0
 rotate_left
 ·have:((w.rd q).2 != 0)=true:=by simpa using a
  simp only[this,cond_true,ne_eq,a,not_false_eq_true,if_true,noHd]
 obtain⟨rl,r8⟩:=rd_good ok a
 have hr:=recRead_eq _ r8 (by omega)
 simp only[a,bne_self_eq_false,cond_false,hr,Option.bind_some,ne_eq,not_true_eq_false,if_false]
 generalize recR (w.rd q).1=x at *
 by_cases b:x.2=21
 ·simp only[b,beq_self_eq_true,cond_true,if_true,noHd]
 have b':(x.2==21)=false:=by simpa using b
 simp only[b',cond_false,b,if_false,O_slots_Slots_Room,w1,Option.bind_some]
 refine bindS (v:=(w.toD,(),fr,n,decide (x.2≠0∨Int.tmod x.1.1 2≠pl∨x.1.2.1>(n-1)*256))) ?_ ?_
 ·by_cases c:x.2=0
  ·by_cases d:Int.tmod x.1.1 2=pl
   ·simp[c,d]
   ·have d':(Int.tmod x.1.1 2 != pl)=true:=by simpa using d
    simp[c,d,d']
  ·have c':(x.2 != 0)=true:=by simpa using c
   simp[c,c']
 ·by_cases c:x.2≠0∨Int.tmod x.1.1 2≠pl∨x.1.2.1>(n-1)*256
  ·simp only[c,decide_true,cond_true]
   rw[if_pos (by simp)];rfl
  ·simp only[c,decide_false,cond_false]
   rw[if_neg (by simp)]
def allB (w:Dsk) (p:Int):Nat→List Int
 |0=>[]
 |k+1=>allB w p k++(w.rd (p+1+k)).1
def Reads (w:Dsk) (p:Int) (k:Nat):Prop:=∀i:Nat,i<k→(w.rd (p+1+i)).2=0
theorem allB_len {w:Dsk} {m:Nat} (ok:w.Ok m) {p:Int}:∀{k:Nat},Reads w p k→(allB w p k).length=256*k∧B8 (allB w p k)
 |0,_=>⟨rfl,fun x hx=>by cases hx⟩
 |k+1,h=>by
  obtain⟨i1,i2⟩:=allB_len ok (k:=k) (fun i hi=>h i (by omega))
  obtain⟨r1,r2⟩:=rd_good ok (h k (by omega))
  exact⟨by rw[allB,List.length_append,i1,r1];omega,i2.app r2⟩
theorem allB_take {w:Dsk} {m:Nat} (ok:w.Ok m) {p:Int} {k:Nat}:∀{j:Nat},Reads w p (k+j)→∀n,n≤256*k→(allB w p (k+j)).take n=(allB w p k).take n
 |0,_,n,_=>rfl
 |j+1,h,n,hn=>by
  have ih:=allB_take ok (k:=k) (j:=j) (fun i hi=>h i (by omega)) n hn
  have hl:=(allB_len ok (k:=k+j) (fun i hi=>h i (by omega))).1
  rw[←ih,show k+(j+1)=(k+j)+1 by omega,allB,List.take_append_of_le_length (by omega)]
noncomputable def sText (w:Dsk) (fr n:Int) (x:Rec):List Int×Int:=
 if x.2.2=sum4 ((allB w (fr+Int.tmod x.1 2*n) (n.toNat-1)).take x.2.1.toNat) then ((allB w (fr+Int.tmod x.1 2*n) (n.toNat-1)).take x.2.1.toNat,0) else ([],21)
theorem sText_eq {w:Dsk} {m:Nat} (ok:w.Ok m) (hm:m≤2^30) {fr n:Int} {x:Rec} (h1:0≤fr) (h2:fr≤256) (h3:2≤n) (h4:n≤128) (hp:Int.tmod x.1 2=0∨Int.tmod x.1 2=1)
 (hx:0≤x.2.1∧x.2.1≤(n-1)*256) (hd:x.2.2.length≤256) (hr:Reads w (fr+Int.tmod x.1 2*n) (n.toNat-1)):O_slots_Slots_text (w.toD,(((),fr,n):Sl),x)=some (w.toD,((),fr,n),sText w fr n x):=by
 unfold O_slots_Slots_text sText
 obtain⟨p1,p2,p3,p4⟩:=pl_in h1 h2 h3 h4 hp
 simp only[p1,p2]
 generalize hq:fr+Int.tmod x.1 2*n=q at *
 have w1:IntKind.wrap .i64 (q+1)=q+1:=w64 (by omega) (by omega)
 obtain⟨L,hL⟩:=Int.eq_ofNat_of_zero_le hx.1
 have hK:(L+255)/256≤n.toNat-1:=by omega
 generalize hKK:(L+255)/256=K at *
 rw[w1]
 have key:∀(k i:Nat),i+k=K→∀F:(DkT×Unit×Int×Int×List Int×Int)→Option ((DkT×Unit×Int×Int×List Int×Int)⊕((DkT×Unit×Int×Int×List Int×Int)⊕(DkT×Unit×Int×Int×List Int×Int×Bool))),
  (∀j:Nat,j<K→F (w.toD,(),fr,n,allB w q j,q+1+j)=some (.inl (w.toD,(),fr,n,allB w q (j+1),q+1+((j+1:Nat):Int))))→
  F (w.toD,(),fr,n,allB w q K,q+1+K)=some (.inr (.inr (w.toD,(),fr,n,allB w q K,q+1+K,false)))→
  ∀s0,s0=(w.toD,(),fr,n,allB w q i,q+1+(i:Int))→iterL F s0=some (.inr (w.toD,(),fr,n,allB w q K,q+1+K,false)):=by
  intro k
  induction k with
  |zero=>
   intro i hi F _ h2 s0 hs
   subst hs
   have:i=K:=by omega
   subst this
   exact iterL_inr h2
  |succ k ih=>
   intro i hi F h1 h2 s0 hs
   subst hs
   rw[iterL_inl (h1 i (by omega))]
   exact ih (i+1) (by omega) F h1 h2 _ rfl
 have hall:=fun(j:Nat) (hj:j≤K)=>allB_len ok (p:=q) (k:=j) (fun i hi=>hr i (by omega))
 refine bindS (v:=.inr (w.toD,(),fr,n,allB w q K,q+1+K,false)) ?_ ?_
 ·refine key K 0 (by omega) _ ?_ ?_ _ (by simp[allB])
  ·intro j hj
   have hl:=(hall j (by omega)).1
   have c1:(((allB w q j).length:Nat):Int)<x.2.1:=by rw[hl,hL];omega
   have hrd:=hr j (by omega)
   obtain⟨r1,_⟩:=rd_good ok hrd
   have m1:(((allB w q j).length+(w.rd (q+1+j)).1.length)*(1+1)≤most):=by unfold most;rw[hl,r1];omega
   have w2:IntKind.wrap .i64 (q+1+(j:Int)+1)=q+1+((j+1:Nat):Int):=by rw[w64 (by omega) (by omega)];omega
   simp only[c1,decide_true,cond_true,rd_eq ok hm,Option.bind_some,hrd,bne_self_eq_false,cond_false,m1,w2]
   rfl
  ·have hl:=(hall K (Nat.le_refl _)).1
   have c1:¬((((allB w q K).length:Nat):Int)<x.2.1):=by rw[hl,hL];omega
   simp only[c1,decide_false,cond_false]
 ·obtain⟨hl,h8⟩:=hall K (Nat.le_refl _)
  have c1:(0≤x.2.1.toNat∧x.2.1.toNat≤(allB w q K).length):=by rw[hl,hL];simp;omega
  have et:(allB w q K).take x.2.1.toNat=(allB w q (n.toNat-1)).take x.2.1.toNat:=by
   have:=allB_take ok (w:=w) (p:=q) (k:=K) (j:=n.toNat-1-K) (by rw[show K+(n.toNat-1-K)=n.toNat-1 by omega];exact hr) x.2.1.toNat (by rw[hL];simp;omega)
   rw[show K+(n.toNat-1-K)=n.toNat-1 by omega]at this
   exact this.symm
  have hs:=sumsS_eq ((allB w q K).take x.2.1.toNat) (h8.take _) (by rw[List.length_take,hl];omega)
  simp only[hx.1,c1,decide_true,cond_true,List.drop_zero,Nat.sub_zero,hs,Option.bind_some,bequal _ _ (show x.2.2.length<2^60 by omega),and_self]
  rw[et]
  by_cases d:x.2.2=sum4 ((allB w q (n.toNat-1)).take x.2.1.toNat)
  ·rw[if_pos d]
   simp only[d.symm,decide_true,Bool.not_true,cond_false]
  ·rw[if_neg d]
   simp only[d,decide_false,Bool.not_false,cond_true]
noncomputable def sRead (w:Dsk) (fr n:Int):Int×List Int×Int:=
 if (sHead w fr n 0).2.2≠0 then (0,[],(sHead w fr n 0).2.2) else if (sHead w fr n 1).2.2≠0 then (0,[],(sHead w fr n 1).2.2)
 else if (sHead w fr n 0).2.1=false∧(sHead w fr n 1).2.1=false then (0,[],3)
 else
  let x:=if (sHead w fr n 0).2.1=false∨((sHead w fr n 1).2.1=true∧(sHead w fr n 1).1.1>(sHead w fr n 0).1.1) then (sHead w fr n 1).1 else (sHead w fr n 0).1
  if (sText w fr n x).2≠0 then (0,[],(sText w fr n x).2) else (x.1,(sText w fr n x).1,0)
theorem rd_more {w:Dsk} {p q:Int} (h:(w.rd p).2=0) (h1:0≤q) (h2:q<w.blocks.length):(w.rd q).2=0:=by
 have hd:w.down=false:=by
  cases hd:w.down with
  |false=>rfl
  |true=>rw[Dsk.rd,if_pos hd]at h;cases h
 rw[Dsk.rd,if_neg (by rw[hd];decide),if_neg (fun h=>h ⟨h1,h2⟩)]
theorem reads_of {w:Dsk} {p q n:Int} (h:(w.rd p).2=0) (h1:0≤q) (h2:q+n≤w.blocks.length) (hn:2≤n):Reads w q (n.toNat-1):=fun i hi=>rd_more h (by omega) (by omega)
theorem sRead_eq {w:Dsk} {m:Nat} (ok:w.Ok m) (hm:m≤2^30) {fr n:Int} (h1:0≤fr) (h3:2≤n) (hb:fr+2*n≤w.blocks.length):
 O_slots_Slots_Read (w.toD,(((),fr,n):Sl))=some (w.toD,((),fr,n),sRead w fr n):=by
 have hfew:=ok.few
 have h2:fr≤256:=by omega
 have h4:n≤128:=by omega
 unfold O_slots_Slots_Read sRead
 simp only[sHead_eq ok hm h1 h2 h3 h4 (.inl rfl),sHead_eq ok hm h1 h2 h3 h4 (.inr rfl),Option.bind_some]
 have g0:=fun h=>sHead_good ok (fr:=fr) (n:=n) (pl:=0) h
 have g1:=fun h=>sHead_good ok (fr:=fr) (n:=n) (pl:=1) h
 generalize sHead w fr n 0=a at *
 generalize sHead w fr n 1=b at *
 by_cases e:a.2.2=0
 rotate_left
 ·have:(a.2.2 != 0)=true:=by simpa using e
  simp only[this,cond_true,ne_eq,e,not_false_eq_true,if_true,Option.bind_some]
 by_cases f:b.2.2=0
 rotate_left
 ·have:(b.2.2 != 0)=true:=by simpa using f
  simp only[e,bne_self_eq_false,cond_false,not_true_eq_false,if_false,this,cond_true,ne_eq,f,not_false_eq_true,if_true,Option.bind_some]
 have tx:∀x:Rec,(x=a.1∧a.2.1=true)∨(x=b.1∧b.2.1=true)→O_slots_Slots_text (w.toD,(((),fr,n):Sl),x)=some (w.toD,((),fr,n),sText w fr n x):=by
  rintro x (⟨rfl,h⟩|⟨rfl,h⟩)
  ·obtain⟨q1,q2,q3,q4,q5,q6,q7⟩:=g0 h
   refine sText_eq ok hm h1 h2 h3 h4 (.inl q3) ⟨q5,q6⟩ q7 (reads_of q1 ?_ ?_ h3)<;>rw[q3]<;>omega
  ·obtain⟨q1,q2,q3,q4,q5,q6,q7⟩:=g1 h
   refine sText_eq ok hm h1 h2 h3 h4 (.inr q3) ⟨q5,q6⟩ q7 (reads_of q1 ?_ ?_ h3)<;>rw[q3]<;>omega
 have fin:∀x:Rec,(x=a.1∧a.2.1=true)∨(x=b.1∧b.2.1=true)→((O_slots_Slots_text (w.toD,(((),fr,n):Sl),x)).bind fun r45=>(bif (r45.2.2.2 != 0) then (some (r45.1,(((),r45.2.1.2),(0,(([]:List (Int)),r45.2.2.2))))) else (some (r45.1,(((),r45.2.1.2),(x.1,(r45.2.2.1,0)))))))=some (w.toD,((),fr,n),if (sText w fr n x).2≠0 then (0,[],(sText w fr n x).2) else (x.1,(sText w fr n x).1,0)):=by
  intro x hx
  simp only[tx x hx,Option.bind_some]
  by_cases g:(sText w fr n x).2=0
  ·simp only[g,bne_self_eq_false,cond_false,ne_eq,not_true_eq_false,if_false]
  ·have:((sText w fr n x).2 != 0)=true:=by simpa using g
   simp only[this,cond_true,ne_eq,g,not_false_eq_true,if_true]
 simp only[e,f,bne_self_eq_false,cond_false,ne_eq,not_true_eq_false,if_false]
 obtain⟨ax,ai,ae⟩:=a
 obtain⟨bx,bi,be⟩:=b
 dsimp only at fin e f ⊢
 cases ai<;>cases bi
 ·simp
 ·have:=fin bx (.inr ⟨rfl,rfl⟩)
  simpa using this
 ·have:=fin ax (.inl ⟨rfl,rfl⟩)
  simpa using this
 ·by_cases c:bx.1>ax.1
  ·have:=fin bx (.inr ⟨rfl,rfl⟩)
   simpa [c]using this
  ·have:=fin ax (.inl ⟨rfl,rfl⟩)
   simpa [c]using this
end Go.Ideal.Seat
set_option linter.unusedVariables false
set_option linter.unusedSimpArgs false
namespace Go.Ideal.Seat
open Go.Ideal.Plain
end Go.Ideal.Seat
set_option linter.unusedVariables false
set_option linter.unusedSimpArgs false
namespace Go.Ideal.Seat
open Go.Ideal.Plain
def Low (g:Int) (b:List Int):Prop:=(recR b).2≠21∧((recR b).2≠0∨(recR b).1.1<g)
theorem low_zero {g:Int} {b:List Int} (h:b.length=256) (hz:b.getD 255 0=0):Low g b:=by
 have:recR b=((0,0,[]),3):=by
  classical
  unfold recR
  rw[if_neg (fun h'=>h' h),if_pos hz]
 unfold Low;rw[this];exact⟨by show (3:Int)≠21;decide,.inl (by show (3:Int)≠0;decide)⟩
theorem low_made {g h n:Int} {d:List Int} (he:recErr g n d=0) (hd:B8 d) (hg:g<h):Low h (fullB g n d):=by
 unfold Low fullB;rw[recR_made he hd];exact⟨(by show (0:Int)≠21;decide),.inr hg⟩
def CLe:Option Nat→Option Nat→Prop
 |none,none=>True
 |some k,some j=>k≤j
 |_,_=>False
theorem CLe.refl:∀c,CLe c c
 |none=>trivial
 |some k=>Nat.le_refl k
theorem CLe.trans:∀{a b c:Option Nat},CLe a b→CLe b c→CLe a c
 |none,none,none,_,_=>trivial
 |some _,some _,some _,h,h'=>Nat.le_trans (show _≤_ from h) (show _≤_ from h')
 |none,some _,_,h,_=>h.elim
 |some _,none,_,h,_=>h.elim
 |none,none,some _,_,h=>h.elim
 |some _,some _,none,_,h=>h.elim
theorem put_at {bs:List (List Int)} {ws:List Wr} {c:Option Nat} {n:Nat} {b:List Int} (h:n<bs.length) (hl:b.length=256):(⟨bs,ws,[],false,c⟩:Dsk).put (n:Int) b=match c with
 |none=>(⟨bs,ws++[((n:Int),b)],[],false,none⟩,0)
 |some 0=>(⟨bs,ws,[],true,some 0⟩,19)
 |some (k+1)=>(⟨bs,ws++[((n:Int),b)],[],false,some k⟩,0):=by
 have ht:(⟨bs,ws,[],false,c⟩:Dsk).there (n:Int):=⟨by omega,by show (n:Int)<(bs.length:Int);omega⟩
 unfold Dsk.put
 rw[if_neg (show ¬(false=true) by decide),if_neg (by rintro (h'|h');exact h' ht;exact h' hl),if_neg (by show ¬(n:Int)∈[];simp)]
 match c with
 |none=>simp[Dsk.step]
 |some 0=>simp[Dsk.step]
 |some (k+1)=>simp[Dsk.step]
def layAll (bs:List (List Int)) (ws:List Wr):List (List Int):=ws.foldl (fun bs x=>layB bs x 256) bs
theorem sync_at (bs:List (List Int)) (ws:List Wr) (c:Option Nat):(⟨bs,ws,[],false,c⟩:Dsk).sync=match c with
 |none=>(idle (layAll bs ws) none,0)
 |some 0=>(⟨bs,ws,[],true,some 0⟩,19)
 |some (k+1)=>(idle (layAll bs ws) (some k),0):=by
 unfold Dsk.sync
 rw[if_neg (show ¬(false=true) by decide)]
 match c with
 |none=>simp[Dsk.step,idle,layAll]
 |some 0=>simp[Dsk.step]
 |some (k+1)=>simp[Dsk.step,idle,layAll]
def txtW (b:List Int) (p:Nat):Nat→Nat→List Wr
 |0,_=>[]
 |k+1,i=>(((p+1+i:Nat):Int),blkI b i)::txtW b p k (i+1)
theorem txtW_mem {b:List Int} {p:Nat}:∀{k i:Nat} {x:Wr},x∈txtW b p k i→∃j,i≤j∧j<i+k∧x=(((p+1+j:Nat):Int),blkI b j)
 |0,_,_,h=>by cases h
 |k+1,i,x,h=>by
  rcases List.mem_cons.1 h with rfl|h
  ·exact⟨i,Nat.le_refl _,by omega,rfl⟩
  ·obtain⟨j,h1,h2,h3⟩:=txtW_mem h
   exact⟨j,by omega,by omega,h3⟩
theorem putN_at {b:List Int} {p:Nat} {bs:List (List Int)}:∀(k i:Nat) (ws:List Wr) (c:Option Nat),p+1+i+k≤bs.length→
 (∃c',putN b (p:Int) k ⟨bs,ws,[],false,c⟩ i=(⟨bs,ws++txtW b p k i,[],false,c'⟩,0)∧CLe c' c)∨
 (c≠none∧∃W,(∀x∈W,x∈txtW b p k i)∧putN b (p:Int) k ⟨bs,ws,[],false,c⟩ i=(⟨bs,ws++W,[],true,some 0⟩,19))
 |0,i,ws,c,_=>.inl ⟨c,by simp[putN,txtW],CLe.refl c⟩
 |k+1,i,ws,c,h=>by
  have e:((p:Int)+1+(i:Int))=((p+1+i:Nat):Int):=by omega
  unfold putN
  rw[e,put_at (by omega) (blkI_len b i)]
  match c with
  |none=>
   rw[if_neg (fun h=>h rfl)]
   rcases putN_at (b:=b) (p:=p) (bs:=bs) k (i+1) (ws++[(((p+1+i:Nat):Int),blkI b i)]) none (by omega)with ⟨c',h1,h2⟩|⟨h1,_⟩
   ·exact .inl ⟨c',by dsimp only;rw[h1,List.append_assoc];rfl,h2⟩
   ·exact(h1 rfl).elim
  |some 0=>
   rw[if_pos (show (19:Int)≠0 by decide)]
   exact .inr ⟨by simp,[],(fun x hx=>by cases hx),by rw[List.append_nil]⟩
  |some (j+1)=>
   rw[if_neg (fun h=>h rfl)]
   rcases putN_at (b:=b) (p:=p) (bs:=bs) k (i+1) (ws++[(((p+1+i:Nat):Int),blkI b i)]) (some j) (by omega)with ⟨c',h1,h2⟩|⟨_,W,h1,h2⟩
   ·exact .inl ⟨c',by dsimp only;rw[h1,List.append_assoc];rfl,h2.trans (Nat.le_succ j)⟩
   ·refine .inr ⟨by simp,(((p+1+i:Nat):Int),blkI b i)::W,fun x hx=>?_,by dsimp only;rw[h2,List.append_assoc];rfl⟩
    rcases List.mem_cons.1 hx with rfl|hx
    ·exact List.mem_cons_self
    ·exact List.mem_cons_of_mem _ (h1 x hx)
structure Zer (bs0:List (List Int)) (p n:Nat) (bs:List (List Int)):Prop where
 blk:Blk bs
 len:bs.length=bs0.length
 oth:∀j,¬(p≤j∧j<p+n)→bs.getD j []=bs0.getD j []
 zer:(bs.getD p []).getD 255 0=0
def InP (p n:Nat) (x:Wr):Prop:=∃q:Nat,x.1=(q:Int)∧p≤q∧q<p+n∧x.2.length=256∧B8 x.2∧(q=p→x.2.getD 255 0=0)
theorem Zer.lay {bs0:List (List Int)} {p n:Nat} {bs:List (List Int)} (z:Zer bs0 p n bs) (hn:p+n≤bs0.length) {x:Wr} (h:InP p n x) {k:Nat} (hk:k≤256):Zer bs0 p n (layB bs x k):=by
 obtain⟨q,h1,h2,h3,h4,h5,h6⟩:=h
 have hl:=z.len
 have e:layB bs x k=bs.set q (x.2.take k++(bs.getD q []).drop k):=by rw[layB,h1];rfl
 refine⟨layB_ok z.blk (by omega) (by omega) h4 h5 hk,by rw[layB_len];exact hl,fun j hj=>?_,?_⟩
 ·rw[e,set_getD_ne (by rintro rfl;exact hj ⟨h2,h3⟩)];exact z.oth j hj
 ·rw[e]
  by_cases hq:q=p
  ·subst hq
   rw[set_getD (by omega)]
   exact(torn_zero h4 (z.blk _ (List.mem_of_getElem? (getD_blk (by omega)))).1 (h6 rfl) z.zer hk).1
  ·rw[set_getD_ne hq];exact z.zer
theorem crash_keep {bs:List (List Int)} {ws:List Wr} {c:Option Nat} (Q:List (List Int)→Prop) (h0:Q bs) (h1:∀bs x k,x∈ws→k≤256→Q bs→Q (layB bs x k)) (picks:List Int):
 ∃bs',(⟨bs,ws,[],true,c⟩:Dsk).crash picks=idle bs' none∧Q bs':=by
 refine⟨(ws.zip picks).foldl (fun bs x=>layB bs x.1 (clampP x.2).toNat) bs,rfl,?_⟩
 have key:∀(l:List (Wr×Int)) (bs:List (List Int)),(∀x∈l,x.1∈ws)→Q bs→Q (l.foldl (fun bs x=>layB bs x.1 (clampP x.2).toNat) bs):=by
  intro l
  induction l with
  |nil=>intro bs _ h;exact h
  |cons x l ih=>
   intro bs hx h
   refine ih _ (fun y hy=>hx y (List.mem_cons_of_mem _ hy)) (h1 _ _ _ (hx x List.mem_cons_self) ?_ h)
   have:=clampP_le x.2;omega
 exact key _ _ (fun x hx=>zip_mem hx) h0
theorem layAll_keep {ws:List Wr} (Q:List (List Int)→Prop) (h1:∀bs x,x∈ws→Q bs→Q (layB bs x 256)):∀{bs},Q bs→Q (layAll bs ws):=by
 unfold layAll
 induction ws with
 |nil=>intro bs h;exact h
 |cons x l ih=>intro bs h;exact ih (fun bs y hy=>h1 bs y (List.mem_cons_of_mem _ hy)) (h1 bs x List.mem_cons_self h)
theorem layAll_txt {b:List Int} (hb:B8 b) {p:Nat}:∀(k i:Nat) (bs:List (List Int)),Blk bs→p+1+i+k≤bs.length→
 ∀j,(layAll bs (txtW b p k i)).getD j []=if p+1+i≤j∧j<p+1+i+k then blkI b (j-(p+1)) else bs.getD j []
 |0,i,bs,_,_,j=>by rw[if_neg (by omega)];rfl
 |k+1,i,bs,h1,h2,j=>by
  have e:layAll bs (txtW b p (k+1) i)=layAll (bs.set (p+1+i) (blkI b i)) (txtW b p k (i+1)):=by
   show layAll (layB bs (((p+1+i:Nat):Int),blkI b i) 256) _=_
   rw[layB_all h1 (by omega) (blkI_len b i)]
  rw[e,layAll_txt hb k (i+1) _ (h1.set (blkI_len b i) (blkI_B8 hb i)) (by rw[List.length_set];omega) j]
  by_cases c:p+1+i=j
  ·subst c
   rw[if_neg (by omega),if_pos (by omega),set_getD (by omega)]
   congr 1;omega
  ·by_cases d:p+1+(i+1)≤j∧j<p+1+(i+1)+k
   ·rw[if_pos d,if_pos (by omega)]
   ·rw[if_neg d,if_neg (by omega),set_getD_ne c]
end Go.Ideal.Seat
set_option linter.unusedVariables false
set_option linter.unusedSimpArgs false
namespace Go.Ideal.Seat
open Go.Ideal.Plain
def plc (fr n g:Nat):Nat:=fr+g%2*n
theorem plc_two (fr n g:Nat):plc fr n (g+2)=plc fr n g:=by unfold plc;rw[Nat.add_mod_right]
theorem plc_cases (fr n g:Nat):(plc fr n g=fr∧plc fr n (g+1)=fr+n)∨(plc fr n g=fr+n∧plc fr n (g+1)=fr):=by
 unfold plc
 rcases Nat.mod_two_eq_zero_or_one g with h|h
 ·have:(g+1)%2=1:=by omega
  rw[h,this];simp
 ·have:(g+1)%2=0:=by omega
  rw[h,this];simp
def GoodT (n g:Nat) (t:List Int):Prop:=B8 t∧t.length≤256*(n-1)∧recErr (g:Int) (t.length:Int) (sum4 t)=0
structure Inv (fr n g:Nat) (t:List Int) (bs:List (List Int)):Prop where
 blk:Blk bs
 fit:fr+2*n≤bs.length
 few:bs.length≤256
 two:2≤n
 hd:1≤g→bs.getD (plc fr n g) []=fullB (g:Int) (t.length:Int) (sum4 t)
 good:1≤g→GoodT n g t
 txt:1≤g→∀i,i<parts t→bs.getD (plc fr n g+1+i) []=blkI t i
 low:Low (g:Int) (bs.getD (plc fr n (g+1)) [])
 low0:g=0→Low 1 (bs.getD (plc fr n 0) [])
theorem parts_le {t:List Int} {n:Nat} (h:t.length≤256*(n-1)):parts t≤n-1:=by unfold parts;omega
theorem Inv.ofZer {fr n g:Nat} {t:List Int} {bs bs':List (List Int)} (I:Inv fr n g t bs) (z:Zer bs (plc fr n (g+1)) n bs'):Inv fr n g t bs':=by
 have hl:=z.len
 have out:∀j,j<n→bs'.getD (plc fr n g+j) []=bs.getD (plc fr n g+j) []:=fun j hj=>z.oth _ (by rcases plc_cases fr n g with ⟨a,b⟩|⟨a,b⟩<;>omega)
 have two:=I.two
 have fit:=I.fit
 have hp:plc fr n (g+1)<bs'.length:=by rcases plc_cases fr n g with ⟨a,b⟩|⟨a,b⟩<;>omega
 refine⟨z.blk,by rw[hl];exact fit,by rw[hl];exact I.few,two,fun h=>?_,I.good,fun h i hi=>?_,?_,fun h=>?_⟩
 ·have:=out 0 (by omega);rw[Nat.add_zero]at this;rw[this];exact I.hd h
 ·have:=parts_le (I.good h).2.1
  rw[Nat.add_assoc,out (1+i) (by omega),←Nat.add_assoc];exact I.txt h i hi
 ·exact low_zero (z.blk _ (List.mem_of_getElem? (getD_blk hp))).1 z.zer
 ·subst h
  have:=out 0 (by omega);rw[Nat.add_zero]at this;rw[this];exact I.low0 rfl
def WLeft (P Q:List (List Int)→Prop) (c:Option Nat) (r:Dsk×Int):Prop:=
 (r.2=0∧∃bs' c',r.1=idle bs' c'∧CLe c' c∧Q bs')∨(r.2=19∧c≠none∧r.1.down=true∧∀picks,∃bs',r.1.crash picks=idle bs' none∧(P bs'∨Q bs'))
theorem WLeft.up {P Q P' Q':List (List Int)→Prop} {c c':Option Nat} {r:Dsk×Int} (h:WLeft P Q c r) (hc:CLe c c') (hp:∀b,P b→P' b) (hq:∀b,Q b→Q' b):WLeft P' Q' c' r:=by
 rcases h with ⟨a,bs,d,e,f,g⟩|⟨a,b,d,e⟩
 ·exact .inl ⟨a,bs,d,e,f.trans hc,hq _ g⟩
 ·refine .inr ⟨a,?_,d,fun p=>?_⟩
  ·rintro rfl
   cases c with
   |none=>exact b rfl
   |some k=>exact hc
  ·obtain⟨bs',h1,h2⟩:=e p
   exact⟨bs',h1,h2.imp (hp _) (hq _)⟩
theorem down_left {P Q:List (List Int)→Prop} {c:Option Nat} {w:Dsk} (hc:c≠none) (hd:w.down=true) (h:∀picks,∃bs',w.crash picks=idle bs' none∧(P bs'∨Q bs')):WLeft P Q c (w,19):=.inr ⟨rfl,hc,hd,h⟩
theorem stop_down (w:Dsk) (p:Int) (b:List Int) (hd:List Int):sTail (w,19) b p hd=(w,19):=by
 unfold sTail
 rw[if_pos (show (19:Int)≠0 by decide),laid_stop,laid_stop]
theorem tail_left {fr n g:Nat} {t b:List Int} {bs:List (List Int)} {c:Option Nat} (I:Inv fr n g t bs) (hb:GoodT n (g+1) b) {bs1:List (List Int)} (z:Zer bs (plc fr n (g+1)) n bs1):
 WLeft (Inv fr n g t) (Inv fr n (g+1) b) c (sTail (idle bs1 c,0) b ((plc fr n (g+1):Nat):Int) (recB ((g+1:Nat):Int) (b.length:Int) (sum4 b))):=by
 obtain⟨b8,bl,be⟩:=hb
 have he:=recErr_zero.1 be
 have hB:=recB_B8 ((g+1:Nat):Int) (b.length:Int) he.2.2.2.2 (sum4_B8 b)
 have hL:=recB_len ((g+1:Nat):Int) (b.length:Int) he.2.2.2.2
 have hZ:(recB ((g+1:Nat):Int) (b.length:Int) (sum4 b)).getD 255 0=0:=recB_zero he.2.2.2.2
 have hF:markB (recB ((g+1:Nat):Int) (b.length:Int) (sum4 b)) true=fullB ((g+1:Nat):Int) (b.length:Int) (sum4 b):=rfl
 have hpl:=parts_le bl
 have two:=I.two
 have fit:=I.fit
 have hzl:=z.len
 have hpos:plc fr n (g+1)+n≤bs.length:=by rcases plc_cases fr n g with ⟨a,b⟩|⟨a,b⟩<;>omega
 have hdis:∀j,j<n→¬(plc fr n (g+1)≤plc fr n g+j∧plc fr n g+j<plc fr n (g+1)+n):=by
  intro j hj;rcases plc_cases fr n g with ⟨a,b⟩|⟨a,b⟩<;>omega
 have toP:∀{bs'},Zer bs (plc fr n (g+1)) n bs'→Inv fr n g t bs':=fun z=>I.ofZer z
 generalize hp:plc fr n (g+1)=p at *
 generalize hhd:recB ((g+1:Nat):Int) (b.length:Int) (sum4 b)=hd at *
 have tin:∀x∈txtW b p (parts b) 0,InP p n x:=fun x hx=>by
  obtain⟨j,h1,h2,rfl⟩:=txtW_mem hx
  exact⟨p+1+j,rfl,by omega,by omega,blkI_len b j,blkI_B8 b8 j,fun h=>by omega⟩
 have hin:InP p n ((p:Int),hd):=⟨p,rfl,by omega,by omega,hL,hB,fun _=>hZ⟩
 have crashP:∀(W:List Wr) (c':Option Nat),(∀x∈W,InP p n x)→∀picks,∃bs',(⟨bs1,W,[],true,c'⟩:Dsk).crash picks=idle bs' none∧(Inv fr n g t bs'∨Inv fr n (g+1) b bs'):=fun W c' hW picks=>by
  obtain⟨bs',h1,h2⟩:=crash_keep (c:=c') (Zer bs p n) z (fun bs x k hx hk h=>h.lay hpos (hW x hx) hk) picks
  exact⟨bs',h1,.inl (toP h2)⟩
 have last:∀(bs2:List (List Int)) (c:Option Nat),Zer bs p n bs2→bs2.getD p []=hd→(∀i,i<parts b→bs2.getD (p+1+i) []=blkI b i)→WLeft (Inv fr n g t) (Inv fr n (g+1) b) c ((idle bs2 c).lay (p:Int) (markB hd true)):=by
  intro bs2 c z2 h1 h2
  have hl2:=z2.len
  have hLF:(markB hd true).length=256:=by rw[markB_len];exact hL
  have hBF:B8 (markB hd true):=markB_B8 hB true
  have toQ:Inv fr n (g+1) b (bs2.set p (markB hd true)):=by
   refine⟨z2.blk.set hLF hBF,by rw[List.length_set,hl2];exact fit,by rw[List.length_set,hl2];exact I.few,two,fun _=>?_,fun _=>⟨b8,bl,be⟩,fun _ i hi=>?_,?_,fun h=>by omega⟩
   ·rw[hp,set_getD (by omega)];exact hF
   ·rw[hp,set_getD_ne (by omega)];exact h2 i hi
   ·rw[plc_two,set_getD_ne (by have:=hdis 0 (by omega);omega)]
    have:=z2.oth (plc fr n g) (hdis 0 (by omega))
    rw[this]
    by_cases hg:g=0
    ·subst hg;exact I.low0 rfl
    ·rw[I.hd (by omega)]
     exact low_made (I.good (by omega)).2.2 (sum4_B8 t) (by omega)
  rw[idle_lay z2.blk (by omega) hLF]
  match c with
  |none=>exact .inl ⟨rfl,_,none,rfl,trivial,toQ⟩
  |some 0=>
   refine down_left (by simp) rfl fun picks=>⟨bs2,crash_none picks,.inl (toP z2)⟩
  |some 1=>
   refine down_left (by simp) rfl fun picks=>?_
   obtain⟨b',k1,k2⟩:=crash_lay (b:=markB hd true) (c:=some 0) (g:=0) (show p<bs2.length by omega) h1 (fun b'=>b'=hd∨b'=markB hd true) (.inl rfl) (fun k hk=>take_drop_mark hL hk) picks
   rcases k2 with rfl|rfl
   ·refine⟨_,k1,.inl (toP ?_)⟩
    rw[←h1,set_same (by omega)];exact z2
   ·exact⟨_,k1,.inr toQ⟩
  |some (k+2)=>exact .inl ⟨rfl,_,some k,rfl,(show k≤k+2 by omega),toQ⟩
 unfold sTail
 rw[if_neg (fun h=>h rfl)]
 have e1:(idle bs1 c)=(⟨bs1,[],[],false,c⟩:Dsk):=rfl
 dsimp only
 rw[e1]
 rcases putN_at (b:=b) (p:=p) (bs:=bs1) (parts b) 0 [] c (by omega)with ⟨c',h1,h2⟩|⟨h0,W,h1,h2⟩
 ·rw[h1,List.nil_append]
  have hwl:∀{bs':List (List Int)},Zer bs p n bs'→Zer bs p n (layAll bs' (txtW b p (parts b) 0)):=fun z=>layAll_keep (Zer bs p n) (fun bs x hx h=>h.lay hpos (tin x hx) (Nat.le_refl _)) z
  have z1:=hwl z
  have el:layAll bs1 (txtW b p (parts b) 0++[((p:Int),hd)])=(layAll bs1 (txtW b p (parts b) 0)).set p hd:=by
   unfold layAll
   rw[List.foldl_append]
   exact layB_all z1.blk (by have:=z1.len;show p<(layAll bs1 _).length;omega) hL
  have z2:Zer bs p n (layAll bs1 (txtW b p (parts b) 0++[((p:Int),hd)])):=layAll_keep (Zer bs p n) (fun bs x hx h=>h.lay hpos (by
   rcases List.mem_append.1 hx with hx|hx
   ·exact tin x hx
   ·rw[List.mem_singleton]at hx;subst hx;exact hin) (Nat.le_refl _)) z
  have t1:(layAll bs1 (txtW b p (parts b) 0++[((p:Int),hd)])).getD p []=hd:=by rw[el,set_getD (by have:=z1.len;omega)]
  have t2:∀i,i<parts b→(layAll bs1 (txtW b p (parts b) 0++[((p:Int),hd)])).getD (p+1+i) []=blkI b i:=fun i hi=>by
   rw[el,set_getD_ne (by omega),layAll_txt b8 (parts b) 0 bs1 z.blk (by omega) (p+1+i),if_pos (by omega)]
   congr 1;omega
  have e2:laid (⟨bs1,txtW b p (parts b) 0,[],false,c'⟩,0) (p:Int) hd=(⟨bs1,txtW b p (parts b) 0,[],false,c'⟩:Dsk).lay (p:Int) hd:=by unfold laid;rw[if_neg (fun h=>h rfl)]
  have e3:∀w:Dsk,laid (w,0) (p:Int) (markB hd true)=w.lay (p:Int) (markB hd true):=fun w=>by unfold laid;rw[if_neg (fun h=>h rfl)]
  rw[e2]
  unfold Dsk.lay
  rw[put_at (by omega) hL]
  have all:∀x∈txtW b p (parts b) 0++[((p:Int),hd)],InP p n x:=fun x hx=>by
   rcases List.mem_append.1 hx with hx|hx
   ·exact tin x hx
   ·rw[List.mem_singleton]at hx;subst hx;exact hin
  have cn:∀k,c'=some k→c≠none:=fun k hk h=>by subst h;subst hk;exact h2
  match c' with
  |none=>
   simp only[ne_eq,not_true_eq_false,if_false,sync_at]
   rw[e3]
   exact(last _ none z2 t1 t2).up h2 (fun _ h=>h) (fun _ h=>h)
  |some 0=>
   simp only[ne_eq,show ¬((19:Int)=0) by decide,not_false_eq_true,if_true]
   rw[laid_stop]
   exact down_left (cn 0 rfl) rfl (crashP _ _ tin)
  |some 1=>
   simp only[ne_eq,not_true_eq_false,if_false,sync_at]
   rw[laid_stop]
   exact down_left (cn 1 rfl) rfl (crashP _ _ all)
  |some (k+2)=>
   simp only[ne_eq,not_true_eq_false,if_false,sync_at]
   rw[e3]
   exact(last _ (some k) z2 t1 t2).up (CLe.trans (show CLe (some k) (some (k+2)) from by show k≤k+2;omega) h2) (fun _ h=>h) (fun _ h=>h)
 ·rw[h2,List.nil_append,laid_stop,laid_stop]
  exact down_left h0 rfl (crashP _ _ fun x hx=>tin x (h1 x hx))
theorem write_left {fr n g:Nat} {t b:List Int} {bs:List (List Int)} {c:Option Nat} (I:Inv fr n g t bs) (hb:GoodT n (g+1) b):
 WLeft (Inv fr n g t) (Inv fr n (g+1) b) c (sWrite (idle bs c) fr n ((g+1:Nat):Int) b):=by
 have hb':=hb
 obtain⟨b8,bl,be⟩:=hb'
 have two:=I.two
 have fit:=I.fit
 have hpos:plc fr n (g+1)+n≤bs.length:=by rcases plc_cases fr n g with ⟨a,b⟩|⟨a,b⟩<;>omega
 have ep:(fr:Int)+((g+1:Nat):Int)%2*(n:Int)=((plc fr n (g+1):Nat):Int):=by
  unfold plc;push_cast;rfl
 have rd:=idle_rd (bs:=bs) (c:=c) (n:=plc fr n (g+1)) (by omega)
 unfold sWrite
 rw[if_neg (by omega),if_neg (by omega),if_neg (fun h=>h be),ep,rd,if_neg (fun h=>h rfl)]
 dsimp only
 have ob:=I.blk _ (List.mem_of_getElem? (getD_blk (show plc fr n (g+1)<bs.length by omega)))
 have z0:∀o:List Int,o.length=256→B8 o→o.getD 255 0=0→Zer bs (plc fr n (g+1)) n (bs.set (plc fr n (g+1)) o):=fun o h1 h2 h3=>
  ⟨I.blk.set h1 h2,List.length_set,fun j hj=>set_getD_ne (by rintro rfl;exact hj ⟨Nat.le_refl _,by omega⟩),by rw[set_getD (by omega)];exact h3⟩
 unfold unmark
 by_cases m:(bs.getD (plc fr n (g+1)) []).getD 255 0=0
 ·rw[if_neg (fun h=>h m)]
  refine tail_left I hb ?_
  have:=z0 _ ob.1 ob.2 m
  rwa [set_same (by omega)]at this
 ·rw[if_pos m]
  have hLu:(markB (bs.getD (plc fr n (g+1)) []) false).length=256:=by rw[markB_len];exact ob.1
  have zu:=z0 _ hLu (markB_B8 ob.2 false) (mark_zero ob.1)
  rw[idle_lay I.blk (by omega) hLu]
  match c with
  |none=>exact tail_left I hb zu
  |some 0=>
   dsimp only
   rw[stop_down]
   exact down_left (by simp) rfl fun picks=>⟨bs,crash_none picks,.inl I⟩
  |some 1=>
   dsimp only
   rw[stop_down]
   refine down_left (by simp) rfl fun picks=>?_
   obtain⟨b',h1,h2⟩:=crash_lay (b:=markB (bs.getD (plc fr n (g+1)) []) false) (c:=some 0) (g:=0) (show plc fr n (g+1)<bs.length by omega) rfl (fun b'=>b'=bs.getD (plc fr n (g+1)) []∨b'=markB (bs.getD (plc fr n (g+1)) []) false) (.inl rfl) (fun k hk=>take_drop_mark ob.1 hk) picks
   refine⟨_,h1,.inl ?_⟩
   rcases h2 with rfl|rfl
   ·rw[set_same (by omega)];exact I
   ·exact I.ofZer zu
  |some (k+2)=>exact(tail_left (c:=some k) I hb zu).up (show k≤k+2 by omega) (fun _ h=>h) (fun _ h=>h)
end Go.Ideal.Seat
