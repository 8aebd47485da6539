/- Signs as bytes: plain facts. -/
import Derived.Test.YtofcecmdebcmpaaJc
import Derived.Test.YtofcecmdebcmpaaSh
set_option linter.unusedVariables false
set_option linter.unusedSimpArgs false
namespace Go.Ideal.Plain
def encB (r:Int):List UInt8:=(Utf8.encode r).data.toList
def codeOk (r:Int):Bool:=(decide (0≤r)&&decide (r<55296))||(decide (57344≤r)&&decide (r≤1114111))
end Go.Ideal.Plain
set_option linter.unusedVariables false
set_option linter.unusedSimpArgs false
namespace Go.Ideal.Plain
theorem w64 {x:Int} (h1:-9223372036854775808≤x) (h2:x≤9223372036854775807):IntKind.wrap .i64 x=x:=Go.IntWalk.i64_in _ ⟨h1,h2⟩
section
variable {S X A E:Type}
theorem foldLoop {l:List E} (mk:A→Int→S) (g:A→E→A) (inv:Nat→A→Prop) {fin:A→X} {F:S→Option (S⊕X)} {a:A} (h0:inv 0 a)
 (h1:∀a i e,l[i]? = some e→i<l.length→inv i a→F (mk a i)=some (.inl (mk (g a e) ((i+1:Nat):Int)))∧inv (i+1) (g a e))
 (h2:∀a,inv l.length a→F (mk a l.length)=some (.inr (fin a))):iterL F (mk a 0)=some (fin (l.foldl g a)):=by
 rw[iter_run (l:=l) (mk:=mk) (step:=stepS g) (fin:=fun a=>some (fin a)) inv (fun a i e he hv=>?_) (fun a i e a' he hv hs=>?_) (fun a hv=>?_) h0,runL_fold]
 ·rw[(h1 a i e he (getE_bound he) hv).1];rfl
 ·simp only[stepS,Option.some.injEq,Sum.inl.injEq]at hs
  rw[←hs];exact(h1 a i e he (getE_bound he) hv).2
 ·rw[h2 a hv];rfl
def upTo (g:Nat→A→A):Nat→A→A
 |0,a=>a
 |n+1,a=>g n (upTo g n a)
theorem countLoop (n:Nat) (mk:A→Int→S) (g:Nat→A→A) (inv:Nat→A→Prop) {fin:A→X} {F:S→Option (S⊕X)} {a:A} (h0:inv 0 a)
 (h1:∀a i,i<n→inv i a→F (mk a i)=some (.inl (mk (g i a) ((i+1:Nat):Int)))∧inv (i+1) (g i a))
 (h2:∀a,inv n a→F (mk a n)=some (.inr (fin a))):iterL F (mk a 0)=some (fin (upTo g n a)):=by
 have key:∀m,m≤n→inv m (upTo g m a)∧iterL F (mk a 0)=iterL F (mk (upTo g m a) (m:Nat)):=by
  intro m
  induction m with
  |zero=>intro _;exact⟨h0,rfl⟩
  |succ m ih=>
   intro hm
   obtain⟨i1,i2⟩:=ih (by omega)
   obtain⟨j1,j2⟩:=h1 _ m (by omega) i1
   exact⟨j2,i2.trans (iterL_inl j1)⟩
 obtain⟨i1,i2⟩:=key n (Nat.le_refl _)
 rw[i2,iterL_inr (h2 _ i1)]
theorem allLoop {X:Type} {l:List E} (p:E→Bool) {F:Int→Option (Int⊕(Bool⊕X))} {z:X} (h1:∀(i:Nat) e,l[i]? = some e→F i=some (if p e=true then .inl ((i+1:Nat):Int) else .inr (.inl false)))
 (h2:F (l.length:Int)=some (.inr (.inr z))):iterL F 0=some (if l.all p=true then .inr z else .inl false):=by
 rw[iter_run (l:=l) (mk:=fun(_:Unit) i=>i) (step:=fun _ _ e=>if p e=true then some (.inl ()) else some (.inr (.inl false))) (fin:=fun _=>some (.inr z)) (fun _ _=>True) ?_ (fun _ _ _ _ _ _ _=>trivial) ?_ trivial]
 ·have key:∀(r:List E) (i:Nat),runL (A:=Unit) (X:=Bool⊕X) (fun _ _ e=>if p e=true then some (.inl ()) else some (.inr (.inl false))) (fun _=>some (.inr z)) i () r=some (if r.all p=true then .inr z else .inl false):=by
   intro r
   induction r with
   |nil=>intro i;rfl
   |cons c r ih=>
    intro i
    simp only[runL]
    by_cases hc:p c=true
    ·have:(c::r).all p=r.all p:=by rw[List.all_cons,hc];rfl
     rw[if_pos hc,this]
     exact ih (i+1)
    ·have:(c::r).all p=false:=by rw[List.all_cons,(Bool.not_eq_true _).mp hc];rfl
     rw[if_neg hc,this];rfl
  exact key l 0
 ·intro _ i c hc _
  rw[h1 i c hc]
  by_cases hk:p c=true
  ·rw[if_pos hk,if_pos hk];rfl
  ·rw[if_neg hk,if_neg hk];rfl
 ·intro _ _;rw[h2];rfl
theorem sameLoop {X:Type} {l m:List E} (hl:l.length=m.length) (p:E→E→Bool) {F:Int→Option (Int⊕(Bool⊕X))} {z:X} (h1:∀(i:Nat) d e,l[i]? = some d→m[i]? = some e→F i=some (if p d e=true then .inl ((i+1:Nat):Int) else .inr (.inl false)))
 (h2:F (l.length:Int)=some (.inr (.inr z))):iterL F 0=some (if (l.zip m).all (fun x=>p x.1 x.2)=true then .inr z else .inl false):=by
 refine allLoop (l:=l.zip m) (fun x=>p x.1 x.2) (fun i e he=>?_) ?_
 ·rw[List.getElem?_zip_eq_some]at he
  exact h1 i e.1 e.2 he.1 he.2
 ·rw[List.length_zip,←hl,Nat.min_self];exact h2
theorem zip_all_eq {l m:List E} (hl:l.length=m.length) {p:E×E→Bool} (hp:∀x,p x=true↔x.1=x.2):((l.zip m).all p=true)↔l=m:=by
 induction l generalizing m with
 |nil=>cases m<;>simp_all
 |cons a l ih=>
  cases m with
  |nil=>simp at hl
  |cons b m=>
   simp only[List.zip_cons_cons,List.all_cons,Bool.and_eq_true,hp,List.cons.injEq]
   rw[ih (by simpa using hl)]
theorem set_last {α:Type}:∀{l:List α} {a b:α},l.getLast? = some a→l.set (l.length-1) b=l.dropLast++[b]
 |[],_,_,h=>by simp at h
 |[x],a,b,h=>by simp
 |x::y::l,a,b,h=>by
  have ih:=set_last (l:=y::l) (a:=a) (b:=b) (by simpa using h)
  simp only[List.length_cons,Nat.add_sub_cancel]at ih ⊢
  simp only[List.set_cons_succ,List.dropLast_cons_cons,List.cons_append,ih]
theorem drop_last {α:Type} {l:List α} {a:α} (h:l.getLast? = some a):l.dropLast++[a]=l:=by
 rw[←set_last h,List.getLast?_eq_getElem?]at *
 have hi:=getE_bound h
 rw[List.getElem?_eq_getElem hi]at h
 injection h with h
 rw[←h,List.set_getElem_self]
end
end Go.Ideal.Plain
set_option linter.unusedVariables false
set_option linter.unusedSimpArgs false
namespace Go.Ideal.Seat
open Go.Ideal.Plain
abbrev Cell:=Int×Int×Int×Int
end Go.Ideal.Seat
set_option linter.unusedVariables false
set_option linter.unusedSimpArgs false
namespace Go.Ideal.Seat
open Go.Ideal.Plain
end Go.Ideal.Seat
set_option linter.unusedVariables false
set_option linter.unusedSimpArgs false
namespace Go.Ideal.Plain
inductive Signs:List UInt8→Prop
 |nil:Signs []
 |cons {c:Int} {r:List UInt8} (hc:codeOk c=true) (h:Signs r):Signs (encB c++r)
end Go.Ideal.Plain
set_option linter.unusedVariables false
set_option linter.unusedSimpArgs false
namespace Go.Ideal.Seat
open Go.Ideal.Plain
end Go.Ideal.Seat
set_option linter.unusedVariables false
set_option linter.unusedSimpArgs false
namespace Go.Ideal.Seat
open Go.Ideal.Plain
def slice (l:List UInt8) (i n:Nat):List UInt8:=(l.drop i).take n
end Go.Ideal.Seat
set_option linter.unusedVariables false
set_option linter.unusedSimpArgs false
namespace Go.Ideal.Plain
end Go.Ideal.Plain
set_option linter.unusedVariables false
set_option linter.unusedSimpArgs false
namespace Go.Ideal.Seat
open Go.Ideal.Plain
end Go.Ideal.Seat
set_option linter.unusedVariables false
set_option linter.unusedSimpArgs false
namespace Go.Ideal.Seat
open Go.Ideal.Plain
end Go.Ideal.Seat
set_option linter.unusedVariables false
set_option linter.unusedSimpArgs false
namespace Go.Ideal.Seat
open Go.Ideal.Plain
abbrev Grd:=Int×Int×List Cell
def sizeOk (r c:Int):Bool:=decide (1≤r∧r≤60∧1≤c∧c≤132)
end Go.Ideal.Seat
set_option linter.unusedVariables false
set_option linter.unusedSimpArgs false
namespace Go.Ideal.Seat
open Go.Ideal.Plain
end Go.Ideal.Seat
set_option linter.unusedVariables false
set_option linter.unusedSimpArgs false
namespace Go.Ideal.Seat
open Go.Ideal.Plain
def blankC:Cell:=(32,0,0,0)
def grid0 (r c:Int):Grd:=(r,c,List.replicate (r*c).toNat blankC)
def base (g:Grd) (r c:Int):Grd:=if g.1=r∧g.2.1=c then (r,c,g.2.2) else if sizeOk r c=true then grid0 r c else (0,0,[])
end Go.Ideal.Seat
set_option linter.unusedVariables false
set_option linter.unusedSimpArgs false
namespace Go.Ideal.Seat
open Go.Ideal.Plain
end Go.Ideal.Seat
set_option linter.unusedVariables false
set_option linter.unusedSimpArgs false
namespace Go.Ideal.Seat
open Go.Ideal.Plain
end Go.Ideal.Seat
set_option linter.unusedVariables false
set_option linter.unusedSimpArgs false
namespace Go.Ideal.Seat
open Go.Ideal.Plain
end Go.Ideal.Seat
set_option linter.unusedVariables false
set_option linter.unusedSimpArgs false
namespace Go.Ideal.Seat
open Go.Ideal.Plain
theorem allIdx {E:Type} {l:List E} (p:E→Bool) {F:Int→Option (Int⊕(Int⊕(Int×Bool)))} {z:Int×Bool} (h1:∀(i:Nat) e,l[i]? = some e→F i=some (if p e=true then .inl ((i+1:Nat):Int) else .inr (.inl (i:Int))))
 (h2:F (l.length:Int)=some (.inr (.inr z))):iterL F 0=some (if l.all p=true then .inr z else .inl ((l.findIdx (fun e=>!p e):Nat):Int)):=by
 have key:∀(n i:Nat),i+n=l.length→iterL F (i:Int)=some (if (l.drop i).all p=true then .inr z else .inl ((i+(l.drop i).findIdx (fun e=>!p e):Nat):Int)):=by
  intro n
  induction n with
  |zero=>
   intro i hi
   have:i=l.length:=by omega
   subst this
   rw[iterL_inr h2];simp
  |succ n ih=>
   intro i hi
   have hlt:i<l.length:=by omega
   have hg:=List.getElem?_eq_getElem hlt
   have hf:=h1 i _ hg
   rw[List.drop_eq_getElem_cons hlt,List.all_cons,List.findIdx_cons]
   cases hp:p l[i] with
   |true=>
    rw[hp,if_pos rfl]at hf
    rw[iterL_inl hf,Bool.true_and,ih (i+1) (by omega)]
    simp only[Bool.not_true,cond_false]
    congr 2
    rw[show i+1+(l.drop (i+1)).findIdx (fun e=>!p e)=i+((l.drop (i+1)).findIdx (fun e=>!p e)+1) by omega]
   |false=>
    rw[hp,if_neg (by simp)]at hf
    rw[iterL_inr hf];simp
 have:=key l.length 0 (by omega)
 simpa using this
end Go.Ideal.Seat
set_option linter.unusedVariables false
set_option linter.unusedSimpArgs false
namespace Go.Ideal.Seat
open Go.Ideal.Plain
theorem foldl_snoc {E:Type} (l r:List E):l.foldl (fun a e=>a++[e]) r=r++l:=by
 induction l generalizing r with
 |nil=>simp
 |cons e l ih=>simp[ih]
end Go.Ideal.Seat
set_option linter.unusedVariables false
set_option linter.unusedSimpArgs false
namespace Go.Ideal.Seat
open Go.Ideal.Plain
end Go.Ideal.Seat
set_option linter.unusedVariables false
set_option linter.unusedSimpArgs false
namespace Go.Ideal.Seat
open Go.Ideal.Plain
end Go.Ideal.Seat
set_option linter.unusedVariables false
set_option linter.unusedSimpArgs false
namespace Go.Ideal.Plain
def numPre (n:Nat):List Int:=if n<128 then [] else ((n%128+128:Nat):Int)::numPre (n/128)
termination_by n
decreasing_by omega
def numTop (n:Nat):Nat:=if n<128 then n else numTop (n/128)
termination_by n
decreasing_by omega
def numB (n:Nat):List Int:=numPre n++[(numTop n:Int)]
theorem numPre_small {n:Nat} (h:n<128):numPre n=[]:=by rw[numPre,if_pos h]
theorem numTop_small {n:Nat} (h:n<128):numTop n=n:=by rw[numTop,if_pos h]
theorem numPre_big {n:Nat} (h:128≤n):numPre n=((n%128+128:Nat):Int)::numPre (n/128):=by rw[numPre,if_neg (by omega)]
theorem numTop_big {n:Nat} (h:128≤n):numTop n=numTop (n/128):=by rw[numTop,if_neg (by omega)]
theorem numB_small {n:Nat} (h:n<128):numB n=[(n:Int)]:=by unfold numB;rw[numPre_small h,numTop_small h];rfl
theorem numB_big {n:Nat} (h:128≤n):numB n=((n%128+128:Nat):Int)::numB (n/128):=by unfold numB;rw[numPre_big h,numTop_big h];rfl
theorem numTop_lt:∀n,numTop n<128:=by
 intro n
 induction n using Nat.strongRecOn with
 |ind n ih=>
  by_cases h:n<128
  ·rw[numTop_small h];exact h
  ·rw[numTop_big (by omega)];exact ih _ (by omega)
theorem numPre_len:∀k n,n<128^(k+1)→(numPre n).length≤k
 |0,n,h=>by rw[numPre_small (by simpa using h)];simp
 |k+1,n,h=>by
  by_cases h1:n<128
  ·rw[numPre_small h1];simp
  ·rw[numPre_big (by omega),List.length_cons]
   have:n/128<128^(k+1):=by rw[Nat.div_lt_iff_lt_mul (by decide)];rw[Nat.pow_succ]at h;exact h
   have:=numPre_len k (n/128) this
   omega
theorem numB_len {n:Nat} (h:n<2^62):(numB n).length≤9:=by
 have:=numPre_len 8 n (by omega)
 unfold numB
 simp;omega
theorem numB_bytes:∀n,∀x∈numB n,0≤x∧x<256:=by
 intro n
 induction n using Nat.strongRecOn with
 |ind n ih=>
  intro x hx
  by_cases h:n<128
  ·rw[numB_small h,List.mem_singleton]at hx;omega
  ·rw[numB_big (by omega)]at hx
   rcases List.mem_cons.1 hx with h|h
   ·omega
   ·exact ih _ (by omega) x h
section
variable {S X Y:Type}
theorem numLoop (mk:Int→List Int→S) {fin:Int→List Int→X} {F:S→Option (S⊕X)} (h1:∀(n:Nat) out,128≤n→n<2^62→out.length≤2^40→F (mk n out)=some (.inl (mk (n/128:Nat) (out++[((n%128+128:Nat):Int)]))))
 (h2:∀(n:Nat) out,n<128→F (mk n out)=some (.inr (fin n out))):∀(n:Nat) (out:List Int),n<2^62→out.length+(numPre n).length≤2^40→iterL F (mk n out)=some (fin (numTop n) (out++numPre n)):=by
 intro n
 induction n using Nat.strongRecOn with
 |ind n ih=>
  intro out hn ho
  by_cases h:n<128
  ·rw[iterL_inr (h2 n out h),numTop_small h,numPre_small h,List.append_nil]
  ·rw[numPre_big (by omega),List.length_cons]at ho
   rw[iterL_inl (h1 n out (by omega) hn (by omega)),ih (n/128) (by omega) (out++[((n%128+128:Nat):Int)]) (by omega) (by rw[List.length_append];simp only[List.length_cons,List.length_nil];omega),numTop_big (n:=n) (by omega),numPre_big (n:=n) (by omega)]
   simp
def rdN:Nat→Nat→Int→List Int→List Int×Int×Int
 |0,_,_,l=>(l,5,0)
 |_+1,_,_,[]=>([],4,0)
 |k+1,i,acc,x::r=>if x=0∧0<i then (r,6,0) else if x<128 then (r,0,acc+x*128^i) else rdN k (i+1) (acc+(x-128)*128^i) r
theorem rdLoop (mk:List Int→Int→Int→S) {F:S→Option (S⊕X)} {post:X→Option Y} (out:List Int→Int→Int→Y) (P:List Int→Prop) (hP:∀x r,P (x::r)→P r∧0≤x∧x<256)
 (h1:∀b acc (i:Nat),i<8→0≤acc→acc<128^i→P b→(b=[]→∃x,F (mk b acc i)=some (.inr x)∧post x=some (out [] 4 0))∧∀c r,b=c::r→0≤c→c<256→
   (c=0∧0<i→∃x,F (mk b acc i)=some (.inr x)∧post x=some (out r 6 0))∧(¬(c=0∧0<i)→c<128→∃x,F (mk b acc i)=some (.inr x)∧post x=some (out r 0 (acc+c*128^i)))∧
   (¬c<128→F (mk b acc i)=some (.inl (mk r (acc+(c-128)*128^i) ((i+1:Nat):Int)))))
 (h8:∀b acc,P b→0≤acc→acc<128^8→∃x,F (mk b acc 8)=some (.inr x)∧post x=some (out b 5 0)) {b:List Int} (hb:P b):
 (iterL F (mk b 0 0)).bind post=some (out (rdN 8 0 0 b).1 (rdN 8 0 0 b).2.1 (rdN 8 0 0 b).2.2):=by
 have key:∀(k i:Nat) (acc:Int) (b:List Int),k+i=8→0≤acc→acc<128^i→P b→(iterL F (mk b acc i)).bind post=some (out (rdN k i acc b).1 (rdN k i acc b).2.1 (rdN k i acc b).2.2):=by
  intro k
  induction k with
  |zero=>
   intro i acc b hk ha ha2 hb
   have:i=8:=by omega
   subst this
   obtain⟨x,e1,e2⟩:=h8 b acc hb ha ha2
   have e1':F (mk b acc ((8:Nat):Int))=some (.inr x):=e1
   rw[iterL_inr e1']
   exact e2
  |succ k ih=>
   intro i acc b hk ha ha2 hb
   obtain⟨q1,q2⟩:=h1 b acc i (by omega) ha ha2 hb
   cases b with
   |nil=>
    obtain⟨x,e1,e2⟩:=q1 rfl
    rw[iterL_inr e1]
    exact e2
   |cons c r=>
    obtain⟨hr,hc1,hc2⟩:=hP c r hb
    obtain⟨r1,r2,r3⟩:=q2 c r rfl hc1 hc2
    have hp:(0:Int)<128^i:=Int.pow_pos (by decide)
    by_cases h0:c=0∧0<i
    ·obtain⟨x,e1,e2⟩:=r1 h0
     rw[iterL_inr e1]
     simp only[rdN,if_pos h0]
     exact e2
    ·by_cases h2:c<128
     ·obtain⟨x,e1,e2⟩:=r2 h0 h2
      rw[iterL_inr e1]
      simp only[rdN,if_neg h0,if_pos h2]
      exact e2
     ·rw[iterL_inl (r3 h2)]
      simp only[rdN,if_neg h0,if_neg h2]
      have m1:0≤(c-128)*128^i:=Int.mul_nonneg (by omega) (by omega)
      have m2:(c-128)*128^i≤127*128^i:=Int.mul_le_mul_of_nonneg_right (by omega) (by omega)
      exact ih (i+1) _ r (by omega) (by omega) (by rw[Int.pow_succ];omega) hr
 exact key 8 0 0 b rfl (by decide) (by decide) hb
end
theorem mul_split {acc a b n p:Int} (h:a+128*b=n):acc+a*p+b*(p*128)=acc+n*p:=by
 rw[←h,Int.add_mul,show b*(p*128)=128*b*p by rw[Int.mul_comm p,←Int.mul_assoc,Int.mul_comm b]]
 omega
theorem rdN_numB:∀(k i:Nat) (n:Nat) (acc:Int) (r:List Int),n<128^k→(0<i→0<n)→(i=0→0<k)→rdN k i acc (numB n++r)=(r,0,acc+n*128^i)
 |0,i,n,acc,r,h,h0,hk=>by
  have:n=0:=by simpa using h
  omega
 |k+1,i,n,acc,r,h,h0,hk=>by
  by_cases h1:n<128
  ·rw[numB_small h1]
   simp only[List.cons_append,List.nil_append,rdN]
   rw[if_neg (by omega),if_pos (by omega)]
  ·rw[numB_big (by omega)]
   simp only[List.cons_append,rdN]
   rw[if_neg (by omega),if_neg (by omega),rdN_numB k (i+1) (n/128) _ r (by rw[Nat.div_lt_iff_lt_mul (by decide)];rw[Nat.pow_succ]at h;exact h) (fun _=>by omega) (fun h=>by omega)]
   have e:acc+(((n%128+128:Nat):Int)-128)*128^i+((n/128:Nat):Int)*128^(i+1)=acc+(n:Int)*128^i:=by
    rw[Int.pow_succ]
    exact mul_split (by omega)
   rw[e]
end Go.Ideal.Plain
set_option linter.unusedVariables false
set_option linter.unusedSimpArgs false
namespace Go.Ideal.Seat
open Go.Ideal.Plain
theorem w8i {x:Int} (h:0≤x) (h2:x<256):IntKind.wrap .u8 x=x:=Go.IntWalk.u8_in _ ⟨h,by omega⟩
theorem tmod_n (n:Nat):Int.tmod (n:Int) 128=((n%128:Nat):Int):=by rw[Int.tmod_eq_emod_of_nonneg (by omega)];rfl
theorem tdiv_n (n:Nat):Int.tdiv (n:Int) 128=((n/128:Nat):Int):=by rw[Int.tdiv_eq_ediv_of_nonneg (by omega)];rfl
theorem refNum_eq (n:Nat) (h:n<2^62):F_batonref06_Number (n:Int)=some (numB n):=by
 unfold F_batonref06_Number
 have hl:=numPre_len 8 n (by omega)
 have ht:=numTop_lt n
 rw[numLoop (fun n out=>(n,out)) (fin:=fun n out=>(n,out,false)) (fun n out h1 h2 h3=>?_) (fun n out h1=>?_) n [] h (by simp;omega)]
 ·have hm:(([]++numPre n).length+1)*(1+1)≤most:=by unfold most;simp;omega
  simp only[Option.bind_some,w8i (show 0≤((numTop n:Nat):Int) by omega) (by omega),List.length_cons,List.length_nil,Nat.zero_add,hm,decide_true,cond_true]
  rfl
 ·have hg:(n:Int)>127:=by omega
  have hm:(out.length+1)*(1+1)≤most:=by unfold most;omega
  have w1:IntKind.wrap .u8 (IntKind.wrap .i64 (((n%128:Nat):Int)+128))=((n%128+128:Nat):Int):=by rw[w64 (by omega) (by omega),w8i (by omega) (by omega)];rfl
  have w2:IntKind.wrap .i64 ((n/128:Nat):Int)=((n/128:Nat):Int):=w64 (by omega) (by omega)
  simp only[hg,decide_true,cond_true,tmod_n,tdiv_n,w1,w2,List.length_cons,List.length_nil,Nat.zero_add,hm]
 ·have hg:¬(n:Int)>127:=by omega
  simp only[hg,decide_false,cond_false]
theorem add_eq (b l:List Int) (h:b.length+l.length≤2^42):O_codec_Writer_add ((b,0),l)=some (b++l,0):=by
 unfold O_codec_Writer_add
 have hm:(b.length+l.length)*(1+1)≤most:=by unfold most;omega
 simp only[beq_self_eq_true,cond_true,hm,decide_true]
theorem wNum_eq (b:List Int) (n:Nat) (h:n≤72057594037927935) (hb:b.length≤2^39):O_codec_Writer_Number ((b,0),(n:Int))=some (b++numB n,0):=by
 unfold O_codec_Writer_Number
 have hl:=numPre_len 8 n (by omega)
 have ht:=numTop_lt n
 have h0:¬(n:Int)<0:=by omega
 have h1:¬(n:Int)>72057594037927935:=by omega
 simp only[h0,h1,decide_false,beq_self_eq_true,cond_true,Option.bind_some,cond_false]
 rw[numLoop (fun n out=>(out,(0:Int),n)) (fin:=fun n out=>(out,0,n,false)) (fun n out h1 h2 h3=>?_) (fun n out h1=>?_) n b (by omega) (by omega)]
 ·simp only[Option.bind_some,w8i (show 0≤((numTop n:Nat):Int) by omega) (by omega)]
  rw[add_eq _ _ (by simp;omega)]
  simp only[Option.bind_some,numB,List.append_assoc]
 ·have hg:(n:Int)≥128:=by omega
  have w1:IntKind.wrap .u8 (IntKind.wrap .u8 ((n%128:Nat):Int)+128)=((n%128+128:Nat):Int):=by rw[w8i (x:=((n%128:Nat):Int)) (by omega) (by omega),w8i (by omega) (by omega)];rfl
  have w2:IntKind.wrap .i64 ((n/128:Nat):Int)=((n/128:Nat):Int):=w64 (by omega) (by omega)
  simp only[hg,decide_true,cond_true,tmod_n,tdiv_n,w1,w2]
  rw[add_eq _ _ (by simp;omega)]
  rfl
 ·have hg:¬(n:Int)≥128:=by omega
  simp only[hg,decide_false,cond_false]
theorem wBool_eq (b:List Int) (x:Bool) (hb:b.length≤2^40):O_codec_Writer_Bool ((b,0),x)=some (b++[if x then 1 else 0],0):=by
 unfold O_codec_Writer_Bool
 cases x
 ·simp only[cond_false];rw[add_eq _ _ (by simp;omega)];rfl
 ·simp only[cond_true];rw[add_eq _ _ (by simp;omega)];rfl
theorem wBytes_eq (b:List Int) (hb:b.length≤2^40):O_codec_Writer_Bytes (b,0)=some ((b,0),(b,0)):=by
 unfold O_codec_Writer_Bytes
 have hm:(([]:List Int).length+b.length)*(1+1)≤most:=by unfold most;simp;omega
 simp only[bne_self_eq_false,cond_false,hm,decide_true,cond_true,List.nil_append]
def bytesIn (l:List Int):Prop:=(∀x∈l,0≤x∧x<256)∧l.length≤2^36
theorem bytesIn_cons {x:Int} {r:List Int} (h:bytesIn (x::r)):bytesIn r∧0≤x∧x<256:=⟨⟨fun y hy=>h.1 y (by simp[hy]),by have:=h.2;simp at this;omega⟩,h.1 x (by simp)⟩
theorem take_eq (b:List Int) (n:Nat):O_codec_Reader_take ((b,0),(n:Int))=some (if n≤b.length then ((b.drop n,0),b.take n,true) else ((b,4),[],false)):=by
 unfold O_codec_Reader_take
 by_cases h:n≤b.length
 ·have h1:¬(n:Int)>(b.length:Int):=by omega
  have h2:0≤n∧n≤b.length:=by omega
  have h3:n≤b.length∧b.length≤b.length:=by omega
  have h4:(b.drop n).take (b.length-n)=b.drop n:=by rw[List.take_of_length_le (by simp)]
  simp only[bne_self_eq_false,beq_self_eq_true,cond_true,h1,decide_false,Option.bind_some,cond_false,Int.natCast_nonneg,decide_true,Int.toNat_natCast,h2,h3,and_self,h,if_true,h4,List.drop_zero,Nat.sub_zero]
 ·have h1:(n:Int)>(b.length:Int):=by omega
  simp only[bne_self_eq_false,beq_self_eq_true,cond_true,h1,decide_true,Option.bind_some,if_neg h,O_codec_Reader_Fail]
theorem take_bad (b:List Int) (e n:Int) (he:e≠0):O_codec_Reader_take ((b,e),n)=some ((b,e),[],false):=by
 unfold O_codec_Reader_take O_codec_Reader_Fail
 have h1:(e != 0)=true:=by simpa using he
 have h2:(e==0)=false:=by simpa using he
 simp only[h1,h2,Bool.true_beq,Bool.not_true,cond_false,Option.bind_some,cond_true]
theorem or_add {acc y:Nat} (i:Nat) (h:acc<2^(7*i)):acc|||(y*2^(7*i))=acc+y*2^(7*i):=by
 have:=Nat.two_pow_add_eq_or_of_lt h y
 rw[Nat.mul_comm,Nat.or_comm,←this,Nat.add_comm]
theorem and127 (n:Nat):n&&&127=n%128:=Nat.and_two_pow_sub_one_eq_mod n 7
theorem low7 {c:Int} (h:0≤c) (h2:c<256):(BitVec.ofInt (IntKind.bits .u8) c&&&BitVec.ofInt (IntKind.bits .u8) 127).toNat=c.toNat%128:=by
 obtain⟨n,rfl⟩:=Int.eq_ofNat_of_zero_le h
 have e:BitVec.ofInt (IntKind.bits .u8) (n:Int)=BitVec.ofNat 8 n:=by simp[IntKind.bits]
 rw[e]
 show (BitVec.ofNat 8 n&&&BitVec.ofNat 8 127).toNat=_
 rw[BitVec.toNat_and,BitVec.toNat_ofNat,BitVec.toNat_ofNat,Nat.mod_eq_of_lt (by omega:n<2^8),Nat.mod_eq_of_lt (by decide:127<2^8),and127]
 rfl
theorem or64 {a b:Nat} (ha:a<2^64) (hb:b<2^64):(BitVec.ofInt (IntKind.bits .i64) (a:Int)|||BitVec.ofInt (IntKind.bits .i64) (b:Int)).toNat=a|||b:=by
 have e:∀n:Nat,BitVec.ofInt (IntKind.bits .i64) (n:Int)=BitVec.ofNat 64 n:=fun n=>by simp[IntKind.bits]
 rw[e,e]
 show (BitVec.ofNat 64 a|||BitVec.ofNat 64 b).toNat=_
 rw[BitVec.toNat_or,BitVec.toNat_ofNat,BitVec.toNat_ofNat,Nat.mod_eq_of_lt ha,Nat.mod_eq_of_lt hb]
theorem more_eq {acc c:Int} {i:Nat} (hi:i<8) (h0:0≤acc) (h1:acc<128^i) (hc:0≤c) (hc2:c<256):
 IntKind.wrap .i64 (((BitVec.ofInt (IntKind.bits .i64) acc|||BitVec.ofInt (IntKind.bits .i64) (IntKind.wrap .i64 ((IntKind.wrap .i64 ((IntKind.wrap .u8 (((BitVec.ofInt (IntKind.bits .u8) c&&&BitVec.ofInt (IntKind.bits .u8) 127).toNat:Nat)))))*2^min (Int.toNat (IntKind.wrap .u64 ((IntKind.wrap .i64 (7*(i:Int)))))) (IntKind.bits .i64)))).toNat:Nat))=acc+(c.toNat%128:Nat)*128^i:=by
 have hs:IntKind.wrap .u64 (IntKind.wrap .i64 (7*(i:Int)))=((7*i:Nat):Int):=by
  rw[w64 (by omega) (by omega)]
  exact Go.IntWalk.u64_in _ (by omega)
 have hmin:min (7*i) (IntKind.bits .i64)=7*i:=by unfold IntKind.bits;simp only;omega
 obtain⟨a,rfl⟩:=Int.eq_ofNat_of_zero_le h0
 have hpow:(128:Nat)^i=2^(7*i):=by rw[Nat.pow_mul]
 have hpi:((128:Int)^i)=((2^(7*i):Nat):Int):=by rw[←hpow];simp
 have ha:a<2^(7*i):=by rw[hpi]at h1;omega
 have hp49:2^(7*i)≤2^49:=Nat.pow_le_pow_right (by decide) (by omega)
 have hy:c.toNat%128<128:=Nat.mod_lt _ (by decide)
 have hmul:(c.toNat%128)*2^(7*i)≤127*2^(7*i):=Nat.mul_le_mul_right _ (by omega)
 rw[low7 hc hc2,hs,Int.toNat_natCast,hmin,w8i (x:=((c.toNat%128:Nat):Int)) (by omega) (by omega),w64 (x:=((c.toNat%128:Nat):Int)) (by omega) (by omega)]
 have e1:((c.toNat%128:Nat):Int)*2^(7*i)=(((c.toNat%128)*2^(7*i):Nat):Int):=by simp
 have hor:=or_add (y:=c.toNat%128) i ha
 rw[e1,hpi,←Int.natCast_mul]
 generalize c.toNat%128*2^(7*i)=z at *
 generalize 2^(7*i)=q at *
 rw[w64 (x:=(z:Int)) (by omega) (by omega),or64 (by omega) (by omega),hor]
 exact w64 (by omega) (by omega)
def pNum (s:List Int×Int):(List Int×Int)×Int:=if s.2=0 then (((rdN 8 0 0 s.1).1,(rdN 8 0 0 s.1).2.1),(rdN 8 0 0 s.1).2.2) else (s,0)
theorem rNum_eq (s:List Int×Int) (hb:bytesIn s.1):O_codec_Reader_Number s=some (pNum s):=by
 obtain⟨b,e⟩:=s
 unfold O_codec_Reader_Number pNum
 by_cases he:e=0
 ·subst he
  simp only[if_true]
  rw[rdLoop (fun b acc i=>(b,(0:Int),acc,i)) (fun r e v=>((r,e),v)) bytesIn (fun x r h=>bytesIn_cons h) (fun b acc i hi h0 h1 hb=>⟨fun hn=>?_,fun c r hcr hc hc2=>⟨fun h=>?_,fun h h'=>?_,fun h=>?_⟩⟩) (fun b acc hb h0 h1=>?_) hb]
  ·have hi':(i:Int)<8:=by omega
   subst hn
   have ht:=take_eq [] 1
   simp only[List.length_nil,if_neg (show ¬1≤0 by omega),Int.natCast_one]at ht
   simp only[hi',decide_true,cond_true,ht,Option.bind_some,Bool.not_false]
   exact⟨_,rfl,rfl⟩
  all_goals
   first
   |have hi':(i:Int)<8:=by omega
    subst hcr
    have ht:=take_eq (c::r) 1
    simp only[List.length_cons,if_pos (show 1≤r.length+1 by omega),Int.natCast_one,List.drop_succ_cons,List.drop_zero,List.take_succ_cons,List.take_zero]at ht
    have hg:([c]:List Int)[0]? = some c:=rfl
    have hs:¬IntKind.wrap .u64 (IntKind.wrap .i64 (7*(i:Int)))<0:=by
     rw[w64 (by omega) (by omega),Go.IntWalk.u64_in _ (by omega)];omega
    simp only[hi',decide_true,cond_true,ht,Option.bind_some,Bool.not_true,cond_false,hg,hs,decide_false,more_eq hi h0 h1 hc hc2]
   |skip
  ·have e1:(c==0)=true:=by simp[h.1]
   have e2:(i:Int)>0:=by omega
   simp only[e1,e2,beq_self_eq_true,cond_true,decide_true,Option.bind_some,O_codec_Reader_Fail]
   exact⟨_,rfl,rfl⟩
  ·have e1:(bif (c==0)==true then some (decide ((i:Int)>0)) else some false)=some false:=by
    by_cases hc0:c=0
    ·have hi0:i=0:=by omega
     subst hi0
     simp[hc0]
    ·have:(c==0)=false:=by simpa using hc0
     simp[this]
   have e3:c.toNat%128=c.toNat:=by omega
   simp only[e1,Option.bind_some,cond_false,h',decide_true,cond_true,e3,Int.toNat_of_nonneg hc]
   exact⟨_,rfl,rfl⟩
  ·have e1:(c==0)=false:=by simp;omega
   have e3:((c.toNat%128:Nat):Int)=c-128:=by omega
   simp only[e1,Bool.false_beq,Bool.not_true,cond_false,Option.bind_some,h,decide_false,e3,wsucc (show i<2^62 by omega)]
  ·have h8:¬((8:Int)<8):=by omega
   simp only[h8,decide_false,cond_false,O_codec_Reader_Fail]
   exact⟨_,rfl,rfl⟩
 ·rw[if_neg he]
  rw[iterL_inr (x:=Sum.inl (b,e,(0:Int))) ?_]
  ·rfl
  ·have h8:(0:Int)<8:=by decide
   simp only[h8,decide_true,cond_true,take_bad b e 1 he,Option.bind_some,Bool.not_false]
end Go.Ideal.Seat
set_option linter.unusedVariables false
set_option linter.unusedSimpArgs false
namespace Go.Ideal.Seat
open Go.Ideal.Plain
abbrev Rd (α:Type):=List Int→Except Int (α×List Int)
def Rd.then {α β:Type} (m:Rd α) (f:α→Rd β):Rd β:=fun l=>match m l with
 |.ok p=>f p.1 p.2
 |.error e=>.error e
def rNum:Rd Int:=fun l=>if (rdN 8 0 0 l).2.1=0 then .ok ((rdN 8 0 0 l).2.2,(rdN 8 0 0 l).1) else .error (rdN 8 0 0 l).2.1
theorem rNum_numB {n:Nat} (h:n≤72057594037927935) (r:List Int):rNum (numB n++r) = .ok ((n:Int),r):=by
 unfold rNum
 rw[rdN_numB 8 0 n 0 r (by omega) (by omega) (by omega)]
 simp
theorem bytesIn_right {a b:List Int} (h:bytesIn (a++b)):bytesIn b:=⟨fun x hx=>h.1 x (by simp[hx]),by have:=h.2;simp at this;omega⟩
structure Runs {α:Type} (O:List Int×Int→Option ((List Int×Int)×α)) (m:Rd α):Prop where
 ok:∀b,bytesIn b→∀p,m b = .ok p→O (b,0)=some ((p.2,0),p.1)
 error:∀b,bytesIn b→∀e,m b = .error e→e≠0∧∃b' v,O (b,0)=some ((b',e),v)
 bad:∀b e,e≠0→∃v,O (b,e)=some ((b,e),v)
theorem pNum_ok {b r:List Int} {v:Int} (h:rNum b = .ok (v,r)):pNum (b,0)=((r,0),v):=by
 unfold rNum at h
 split at h
 ·rename_i h0
  injection h with h
  simp only[Prod.mk.injEq]at h
  unfold pNum
  simp only[if_true,h0,h.1,h.2]
 ·cases h
theorem pNum_error {b:List Int} {e:Int} (h:rNum b = .error e):e≠0∧∃b' v,pNum (b,0)=((b',e),v):=by
 unfold rNum at h
 split at h
 ·cases h
 ·rename_i h0
  injection h with h
  unfold pNum
  simp only[if_true,h]
  exact⟨by rw[←h];exact h0,_,_,rfl⟩
theorem rNum_bad (b:List Int) {e:Int} (h:e≠0):O_codec_Reader_Number (b,e)=some ((b,e),0):=by
 unfold O_codec_Reader_Number
 rw[iterL_inr (x:=Sum.inl (b,e,(0:Int))) ?_]
 ·rfl
 ·have h8:(0:Int)<8:=by decide
  simp only[h8,decide_true,cond_true,take_bad b e 1 h,Option.bind_some,Bool.not_false]
theorem runs_num:Runs O_codec_Reader_Number rNum where
 ok b hb p h:=by rw[rNum_eq _ hb,pNum_ok (v:=p.1) (r:=p.2) h]
 error b hb e h:=by
  obtain⟨h1,b',v,h2⟩:=pNum_error h
  exact⟨h1,b',v,by rw[rNum_eq _ hb,h2]⟩
 bad b e h:=⟨0,rNum_bad b h⟩
structure RefR (b:List Int) {α:Type} (F:Int→Option (α×Int×Int)) (m:Rd α):Prop where
 ok:∀k:Nat,k≤b.length→∀p,m (b.drop k) = .ok p→∃j:Nat,j≤b.length∧p.2=b.drop j∧F k=some (p.1,(j:Int),0)
 error:∀k:Nat,k≤b.length→∀e,m (b.drop k) = .error e→e≠0∧∃v j,F k=some (v,j,e)
end Go.Ideal.Seat
set_option linter.unusedVariables false
set_option linter.unusedSimpArgs false
namespace Go.Ideal.Seat
open Go.Ideal.Plain
def rBool:Rd Bool:=fun l=>match l with
 |[]=>.error 4
 |x::r=>if x>1 then .error 6 else .ok (x==1,r)
theorem fail_ok (b:List Int) (e:Int):O_codec_Reader_Fail ((b,0),e)=some (b,e):=by unfold O_codec_Reader_Fail;simp
theorem byte_bad (b:List Int) {e:Int} (he:e≠0):O_codec_Reader_Byte (b,e)=some ((b,e),0):=by
 unfold O_codec_Reader_Byte
 rw[take_bad b e 1 he];rfl
theorem runs_bool:Runs O_codec_Reader_Bool rBool where
 ok b hb p h:=by
  unfold rBool at h
  cases b with
  |nil=>cases h
  |cons x r=>
   simp only at h
   split at h
   ·cases h
   ·rename_i hx
    injection h with h
    have ht:=take_eq (x::r) 1
    simp only[List.length_cons,if_pos (show 1≤r.length+1 by omega),Int.natCast_one,List.drop_succ_cons,List.drop_zero,List.take_succ_cons,List.take_zero]at ht
    unfold O_codec_Reader_Bool O_codec_Reader_Byte
    have hg:([x]:List Int)[0]? = some x:=rfl
    simp only[ht,Option.bind_some,Bool.not_true,cond_false,hg,hx,decide_false]
    rw[←h]
 error b hb e h:=by
  unfold rBool at h
  cases b with
  |nil=>
   injection h with h
   have ht:=take_eq [] 1
   simp only[List.length_nil,if_neg (show ¬1≤0 by omega),Int.natCast_one]at ht
   unfold O_codec_Reader_Bool O_codec_Reader_Byte
   have h1:¬(0:Int)>1:=by decide
   simp only[ht,Option.bind_some,Bool.not_false,cond_true,h1,decide_false,cond_false]
   exact⟨by rw[←h];decide,_,_,by rw[h]⟩
  |cons x r=>
   simp only at h
   split at h
   ·rename_i hx
    injection h with h
    have ht:=take_eq (x::r) 1
    simp only[List.length_cons,if_pos (show 1≤r.length+1 by omega),Int.natCast_one,List.drop_succ_cons,List.drop_zero,List.take_succ_cons,List.take_zero]at ht
    unfold O_codec_Reader_Bool O_codec_Reader_Byte
    have hg:([x]:List Int)[0]? = some x:=rfl
    simp only[ht,Option.bind_some,Bool.not_true,cond_false,hg,hx,decide_true,cond_true,fail_ok]
    exact⟨by rw[←h];decide,_,_,by rw[h]⟩
   ·cases h
 bad b e he:=by
  unfold O_codec_Reader_Bool
  have h1:¬(0:Int)>1:=by decide
  simp only[byte_bad b he,Option.bind_some,h1,decide_false,cond_false]
  exact⟨_,rfl⟩
theorem newReader_eq (b:List Int) (h:b.length≤2^36):O_codec_NewReader b=some (b,0):=by
 unfold O_codec_NewReader
 have hm:(([]:List Int).length+b.length)*(1+1)≤most:=by unfold most;simp;omega
 simp only[hm,decide_true,cond_true,List.nil_append]
theorem done_eq (b:List Int) (e:Int):O_codec_Reader_Done (b,e)=some ((b,e),if e=0 then (if b=[] then 0 else 5) else e):=by
 unfold O_codec_Reader_Done
 by_cases he:e=0
 ·subst he
  cases b with
  |nil=>rfl
  |cons x r=>
   have:((((x::r).length:Nat):Int)>0):=by simp only[List.length_cons];omega
   simp[this]
 ·have:(e==0)=false:=by simpa using he
  simp[this,he]
end Go.Ideal.Seat
set_option linter.unusedVariables false
set_option linter.unusedSimpArgs false
namespace Go.Ideal.Seat
open Go.Ideal.Plain
end Go.Ideal.Seat
set_option linter.unusedVariables false
set_option linter.unusedSimpArgs false
namespace Go.Ideal.Seat
open Go.Ideal.Plain
theorem foldl_app {E:Type} (g:E→List Int):∀(l:List E) (b:List Int),l.foldl (fun o e=>o++g e) b=b++l.flatMap g
 |[],b=>by simp
 |e::l,b=>by simp[foldl_app g l]
end Go.Ideal.Seat
