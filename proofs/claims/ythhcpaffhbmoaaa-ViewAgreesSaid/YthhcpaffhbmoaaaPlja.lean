/- Signs as bytes: plain facts. -/
import Derived.Test.YthhcpaffhbmoaaaJc
import Derived.Test.YthhcpaffhbmoaaaSj
set_option linter.unusedVariables false
set_option linter.unusedSimpArgs false
namespace Go.Ideal.Plain
def encB (r:Int):List UInt8:=(Utf8.encode r).data.toList
def encN (c:Nat):List UInt8:=
 let b (n:Nat):UInt8:=UInt8.ofNat n
 if c<0x80 then [b c]
 else if c<0x800 then [b (0xC0+c/64),b (0x80+c%64)]
 else if c<0x10000 then [b (0xE0+c/4096),b (0x80+c/64%64),b (0x80+c%64)]
 else [b (0xF0+c/262144),b (0x80+c/4096%64),b (0x80+c/64%64),b (0x80+c%64)]
def codeOk (r:Int):Bool:=(decide (0≤r)&&decide (r<55296))||(decide (57344≤r)&&decide (r≤1114111))
theorem valid_eq (r:Int):Utf8.valid r=codeOk r:=by
 unfold Utf8.valid codeOk
 rfl
theorem enc_aux (c:Nat):(if c<0x80 then (⟨#[UInt8.ofNat c]⟩:ByteArray) else if c<0x800 then ⟨#[UInt8.ofNat (0xC0+c/64),UInt8.ofNat (0x80+c%64)]⟩
 else if c<0x10000 then ⟨#[UInt8.ofNat (0xE0+c/4096),UInt8.ofNat (0x80+c/64%64),UInt8.ofNat (0x80+c%64)]⟩
 else ⟨#[UInt8.ofNat (0xF0+c/262144),UInt8.ofNat (0x80+c/4096%64),UInt8.ofNat (0x80+c/64%64),UInt8.ofNat (0x80+c%64)]⟩).data.toList=encN c:=by
 unfold encN
 simp only
 split
 ·rfl
 ·split
  ·rfl
  ·split<;>rfl
theorem encB_eq (r:Int):encB r=encN (if codeOk r then r.toNat else 65533):=enc_aux _
theorem encN_len (c:Nat):1≤(encN c).length∧(encN c).length≤4:=by
 unfold encN
 split
 ·simp
 ·split
  ·simp
  ·split<;>simp
theorem encB_len (r:Int):1≤(encB r).length∧(encB r).length≤4:=by rw[encB_eq];exact encN_len _
theorem encB_bad {r:Int} (h:codeOk r=false):encB r=encB 65533:=by
 rw[encB_eq,encB_eq,h];rfl
theorem u8_inj {a b:Nat} (ha:a<256) (hb:b<256) (h:UInt8.ofNat a=UInt8.ofNat b):a=b:=by
 have:=congrArg UInt8.toNat h
 simp only[UInt8.toNat_ofNat']at this
 omega
theorem encN_inj {a b:Nat} (ha:a<1114112) (hb:b<1114112) (h:encN a=encN b):a=b:=by
 have hl:=congrArg List.length h
 unfold encN at h hl
 by_cases a1:a<0x80<;>by_cases a2:a<0x800<;>by_cases a3:a<0x10000<;>by_cases b1:b<0x80<;>by_cases b2:b<0x800<;>by_cases b3:b<0x10000<;>(try omega)<;>
  simp only[a1,a2,a3,b1,b2,b3,if_true,if_false,List.length_cons,List.length_nil,List.cons.injEq,and_true]at h hl<;>(try omega)
 ·exact u8_inj (by omega) (by omega) h
 ·obtain⟨h1,h2⟩:=h
  have:=u8_inj (by omega) (by omega) h1
  have:=u8_inj (by omega) (by omega) h2
  omega
 ·obtain⟨h1,h2,h3⟩:=h
  have:=u8_inj (by omega) (by omega) h1
  have:=u8_inj (by omega) (by omega) h2
  have:=u8_inj (by omega) (by omega) h3
  omega
 ·obtain⟨h1,h2,h3,h4⟩:=h
  have:=u8_inj (by omega) (by omega) h1
  have:=u8_inj (by omega) (by omega) h2
  have:=u8_inj (by omega) (by omega) h3
  have:=u8_inj (by omega) (by omega) h4
  omega
theorem codeOk_lt {r:Int} (h:codeOk r=true):r.toNat<1114112:=by
 unfold codeOk at h
 simp only[Bool.or_eq_true,Bool.and_eq_true,decide_eq_true_eq]at h
 omega
theorem encB_inj {a b:Int} (ha:codeOk a=true) (hb:codeOk b=true) (h:encB a=encB b):a=b:=by
 rw[encB_eq,encB_eq,ha,hb]at h
 simp only[if_true]at h
 have:=encN_inj (codeOk_lt ha) (codeOk_lt hb) h
 unfold codeOk at ha hb
 simp only[Bool.or_eq_true,Bool.and_eq_true,decide_eq_true_eq]at ha hb
 omega
def ints (l:List UInt8):List Int:=l.map fun c=>((c.toNat:Nat):Int)
theorem ints_back (l:List UInt8):(ints l).map (fun n=>UInt8.ofNat (Int.toNat n))=l:=by
 unfold ints
 rw[List.map_map]
 conv=>rhs;rw[←List.map_id l]
 refine List.map_congr_left fun a _=>?_
 simp
end Go.Ideal.Plain
set_option linter.unusedVariables false
set_option linter.unusedSimpArgs false
namespace Go.Ideal.Plain
theorem w64 {x:Int} (h1:-9223372036854775808≤x) (h2:x≤9223372036854775807):IntKind.wrap .i64 x=x:=Go.IntWalk.i64_in _ ⟨h1,h2⟩
section
variable {S X A E:Type}
theorem foldLoop {l:List E} (mk:A→Int→S) (g:A→E→A) (inv:Nat→A→Prop) {fin:A→X} {F:S→Option (S⊕X)} {a:A} (h0:inv 0 a)
 (h1:∀a i e,l[i]? = some e→i<l.length→inv i a→F (mk a i)=some (.inl (mk (g a e) ((i+1:Nat):Int)))∧inv (i+1) (g a e))
 (h2:∀a,inv l.length a→F (mk a l.length)=some (.inr (fin a))):iterL F (mk a 0)=some (fin (l.foldl g a)):=by
 rw[iter_run (l:=l) (mk:=mk) (step:=stepS g) (fin:=fun a=>some (fin a)) inv (fun a i e he hv=>?_) (fun a i e a' he hv hs=>?_) (fun a hv=>?_) h0,runL_fold]
 ·rw[(h1 a i e he (getE_bound he) hv).1];rfl
 ·simp only[stepS,Option.some.injEq,Sum.inl.injEq]at hs
  rw[←hs];exact(h1 a i e he (getE_bound he) hv).2
 ·rw[h2 a hv];rfl
theorem runLoop {l:List E} (mk:A→Int→S) (step:A→Nat→E→A⊕X) (inv:Nat→A→Prop) {fin:A→X} {F:S→Option (S⊕X)} {a:A} (h0:inv 0 a)
 (h1:∀a i e,l[i]? = some e→i<l.length→inv i a→(∃a',step a i e = .inl a'∧F (mk a i)=some (.inl (mk a' ((i+1:Nat):Int)))∧inv (i+1) a')∨∃x,step a i e = .inr x∧F (mk a i)=some (.inr x))
 (h2:∀a,inv l.length a→F (mk a l.length)=some (.inr (fin a))):iterL F (mk a 0)=runL (fun a i e=>some (step a i e)) (fun a=>some (fin a)) 0 a l:=by
 refine iter_run (l:=l) (mk:=mk) inv (fun a i e he hv=>?_) (fun a i e a' he hv hs=>?_) (fun a hv=>?_) h0
 ·rcases h1 a i e he (getE_bound he) hv with ⟨a',e1,e2,_⟩|⟨x,e1,e2⟩<;>simp[e1,e2]
 ·rcases h1 a i e he (getE_bound he) hv with ⟨a'',e1,e2,e3⟩|⟨x,e1,e2⟩
  ·simp only[e1,Option.some.injEq,Sum.inl.injEq]at hs;rw[←hs];exact e3
  ·simp[e1]at hs
 ·rw[h2 a hv];rfl
def upTo (g:Nat→A→A):Nat→A→A
 |0,a=>a
 |n+1,a=>g n (upTo g n a)
theorem countLoop (n:Nat) (mk:A→Int→S) (g:Nat→A→A) (inv:Nat→A→Prop) {fin:A→X} {F:S→Option (S⊕X)} {a:A} (h0:inv 0 a)
 (h1:∀a i,i<n→inv i a→F (mk a i)=some (.inl (mk (g i a) ((i+1:Nat):Int)))∧inv (i+1) (g i a))
 (h2:∀a,inv n a→F (mk a n)=some (.inr (fin a))):iterL F (mk a 0)=some (fin (upTo g n a)):=by
 have key:∀m,m≤n→inv m (upTo g m a)∧iterL F (mk a 0)=iterL F (mk (upTo g m a) (m:Nat)):=by
  intro m
  induction m with
  |zero=>intro _;exact⟨h0,rfl⟩
  |succ m ih=>
   intro hm
   obtain⟨i1,i2⟩:=ih (by omega)
   obtain⟨j1,j2⟩:=h1 _ m (by omega) i1
   exact⟨j2,i2.trans (iterL_inl j1)⟩
 obtain⟨i1,i2⟩:=key n (Nat.le_refl _)
 rw[i2,iterL_inr (h2 _ i1)]
theorem allLoop {X:Type} {l:List E} (p:E→Bool) {F:Int→Option (Int⊕(Bool⊕X))} {z:X} (h1:∀(i:Nat) e,l[i]? = some e→F i=some (if p e=true then .inl ((i+1:Nat):Int) else .inr (.inl false)))
 (h2:F (l.length:Int)=some (.inr (.inr z))):iterL F 0=some (if l.all p=true then .inr z else .inl false):=by
 rw[iter_run (l:=l) (mk:=fun(_:Unit) i=>i) (step:=fun _ _ e=>if p e=true then some (.inl ()) else some (.inr (.inl false))) (fin:=fun _=>some (.inr z)) (fun _ _=>True) ?_ (fun _ _ _ _ _ _ _=>trivial) ?_ trivial]
 ·have key:∀(r:List E) (i:Nat),runL (A:=Unit) (X:=Bool⊕X) (fun _ _ e=>if p e=true then some (.inl ()) else some (.inr (.inl false))) (fun _=>some (.inr z)) i () r=some (if r.all p=true then .inr z else .inl false):=by
   intro r
   induction r with
   |nil=>intro i;rfl
   |cons c r ih=>
    intro i
    simp only[runL]
    by_cases hc:p c=true
    ·have:(c::r).all p=r.all p:=by rw[List.all_cons,hc];rfl
     rw[if_pos hc,this]
     exact ih (i+1)
    ·have:(c::r).all p=false:=by rw[List.all_cons,(Bool.not_eq_true _).mp hc];rfl
     rw[if_neg hc,this];rfl
  exact key l 0
 ·intro _ i c hc _
  rw[h1 i c hc]
  by_cases hk:p c=true
  ·rw[if_pos hk,if_pos hk];rfl
  ·rw[if_neg hk,if_neg hk];rfl
 ·intro _ _;rw[h2];rfl
theorem sameLoop {X:Type} {l m:List E} (hl:l.length=m.length) (p:E→E→Bool) {F:Int→Option (Int⊕(Bool⊕X))} {z:X} (h1:∀(i:Nat) d e,l[i]? = some d→m[i]? = some e→F i=some (if p d e=true then .inl ((i+1:Nat):Int) else .inr (.inl false)))
 (h2:F (l.length:Int)=some (.inr (.inr z))):iterL F 0=some (if (l.zip m).all (fun x=>p x.1 x.2)=true then .inr z else .inl false):=by
 refine allLoop (l:=l.zip m) (fun x=>p x.1 x.2) (fun i e he=>?_) ?_
 ·rw[List.getElem?_zip_eq_some]at he
  exact h1 i e.1 e.2 he.1 he.2
 ·rw[List.length_zip,←hl,Nat.min_self];exact h2
theorem zip_all_eq {l m:List E} (hl:l.length=m.length) {p:E×E→Bool} (hp:∀x,p x=true↔x.1=x.2):((l.zip m).all p=true)↔l=m:=by
 induction l generalizing m with
 |nil=>cases m<;>simp_all
 |cons a l ih=>
  cases m with
  |nil=>simp at hl
  |cons b m=>
   simp only[List.zip_cons_cons,List.all_cons,Bool.and_eq_true,hp,List.cons.injEq]
   rw[ih (by simpa using hl)]
theorem replicate_fold {n:Nat} (c d:E):upTo (fun i a=>a.set i c) n (List.replicate n d)=List.replicate n c:=by
 have key:∀m k,upTo (fun i a=>a.set i c) m (List.replicate (m+k) d)=List.replicate m c++List.replicate k d:=by
  intro m
  induction m with
  |zero=>intro k;simp[upTo]
  |succ m ih=>
   intro k
   simp only[upTo]
   have:=ih (k+1)
   rw[show m+1+k=m+(k+1) by omega,this,List.set_append_right _ _ (by simp)]
   rw[List.replicate_succ' (n:=m),List.append_assoc]
   simp[List.replicate_succ]
 have:=key n 0
 simpa using this
theorem set_last {α:Type}:∀{l:List α} {a b:α},l.getLast? = some a→l.set (l.length-1) b=l.dropLast++[b]
 |[],_,_,h=>by simp at h
 |[x],a,b,h=>by simp
 |x::y::l,a,b,h=>by
  have ih:=set_last (l:=y::l) (a:=a) (b:=b) (by simpa using h)
  simp only[List.length_cons,Nat.add_sub_cancel]at ih ⊢
  simp only[List.set_cons_succ,List.dropLast_cons_cons,List.cons_append,ih]
theorem drop_last {α:Type} {l:List α} {a:α} (h:l.getLast? = some a):l.dropLast++[a]=l:=by
 rw[←set_last h,List.getLast?_eq_getElem?]at *
 have hi:=getE_bound h
 rw[List.getElem?_eq_getElem hi]at h
 injection h with h
 rw[←h,List.set_getElem_self]
end
end Go.Ideal.Plain
set_option linter.unusedVariables false
set_option linter.unusedSimpArgs false
namespace Go.Ideal.Seat
open Go.Ideal.Plain
abbrev Cell:=Int×Int×Int×Int
def cellOk (c:Cell):Bool:=decide (0≤c.2.1∧c.2.1≤256∧0≤c.2.2.1∧c.2.2.1≤256∧0≤c.2.2.2∧c.2.2.2<128)&&decide (32≤c.1∧c.1≤126∨160≤c.1)&&codeOk c.1
theorem ints_len (l:List UInt8):(ints l).length=l.length:=by simp[ints]
theorem runesBytes_eq (r:Int):F_runes_Bytes r=some (ints (encB r)):=by
 have h1:∀v:Int,(bif decide (((Utf8.encode v).data.toList).length≤most) then (some (((Utf8.encode v).data.toList).map fun c=>((c.toNat:Nat):Int))) else none)=some (ints (encB v)):=fun v=>by
  have:=(encB_len v).2
  have h:((Utf8.encode v).data.toList).length≤most:=by unfold encB at this;unfold most;omega
  simp only[h,decide_true,cond_true];rfl
 unfold F_runes_Bytes
 have key:(bif ((decide (r<0))==false) then (bif ((decide (r>1114111))==false) then (bif ((decide (r≥55296))==true) then (some (decide (r≤57343))) else (some false)) else (some true)) else (some true))=some (!codeOk r):=by
  unfold codeOk
  by_cases a:r<0<;>by_cases b:r>1114111<;>by_cases c:r≥55296<;>by_cases d:r≤57343<;>simp[a,b,c,d]<;>omega
 rw[key]
 simp only[Option.bind_some]
 cases hc:codeOk r with
 |true=>simp only[Bool.not_true,cond_false,Option.bind_some];exact h1 r
 |false=>simp only[Bool.not_false,cond_true,Option.bind_some];rw[h1,encB_bad hc]
theorem pen_eq (p:Int×Int×Int):F_cell_Pen p=some (decide (0≤p.1∧p.1≤256∧0≤p.2.1∧p.2.1≤256∧0≤p.2.2∧p.2.2<128)):=by
 unfold F_cell_Pen
 by_cases a:p.1≥0<;>by_cases b:p.1≤256<;>by_cases c:p.2.1≥0<;>by_cases d:p.2.1≤256<;>by_cases e:p.2.2≥0<;>by_cases f:p.2.2<128<;>simp[a,b,c,d,e,f]<;>omega
theorem cellRight_eq (c:Cell):F_cell_Right c=some (cellOk c):=by
 unfold F_cell_Right
 simp only[pen_eq,runesBytes_eq,Option.bind_some,ints_back]
 have hb:(encB c.1==encB 65533)=(!codeOk c.1||c.1==65533):=by
  cases hc:codeOk c.1 with
  |false=>rw[encB_bad hc];simp
  |true=>
   by_cases h:c.1=65533
   ·simp[h]
   ·have:encB c.1≠encB 65533:=fun e=>h (encB_inj hc (by decide) e)
    rw[beq_eq_false_iff_ne.2 this];simp[h]
 rw[hb]
 unfold cellOk
 generalize hk:codeOk c.1=k
 by_cases h5:c.1=65533
 ·have:k=true:=by rw[←hk,h5];decide
  subst this
  generalize decide (0≤c.2.1∧c.2.1≤256∧0≤c.2.2.1∧c.2.2.1≤256∧0≤c.2.2.2∧c.2.2.2<128)=q
  simp only[h5]
  cases q<;>decide
 ·generalize decide (0≤c.2.1∧c.2.1≤256∧0≤c.2.2.1∧c.2.2.1≤256∧0≤c.2.2.2∧c.2.2.2<128)=q
  have e1:decide (c.1<32) = !decide (32≤c.1):=by by_cases h:c.1<32<;>simp[h]<;>omega
  have e2:decide (c.1>126) = !decide (c.1≤126):=by by_cases h:c.1>126<;>simp[h]<;>omega
  have e3:decide (c.1<160) = !decide (160≤c.1):=by by_cases h:c.1<160<;>simp[h]<;>omega
  have e4:decide (32≤c.1∧c.1≤126∨160≤c.1)=(decide (32≤c.1)&&decide (c.1≤126)||decide (160≤c.1)):=by simp
  have e5:decide (160≤c.1)=true→decide (32≤c.1)=true:=by simp;omega
  have e6:(c.1==65533)=false:=by simpa using h5
  rw[e1,e2,e3,e4,e6]
  generalize decide (32≤c.1)=x1 at *
  generalize decide (c.1≤126)=x2 at *
  generalize decide (160≤c.1)=x3 at *
  cases q<;>cases k<;>cases x1<;>cases x2<;>cases x3<;>first|rfl|(simp at e5;done)
end Go.Ideal.Seat
set_option linter.unusedVariables false
set_option linter.unusedSimpArgs false
namespace Go.Ideal.Seat
open Go.Ideal.Plain
theorem sign_eq (r:Int):F_batonref08_Sign r=some (codeOk r):=by
 unfold F_batonref08_Sign codeOk
 by_cases a:r≥0<;>by_cases b:r≤1114111<;>by_cases c:r<55296<;>by_cases d:r>57343<;>simp[a,b,c,d]<;>omega
theorem w8 {n:Nat} (h:n<256):IntKind.u8.wrap (n:Int)=(((UInt8.ofNat n).toNat:Nat):Int):=by
 have:IntKind.u8.wrap (n:Int)=n:=by
  unfold IntKind.wrap
  simp only[IntKind.signed,IntKind.bits,Bool.false_and,Bool.false_eq_true,if_false]
  omega
 rw[this]
 simp only[UInt8.toNat_ofNat']
 omega
theorem refBytes_eq (r:Int):F_batonref08_Bytes r=some (ints (encB r)):=by
 unfold F_batonref08_Bytes
 have h1:∀c:Nat,c<1114112→(bif (decide ((c:Int)<128)) then (some ([(IntKind.wrap .u8 ((c:Int)))]:List (Int))) else (bif (decide ((c:Int)<2048)) then (some ([(IntKind.wrap .u8 ((IntKind.wrap .i64 (192+(IntKind.wrap .i64 (Int.tdiv (c:Int) 64)))))),(IntKind.wrap .u8 ((IntKind.wrap .i64 (128+(Int.tmod (c:Int) 64)))))]:List (Int))) else (bif (decide ((c:Int)<65536)) then (some ([(IntKind.wrap .u8 ((IntKind.wrap .i64 (224+(IntKind.wrap .i64 (Int.tdiv (c:Int) 4096)))))),(IntKind.wrap .u8 ((IntKind.wrap .i64 (128+(Int.tmod (IntKind.wrap .i64 (Int.tdiv (c:Int) 64)) 64))))),(IntKind.wrap .u8 ((IntKind.wrap .i64 (128+(Int.tmod (c:Int) 64)))))]:List (Int))) else (some ([(IntKind.wrap .u8 ((IntKind.wrap .i64 (240+(IntKind.wrap .i64 (Int.tdiv (c:Int) 262144)))))),(IntKind.wrap .u8 ((IntKind.wrap .i64 (128+(Int.tmod (IntKind.wrap .i64 (Int.tdiv (c:Int) 4096)) 64))))),(IntKind.wrap .u8 ((IntKind.wrap .i64 (128+(Int.tmod (IntKind.wrap .i64 (Int.tdiv (c:Int) 64)) 64))))),(IntKind.wrap .u8 ((IntKind.wrap .i64 (128+(Int.tmod (c:Int) 64)))))]:List (Int))))))=some (ints (encN c)):=fun c hc=>by
  have d:∀k:Nat,0<k→Int.tdiv (c:Int) (k:Int)=((c/k:Nat):Int):=fun k hk=>by rw[Int.tdiv_eq_ediv_of_nonneg (by omega)];rfl
  have m:∀n k:Nat,Int.tmod (n:Int) (k:Int)=((n%k:Nat):Int):=fun n k=>by rw[Int.tmod_eq_emod_of_nonneg (by omega)];rfl
  have w:∀n:Nat,n<2^62→IntKind.i64.wrap (n:Int)=n:=fun n hn=>Go.IntWalk.i64_in _ (by omega)
  have d64:=d 64 (by decide)
  have d4096:=d 4096 (by decide)
  have d262144:=d 262144 (by decide)
  simp only[Int.cast_ofNat_Int]at d64 d4096 d262144
  have m64:∀n:Nat,Int.tmod (n:Int) 64=((n%64:Nat):Int):=fun n=>m n 64
  have w64:∀a:Nat,∀n:Nat,a<1000→n<2^61→IntKind.i64.wrap ((a:Int)+(n:Int))=((a+n:Nat):Int):=fun a n ha hn=>by rw[←w (a+n) (by omega)];rfl
  simp only[d64,d4096,d262144,w _ (show c/64<2^62 by omega),w _ (show c/4096<2^62 by omega),w _ (show c/262144<2^62 by omega),m64]
  have a1:=w64 192 (c/64) (by omega) (by omega)
  have a2:=w64 128 (c%64) (by omega) (by omega)
  have a3:=w64 224 (c/4096) (by omega) (by omega)
  have a4:=w64 128 (c/64%64) (by omega) (by omega)
  have a5:=w64 240 (c/262144) (by omega) (by omega)
  have a6:=w64 128 (c/4096%64) (by omega) (by omega)
  simp only[Int.cast_ofNat_Int]at a1 a2 a3 a4 a5 a6
  simp only[a1,a2,a3,a4,a5,a6]
  unfold encN
  by_cases h1:c<128
  ·have:(c:Int)<128:=by omega
   simp only[this,decide_true,cond_true,h1,if_true,w8 (show c<256 by omega)];rfl
  ·have g1:¬(c:Int)<128:=by omega
   by_cases h2:c<2048
   ·have g2:(c:Int)<2048:=by omega
    simp only[g1,g2,decide_true,decide_false,cond_true,cond_false,h1,h2,if_true,if_false,w8 (show 192+c/64<256 by omega),w8 (show 128+c%64<256 by omega)];rfl
   ·have g2:¬(c:Int)<2048:=by omega
    by_cases h3:c<65536
    ·have g3:(c:Int)<65536:=by omega
     simp only[g1,g2,g3,decide_true,decide_false,cond_true,cond_false,h1,h2,h3,if_true,if_false,w8 (show 224+c/4096<256 by omega),w8 (show 128+c/64%64<256 by omega),w8 (show 128+c%64<256 by omega)];rfl
    ·have g3:¬(c:Int)<65536:=by omega
     simp only[g1,g2,g3,decide_false,cond_false,h1,h2,h3,if_false,w8 (show 240+c/262144<256 by omega),w8 (show 128+c/4096%64<256 by omega),w8 (show 128+c/64%64<256 by omega),w8 (show 128+c%64<256 by omega)];rfl
 rw[sign_eq,encB_eq]
 simp only[Option.bind_some]
 cases hc:codeOk r with
 |true=>
  have hr:(r.toNat:Int)=r:=by
   unfold codeOk at hc
   simp only[Bool.or_eq_true,Bool.and_eq_true,decide_eq_true_eq]at hc
   omega
  have:=h1 r.toNat (codeOk_lt hc)
  rw[hr]at this
  simp only[Bool.not_true,cond_false,Option.bind_some,if_true]
  exact this
 |false=>
  have:=h1 65533 (by decide)
  simp only[Bool.not_false,cond_true,Option.bind_some]
  exact this
theorem refCell_eq (c:Cell) (h:-2147483648≤c.1∧c.1≤2147483647):F_batonref09_Right c=some (cellOk c):=by
 unfold F_batonref09_Right
 have hw:IntKind.i64.wrap c.1=c.1:=Go.IntWalk.i64_in _ (by omega)
 rw[hw]
 simp only[sign_eq,Option.bind_some]
 have key:(bif ((decide (c.2.1<0))==false) then (bif ((decide (c.2.1>256))==false) then (bif ((decide (c.2.2.1<0))==false) then (bif ((decide (c.2.2.1>256))==false) then (bif ((decide (c.2.2.2<0))==false) then (some (decide (c.2.2.2>127))) else (some true)) else (some true)) else (some true)) else (some true)) else (some true))=some (!decide (0≤c.2.1∧c.2.1≤256∧0≤c.2.2.1∧c.2.2.1≤256∧0≤c.2.2.2∧c.2.2.2<128)):=by
  by_cases a:c.2.1<0<;>by_cases b:c.2.1>256<;>by_cases d:c.2.2.1<0<;>by_cases e:c.2.2.1>256<;>by_cases f:c.2.2.2<0<;>by_cases g:c.2.2.2>127<;>simp[a,b,d,e,f,g]<;>omega
 rw[key]
 simp only[Option.bind_some]
 unfold cellOk
 generalize decide (0≤c.2.1∧c.2.1≤256∧0≤c.2.2.1∧c.2.2.1≤256∧0≤c.2.2.2∧c.2.2.2<128)=q
 have e4:decide (32≤c.1∧c.1≤126∨160≤c.1)=(decide (32≤c.1)&&decide (c.1≤126)||decide (160≤c.1)):=by simp
 have e1:decide (c.1≥32)=decide (32≤c.1):=rfl
 have e3:decide (c.1≥160)=decide (160≤c.1):=rfl
 rw[e1,e3,e4]
 generalize codeOk c.1=k
 generalize decide (32≤c.1)=x1
 generalize decide (c.1≤126)=x2
 generalize decide (160≤c.1)=x3
 cases q<;>cases k<;>cases x1<;>cases x2<;>cases x3<;>rfl
end Go.Ideal.Seat
set_option linter.unusedVariables false
set_option linter.unusedSimpArgs false
namespace Go.Ideal.Plain
inductive Signs:List UInt8→Prop
 |nil:Signs []
 |cons {c:Int} {r:List UInt8} (hc:codeOk c=true) (h:Signs r):Signs (encB c++r)
def wid0 (b:Nat):Nat:=if b<128 then 1 else if b<224 then 2 else if b<240 then 3 else 4
theorem encN_head {c:Nat} (hc:c<1114112):∃b r,encN c=b::r∧(encN c).length=wid0 b.toNat:=by
 unfold encN
 simp only
 split
 ·exact⟨_,_,rfl,by simp[wid0,UInt8.toNat_ofNat'];omega⟩
 ·split
  ·refine⟨_,_,rfl,?_⟩
   have:(192+c/64)%256=192+c/64:=Nat.mod_eq_of_lt (by omega)
   simp only[List.length_cons,List.length_nil,wid0,UInt8.toNat_ofNat',Nat.reducePow,this]
   rw[if_neg (by omega),if_pos (by omega)]
  ·split
   ·refine⟨_,_,rfl,?_⟩
    have:(224+c/4096)%256=224+c/4096:=Nat.mod_eq_of_lt (by omega)
    simp only[List.length_cons,List.length_nil,wid0,UInt8.toNat_ofNat',Nat.reducePow,this]
    rw[if_neg (by omega),if_neg (by omega),if_pos (by omega)]
   ·refine⟨_,_,rfl,?_⟩
    have:(240+c/262144)%256=240+c/262144:=Nat.mod_eq_of_lt (by omega)
    simp only[List.length_cons,List.length_nil,wid0,UInt8.toNat_ofNat',Nat.reducePow,this]
    rw[if_neg (by omega),if_neg (by omega),if_neg (by omega)]
theorem encB_head {c:Int} (hc:codeOk c=true):∃b r,encB c=b::r∧(encB c).length=wid0 b.toNat:=by
 rw[encB_eq,hc];exact encN_head (codeOk_lt hc)
theorem enc_part {a b:Int} (ha:codeOk a=true) (hb:codeOk b=true) {r s:List UInt8} (h:encB a++r=encB b++s):a=b∧r=s:=by
 obtain⟨x,u,e1,l1⟩:=encB_head ha
 obtain⟨y,v,e2,l2⟩:=encB_head hb
 have hxy:x=y:=by rw[e1,e2]at h;simp at h;exact h.1
 have hl:(encB a).length=(encB b).length:=by rw[l1,l2,hxy]
 obtain⟨h1,h2⟩:=List.append_inj h hl
 exact⟨encB_inj ha hb h1,h2⟩
theorem signs_cons {c:Int} (hc:codeOk c=true) {r:List UInt8}:Signs (encB c++r)↔Signs r:=by
 refine⟨fun h=>?_,fun h=>.cons hc h⟩
 generalize hl:encB c++r=l at h
 cases h with
 |nil=>
  have:=(encB_len c).1
  have h2:=congrArg List.length hl
  simp only[List.length_append,List.length_nil]at h2;omega
 |cons hc' h'=>
  obtain⟨_,rfl⟩:=enc_part hc hc' hl
  exact h'
theorem signs_none {l:List UInt8} (hl:l≠[]) (h:∀c r,codeOk c=true→l≠encB c++r):¬Signs l:=fun hs=>by
 cases hs with
 |nil=>exact hl rfl
 |cons hc hr=>exact h _ _ hc rfl
end Go.Ideal.Plain
set_option linter.unusedVariables false
set_option linter.unusedSimpArgs false
namespace Go.Ideal.Seat
open Go.Ideal.Plain
theorem same_eq (a b:List Int) (h:a.length<2^60):F_batonref08_same (a,b)=some (decide (a=b)):=by
 unfold F_batonref08_same
 by_cases hl:a.length=b.length
 ·have hne:((((a.length):Nat):Int) != (((b.length):Nat):Int))=false:=by simp[hl]
  simp only[hne,cond_false]
  rw[iter_run (l:=a) (mk:=fun(_:Unit) i=>i) (step:=fun _ i e=>match b[i]? with|some e'=>if e=e' then some (.inl ()) else some (.inr (.inl false))|none=>none) (fin:=fun _=>some (.inr ((a.length:Int),false))) (fun _ _=>True) ?_ ?_ ?_ trivial]
  ·have key:∀(r:List Int) (i:Nat),i+r.length=b.length→runL (A:=Unit) (X:=Bool⊕(Int×Bool)) (fun _ i e=>match b[i]? with|some e'=>if e=e' then some (.inl ()) else some (.inr (.inl false))|none=>none) (fun _=>some (.inr ((a.length:Int),false))) i () r=some (if r=b.drop i then .inr ((a.length:Int),false) else .inl false):=by
    intro r
    induction r with
    |nil=>intro i hi;simp only[List.length_nil,Nat.add_zero]at hi;simp[runL,hi]
    |cons e r ih=>
     intro i hi
     simp only[List.length_cons]at hi
     have hb:i<b.length:=by omega
     simp only[runL,List.getElem?_eq_getElem hb]
     rw[List.drop_eq_getElem_cons hb]
     by_cases he:e=b[i]
     ·simp only[he,if_true,Option.bind_some,List.cons.injEq,true_and]
      exact ih (i+1) (by omega)
     ·rw[if_neg he,if_neg (fun h=>he (by injection h))];rfl
   rw[key a 0 (by omega)]
   simp only[List.drop_zero]
   by_cases hab:a=b<;>simp[hab]
  ·intro _ i e he _
   have hi:=getE_bound he
   have hi':((i:Int)<a.length):=by omega
   have hb:i<b.length:=by omega
   simp only[hi',decide_true,cond_true,Int.natCast_nonneg,Int.toNat_natCast,he,Option.bind_some,List.getElem?_eq_getElem hb]
   by_cases hee:e=b[i]
   ·simp[hee,wsucc (i:=i) (by omega)]
   ·have:(e != b[i])=true:=by simpa using hee
    simp only[this,cond_true,if_neg hee,Option.map_some]
  ·intro _ i e _ _ _ _;trivial
  ·intro _ _;simp
 ·have hne:((((a.length):Nat):Int) != (((b.length):Nat):Int))=true:=by simp;omega
  have:a≠b:=fun e=>hl (by rw[e])
  simp only[hne,cond_true,this,decide_false]
def comes:List UInt8→Int
 |[a]=>a.toNat
 |[a,b]=>((a.toNat:Int)-192)*64+b.toNat-128
 |[a,b,c]=>(((a.toNat:Int)-224)*64+b.toNat-128)*64+c.toNat-128
 |[a,b,c,d]=>((((a.toNat:Int)-240)*64+b.toNat-128)*64+c.toNat-128)*64+d.toNat-128
 |_=>-1
theorem u8lt (a:UInt8):a.toNat<256:=a.toNat_lt
theorem whole_fin (v:Int) (s:List UInt8) (hs:s.length≤4):(((F_batonref08_Sign v).bind fun r47=>(bif ((!r47)==false) then ((F_batonref08_Bytes v).bind fun r48=>((F_batonref08_same (r48,ints s)).bind fun r49=>(some (!r49)))) else (some true))).bind fun v50=>(bif v50 then (some (-1)) else (some v)))=some (if codeOk v=true∧encB v=s then v else -1):=by
 have hl:=(encB_len v).2
 rw[sign_eq,refBytes_eq]
 simp only[Option.bind_some]
 rw[same_eq _ _ (by rw[ints_len];omega)]
 have hi:(ints (encB v)=ints s)↔encB v=s:=⟨fun h=>by have:=congrArg (List.map fun n:Int=>UInt8.ofNat (Int.toNat n)) h;rwa [ints_back,ints_back]at this,fun h=>by rw[h]⟩
 cases hc:codeOk v with
 |false=>simp
 |true=>
  by_cases he:encB v=s
  ·simp[he]
  ·simp[he,hi]
def wholeStep (x:List Int) (s44:Int×Int):Option ((Int×Int)⊕(Int×Int×Bool)):=(bif (decide (s44.2<(((x.length):Nat):Int))) then (bif decide (0≤s44.2) then ((x[(s44.2).toNat]?).bind fun e45=>(some (Sum.inl ((IntKind.wrap .i64 ((IntKind.wrap .i64 ((IntKind.wrap .i64 (s44.1*64))+(IntKind.wrap .i64 (e45))))-128)),(IntKind.wrap .i64 (s44.2+1)))))) else none) else (some (Sum.inr (s44.1,(s44.2,(decide (s44.2<(((x.length):Nat):Int))))))))
noncomputable def wholeEnd (x:List Int) (v:Int):Option Int:=(((F_batonref08_Sign v).bind fun r47=>(bif ((!r47)==false) then ((F_batonref08_Bytes v).bind fun r48=>((F_batonref08_same (r48,x)).bind fun r49=>(some (!r49)))) else (some true))).bind fun v50=>(bif v50 then (some (-1)) else (some v)))
theorem whole_def (x:List Int):F_batonref08_Whole x=((bif (((((x.length):Nat):Int)==0)==false) then (some (decide ((((x.length):Nat):Int)>4))) else (some true)).bind fun v40=>(bif v40 then (some (-1)) else ((x[0]?).bind fun e41=>((bif (decide ((((x.length):Nat):Int)>1)) then (bif decide (0≤(((x.length):Nat):Int)) then ((([0,0,192,224,240]:List (Int))[((((x.length):Nat):Int)).toNat]?).bind fun e42=>(some (IntKind.wrap .i64 ((IntKind.wrap .i64 (e41))-e42)))) else none) else (some (IntKind.wrap .i64 (e41)))).bind fun v43=>((iterL (S:=Int×Int) (X:=Int×Int×Bool) (wholeStep x) (v43,1)).bind fun v46=>wholeEnd x v46.1))))):=rfl
theorem wholeStep_in {x:List Int} {v e:Int} {i:Nat} (h:x[i]? = some e) (hv:-1000000000000<v∧v<1000000000000) (he:0≤e∧e<256) (hi:i<100):wholeStep x (v,(i:Int))=some (.inl (v*64+e-128,((i+1:Nat):Int))):=by
 have hl:=getE_bound h
 have hl':(i:Int)<x.length:=by omega
 have w:∀y:Int,-400000000000000<y→y<400000000000000→IntKind.i64.wrap y=y:=fun y h1 h2=>Go.IntWalk.i64_in _ (by omega)
 unfold wholeStep
 simp only[hl',decide_true,cond_true,Int.natCast_nonneg,Int.toNat_natCast,h,Option.bind_some]
 rw[w (v*64) (by omega) (by omega),w e (by omega) (by omega),w (v*64+e) (by omega) (by omega),w (v*64+e-128) (by omega) (by omega),wsucc (by omega)]
theorem wholeStep_out {x:List Int} {v:Int}:wholeStep x (v,(x.length:Int))=some (.inr (v,(x.length:Int),false)):=by
 unfold wholeStep
 simp
theorem whole_run {x:List Int} (hx:∀e∈x,0≤e∧e<256) (h4:x.length≤4):∀(n i:Nat) (v:Int),i+n=x.length→-(300*100^i)<v∧v<300*100^i→iterL (wholeStep x) (v,(i:Int))=some ((x.drop i).foldl (fun v e=>v*64+e-128) v,(x.length:Int),false)
 |0,i,v,hi,_=>by
  have:i=x.length:=by omega
  subst this
  rw[iterL_inr wholeStep_out];simp
 |n+1,i,v,hi,hv=>by
  have hl:i<x.length:=by omega
  have he:=hx _ (List.getElem_mem hl)
  have hp:(100:Int)^(i+1)=100^i*100:=by rw[Int.pow_succ]
  have hp2:(100:Int)^i≤1000000:=by
   have:i=0∨i=1∨i=2∨i=3:=by omega
   rcases this with rfl|rfl|rfl|rfl<;>decide
  rw[iterL_inl (wholeStep_in (List.getElem?_eq_getElem hl) (by omega) he (by omega)),whole_run hx h4 n (i+1) _ (by omega) (by rw[hp];omega),List.drop_eq_getElem_cons hl]
  rfl
theorem whole_eq (s:List UInt8) (h:1≤s.length) (h4:s.length≤4):F_batonref08_Whole (ints s)=some (if codeOk (comes s)=true∧encB (comes s)=s then comes s else -1):=by
 have w:∀x:Int,-4000000000<x→x<4000000000→IntKind.i64.wrap x=x:=fun x h1 h2=>Go.IntWalk.i64_in _ (by omega)
 rw[←whole_fin (comes s) s h4,whole_def]
 have hx:∀e∈ints s,0≤e∧e<256:=fun e he=>by
  obtain⟨c,_,rfl⟩:=List.mem_map.1 he
  have:=u8lt c
  omega
 have hr:=fun v hv=>whole_run hx (by rw[ints_len];exact h4) (s.length-1) 1 v (by rw[ints_len];omega) hv
 rcases s with _|⟨a,_|⟨b,_|⟨c,_|⟨d,_|⟨e,r⟩⟩⟩⟩⟩
 ·simp at h
 ·have ha:=u8lt a
  show ((some (IntKind.i64.wrap ((a.toNat:Nat):Int))).bind fun v43=>((iterL (wholeStep (ints [a])) (v43,1)).bind fun v46=>wholeEnd (ints [a]) v46.1))=wholeEnd (ints [a]) (comes [a])
  rw[w _ (by omega) (by omega),Option.bind_some]
  have:=hr (a.toNat:Int) (by omega)
  simp only[Int.natCast_one]at this
  rw[this]
  rfl
 ·have ha:=u8lt a
  show ((some (IntKind.i64.wrap (IntKind.i64.wrap ((a.toNat:Nat):Int)-192))).bind fun v43=>((iterL (wholeStep (ints [a,b])) (v43,1)).bind fun v46=>wholeEnd (ints [a,b]) v46.1))=wholeEnd (ints [a,b]) (comes [a,b])
  rw[w (a.toNat:Int) (by omega) (by omega),w _ (by omega) (by omega),Option.bind_some]
  have:=hr ((a.toNat:Int)-192) (by omega)
  simp only[Int.natCast_one]at this
  rw[this]
  rfl
 ·have ha:=u8lt a
  show ((some (IntKind.i64.wrap (IntKind.i64.wrap ((a.toNat:Nat):Int)-224))).bind fun v43=>((iterL (wholeStep (ints [a,b,c])) (v43,1)).bind fun v46=>wholeEnd (ints [a,b,c]) v46.1))=wholeEnd (ints [a,b,c]) (comes [a,b,c])
  rw[w (a.toNat:Int) (by omega) (by omega),w _ (by omega) (by omega),Option.bind_some]
  have:=hr ((a.toNat:Int)-224) (by omega)
  simp only[Int.natCast_one]at this
  rw[this]
  rfl
 ·have ha:=u8lt a
  show ((some (IntKind.i64.wrap (IntKind.i64.wrap ((a.toNat:Nat):Int)-240))).bind fun v43=>((iterL (wholeStep (ints [a,b,c,d])) (v43,1)).bind fun v46=>wholeEnd (ints [a,b,c,d]) v46.1))=wholeEnd (ints [a,b,c,d]) (comes [a,b,c,d])
  rw[w (a.toNat:Int) (by omega) (by omega),w _ (by omega) (by omega),Option.bind_some]
  have:=hr ((a.toNat:Int)-240) (by omega)
  simp only[Int.natCast_one]at this
  rw[this]
  rfl
 ·simp at h4
theorem comes_encN {c:Nat} (hc:c<1114112):comes (encN c)=c:=by
 have t:∀n:Nat,n<256→(UInt8.ofNat n).toNat=n:=fun n hn=>by simp only[UInt8.toNat_ofNat'];omega
 unfold encN
 simp only
 split
 ·simp only[comes,t c (by omega)]
 ·split
  ·simp only[comes,t (192+c/64) (by omega),t (128+c%64) (by omega)];omega
  ·split
   ·simp only[comes,t (224+c/4096) (by omega),t (128+c/64%64) (by omega),t (128+c%64) (by omega)];omega
   ·simp only[comes,t (240+c/262144) (by omega),t (128+c/4096%64) (by omega),t (128+c/64%64) (by omega),t (128+c%64) (by omega)];omega
theorem comes_enc {c:Int} (hc:codeOk c=true):comes (encB c)=c:=by
 rw[encB_eq,hc]
 simp only[if_true]
 rw[comes_encN (codeOk_lt hc)]
 unfold codeOk at hc
 simp only[Bool.or_eq_true,Bool.and_eq_true,decide_eq_true_eq]at hc
 omega
def isSign (s:List UInt8):Prop:=∃c,codeOk c=true∧encB c=s
theorem whole_neg (s:List UInt8) (h:1≤s.length) (h4:s.length≤4):∃v,F_batonref08_Whole (ints s)=some v∧(v<0↔¬isSign s):=by
 refine⟨_,whole_eq s h h4,?_⟩
 by_cases hk:codeOk (comes s)=true∧encB (comes s)=s
 ·rw[if_pos hk]
  have hp:0≤comes s:=by
   have:=hk.1
   unfold codeOk at this
   simp only[Bool.or_eq_true,Bool.and_eq_true,decide_eq_true_eq]at this
   omega
  exact⟨fun h=>by omega,fun h=>(h ⟨_,hk.1,hk.2⟩).elim⟩
 ·rw[if_neg hk]
  refine⟨fun _ ⟨c,h1,h2⟩=>hk ?_,fun _=>by decide⟩
  have:comes s=c:=by rw[←h2];exact comes_enc h1
  rw[this];exact⟨h1,h2⟩
end Go.Ideal.Seat
set_option linter.unusedVariables false
set_option linter.unusedSimpArgs false
namespace Go.Ideal.Seat
open Go.Ideal.Plain
def slice (l:List UInt8) (i n:Nat):List UInt8:=(l.drop i).take n
noncomputable def vIn (x:List Int) (s96:Int) (s97:Int):Option (Int⊕(Int×Bool)):=((bif ((decide (s97≤4))==true) then (bif ((decide ((IntKind.wrap .i64 (s96+s97))≤(((x.length):Nat):Int)))==true) then (bif decide (0≤s96) then (bif decide (0≤(IntKind.wrap .i64 (s96+s97))) then (bif decide ((s96).toNat≤((IntKind.wrap .i64 (s96+s97))).toNat∧((IntKind.wrap .i64 (s96+s97))).toNat≤x.length) then ((F_batonref08_Whole ((x.drop (s96).toNat).take (((IntKind.wrap .i64 (s96+s97))).toNat-(s96).toNat))).bind fun r98=>(some (decide (r98<0)))) else none) else none) else none) else (some false)) else (some false)).bind fun v99=>(bif v99 then (some (Sum.inl (IntKind.wrap .i64 (s97+1)))) else (some (Sum.inr (s97,v99)))))
noncomputable def vOut (x:List Int) (s96:Int):Option (Int⊕(Bool⊕(Int×Bool))):=(bif (decide (s96<(((x.length):Nat):Int))) then ((iterL (S:=Int) (X:=(Int)×Bool) (vIn x s96) 1).bind fun v100=>((bif ((decide (v100.1>4))==false) then (some (decide ((IntKind.wrap .i64 (s96+v100.1))>(((x.length):Nat):Int)))) else (some true)).bind fun v101=>(bif v101 then (some (Sum.inr (Sum.inl false))) else (some (Sum.inl (IntKind.wrap .i64 (s96+v100.1))))))) else (some (Sum.inr (Sum.inr (s96,(decide (s96<(((x.length):Nat):Int))))))))
theorem valid_def (x:List Int):F_batonref08_Valid x=(iterL (S:=Int) (X:=(Bool)⊕((Int)×Bool)) (vOut x) 0).bind fun w103=>match w103 with|Sum.inl v102=>(some v102)|Sum.inr w103=>(fun v104=>(some true)) w103:=rfl
theorem ints_slice (l:List UInt8) (i n:Nat):((ints l).drop i).take n=ints (slice l i n):=by simp[ints,slice,List.map_drop,List.map_take]
theorem vIn_eq {l:List UInt8} (hl:l.length<2^60) {i k:Nat} (hi:i<l.length) (hk:1≤k) (hk5:k≤5):
 (k≤4∧i+k≤l.length∧¬isSign (slice l i k)∧vIn (ints l) i k=some (.inl ((k+1:Nat):Int)))∨((k>4∨i+k>l.length∨isSign (slice l i k))∧vIn (ints l) i k=some (.inr (k,false))):=by
 have hw:IntKind.i64.wrap ((i:Int)+(k:Int))=((i+k:Nat):Int):=by rw[Go.IntWalk.i64_in _ (by omega)];rfl
 unfold vIn
 rw[hw,ints_len]
 by_cases h4:k≤4
 ·have h4':(k:Int)≤4:=by omega
  by_cases hik:i+k≤l.length
  ·have hik':((i+k:Nat):Int)≤(l.length:Int):=by omega
   have hsl:(slice l i k).length=k:=by simp[slice];omega
   obtain⟨v,hv,hv2⟩:=whole_neg (slice l i k) (by omega) (by omega)
   have e1:i+k-i=k:=by omega
   have e2:i≤i+k∧i+k≤l.length:=by omega
   simp only[h4',hik',decide_true,beq_self_eq_true,cond_true,Int.natCast_nonneg,Int.toNat_natCast,e1,e2,and_self,ints_slice,hv,Option.bind_some]
   by_cases hs:isSign (slice l i k)
   ·have:¬v<0:=fun h=>hv2.1 h hs
    right
    simp[hs,this]
   ·have:v<0:=hv2.2 hs
    left
    simp only[this,decide_true,cond_true,wsucc (show k<2^62 by omega)]
    exact⟨h4,trivial,hs,trivial⟩
  ·have hik':¬((i+k:Nat):Int)≤(l.length:Int):=by omega
   right
   refine⟨.inr (.inl (by omega)),?_⟩
   simp only[h4',hik',decide_true,decide_false,beq_self_eq_true,cond_true,Bool.false_beq,Bool.not_true,cond_false,Option.bind_some]
 ·have h4':¬(k:Int)≤4:=by omega
  right
  refine⟨.inl (by omega),?_⟩
  simp only[h4',decide_false,Bool.false_beq,Bool.not_true,cond_false,Option.bind_some]
theorem vIn_run {l:List UInt8} (hl:l.length<2^60) {i:Nat} (hi:i<l.length):∀(m k:Nat),k+m=5→1≤k→∃n:Nat,iterL (vIn (ints l) i) (k:Int)=some ((n:Int),false)∧k≤n∧n≤5∧(∀j,k≤j→j<n→¬isSign (slice l i j))∧(n>4∨i+n>l.length∨isSign (slice l i n))
 |m,k,hm,hk=>by
  rcases vIn_eq hl hi hk (by omega)with ⟨h1,h2,h3,h4⟩|⟨h1,h2⟩
  ·obtain⟨m',rfl⟩:∃m',m=m'+1:=⟨m-1,by omega⟩
   obtain⟨n,q1,q2,q3,q4,q5⟩:=vIn_run hl hi m' (k+1) (by omega) (by omega)
   refine⟨n,by rw[iterL_inl h4];exact q1,by omega,q3,fun j hj hjn=>?_,q5⟩
   by_cases hjk:j=k
   ·rw[hjk];exact h3
   ·exact q4 j (by omega) hjn
  ·exact⟨k,iterL_inr h2,Nat.le_refl _,by omega,fun j h h'=>by omega,h1⟩
theorem vOut_run {l:List UInt8} (hl:l.length<2^60):∀(m i:Nat),i+m=l.length→∃y,iterL (vOut (ints l)) (i:Int)=some y∧((∃z,y = .inr z)∧Signs (l.drop i)∨y = .inl false∧¬Signs (l.drop i)):=by
 intro m
 induction m using Nat.strongRecOn with
 |ind m ih=>
  intro i hi
  by_cases hm:i<l.length
  ·obtain⟨n,q1,q2,q3,q4,q5⟩:=vIn_run hl hm 4 1 rfl (Nat.le_refl _)
   have hw:IntKind.i64.wrap ((i:Int)+(n:Int))=((i+n:Nat):Int):=by rw[Go.IntWalk.i64_in _ (by omega)];rfl
   have hlt:(i:Int)<(l.length:Int):=by omega
   have hne:l.drop i≠[]:=by intro h;have:=congrArg List.length h;simp at this;omega
   by_cases hbad:n>4∨i+n>l.length
   ·have hno:¬Signs (l.drop i):=signs_none hne fun c r hc h=>by
     have h1:=(encB_len c).1
     have h2:=(encB_len c).2
     have h3:=congrArg List.length h
     simp only[List.length_drop,List.length_append]at h3
     have hs:isSign (slice l i (encB c).length):=⟨c,hc,by unfold slice;rw[h,List.take_left]⟩
     by_cases hn:(encB c).length<n
     ·exact q4 _ h1 hn hs
     ·omega
    refine⟨.inl false,?_,.inr ⟨rfl,hno⟩⟩
    refine iterL_inr ?_
    unfold vOut
    rw[ints_len]
    simp only[hlt,decide_true,cond_true]
    have q1':iterL (vIn (ints l) i) 1=some ((n:Int),false):=q1
    rw[q1']
    simp only[Option.bind_some,hw]
    by_cases h4:n>4
    ·have:(n:Int)>4:=by omega
     simp[this]
    ·have h4':¬(n:Int)>4:=by omega
     have:((i+n:Nat):Int)>(l.length:Int):=by omega
     simp only[h4',this,decide_true,decide_false,beq_self_eq_true,cond_true,Option.bind_some]
   ·have hs:isSign (slice l i n):=by rcases q5 with h|h|h<;>first|exact h|omega
    obtain⟨c,hc,hcs⟩:=hs
    have hsplit:l.drop i=encB c++l.drop (i+n):=by
     rw[hcs];unfold slice
     rw[←List.drop_drop,List.take_append_drop]
    obtain⟨y,r1,r2⟩:=ih (m-n) (by omega) (i+n) (by omega)
    refine⟨y,?_,?_⟩
    ·rw[←r1]
     refine iterL_inl ?_
     unfold vOut
     rw[ints_len]
     simp only[hlt,decide_true,cond_true]
     have q1':iterL (vIn (ints l) i) 1=some ((n:Int),false):=q1
     rw[q1']
     have h4':¬(n:Int)>4:=by omega
     have h5':¬((i+n:Nat):Int)>(l.length:Int):=by omega
     simp only[Option.bind_some,hw,h4',h5',decide_false,beq_self_eq_true,cond_true,cond_false,Option.bind_some]
    ·rw[hsplit,signs_cons hc];exact r2
  ·have:i=l.length:=by omega
   subst this
   refine⟨.inr ((l.length:Int),false),iterL_inr ?_,.inl ⟨⟨_,rfl⟩,by simpa using Signs.nil⟩⟩
   unfold vOut
   rw[ints_len]
   simp
open Classical in
theorem refValid_eq (l:List UInt8) (hl:l.length<2^60):F_batonref08_Valid (ints l)=some (decide (Signs l)):=by
 obtain⟨y,h1,h2⟩:=vOut_run hl l.length 0 (by omega)
 rw[valid_def]
 have h1':iterL (vOut (ints l)) 0=some y:=h1
 rw[h1']
 simp only[List.drop_zero]at h2
 rcases h2 with ⟨⟨z,rfl⟩,hs⟩|⟨rfl,hs⟩
 ·simp[hs]
 ·simp[hs]
end Go.Ideal.Seat
set_option linter.unusedVariables false
set_option linter.unusedSimpArgs false
namespace Go.Ideal.Plain
def decL (l:List UInt8):Nat×Nat:=
 let at' (k:Nat):Nat:=(l.getD k 0).toNat
 let cont (k:Nat):Bool:=decide (k<l.length)&&at' k/64==2
 if at' 0<0x80 then (at' 0,1)
 else if at' 0/32==6&&cont 1 then
  if (at' 0%32)*64+at' 1%64≥0x80 then ((at' 0%32)*64+at' 1%64,2) else (65533,1)
 else if at' 0/16==14&&cont 1&&cont 2 then
  if decide ((at' 0%16)*4096+(at' 1%64)*64+at' 2%64≥0x800)&&codeOk (((at' 0%16)*4096+(at' 1%64)*64+at' 2%64:Nat):Int) then ((at' 0%16)*4096+(at' 1%64)*64+at' 2%64,3) else (65533,1)
 else if at' 0/8==30&&cont 1&&cont 2&&cont 3 then
  if decide ((at' 0%8)*262144+(at' 1%64)*4096+(at' 2%64)*64+at' 3%64≥0x10000)&&codeOk (((at' 0%8)*262144+(at' 1%64)*4096+(at' 2%64)*64+at' 3%64:Nat):Int) then ((at' 0%8)*262144+(at' 1%64)*4096+(at' 2%64)*64+at' 3%64,4) else (65533,1)
 else (65533,1)
theorem get_drop (b:List UInt8) (i k:Nat):(ByteArray.get! ⟨b.toArray⟩ (i+k))=(b.drop i).getD k 0:=by
 show b.toArray[i+k]! = _
 simp only[List.getElem!_toArray,List.getD_eq_getElem?_getD,List.getElem?_drop]
 rw[List.getElem!_eq_getElem?_getD]
 rfl
theorem signAt_eq (b:List UInt8) (i:Nat):signAt b i=decL (b.drop i):=by
 unfold signAt Utf8.decode decL
 have hs:∀k,decide (i+k<(⟨b.toArray⟩:ByteArray).size)=decide (k<(b.drop i).length):=fun k=>by
  have:(⟨b.toArray⟩:ByteArray).size=b.length:=rfl
  rw[this,List.length_drop]
  by_cases h:i+k<b.length
  ·have:k<b.length-i:=by omega
   simp[h,this]
  ·have:¬k<b.length-i:=by omega
   simp[h,this]
 simp only[get_drop,hs,valid_eq,Utf8.runeError]
theorem u8n (n:Nat) (hn:n<256):(UInt8.ofNat n).toNat=n:=by simp only[UInt8.toNat_ofNat'];omega
theorem codeOk_nat (c:Nat):codeOk (c:Int)=(decide (c<55296)||decide (57344≤c∧c≤1114111)):=by
 unfold codeOk
 by_cases a:c<55296<;>by_cases b:57344≤c<;>by_cases d:c≤1114111<;>simp[a,b,d]<;>omega
theorem decL_enc {c:Nat} (hc:codeOk (c:Int)=true) (r:List UInt8):decL (encN c++r)=(c,(encN c).length):=by
 have hc':=hc
 rw[codeOk_nat]at hc'
 simp only[Bool.or_eq_true,decide_eq_true_eq]at hc'
 unfold encN
 simp only
 split
 ·rename_i h
  simp only[decL,List.cons_append,List.nil_append,List.getD_cons_zero,u8n c (by omega),if_pos h,List.length_cons,List.length_nil]
 ·split
  ·rename_i h0 h
   have hv:((192+c/64)%32)*64+(128+c%64)%64=c:=by omega
   simp only[decL,List.cons_append,List.nil_append,List.getD_cons_zero,List.getD_cons_succ,u8n (192+c/64) (by omega),u8n (128+c%64) (by omega),List.length_cons,List.length_nil,hv]
   rw[if_neg (by omega),if_pos (by simp;omega),if_pos (by omega)]
  ·split
   ·rename_i h0 h1 h
    have hv:((224+c/4096)%16)*4096+((128+c/64%64)%64)*64+(128+c%64)%64=c:=by omega
    simp only[decL,List.cons_append,List.nil_append,List.getD_cons_zero,List.getD_cons_succ,u8n (224+c/4096) (by omega),u8n (128+c/64%64) (by omega),u8n (128+c%64) (by omega),List.length_cons,List.length_nil,hv,hc]
    rw[if_neg (by omega),if_neg (by simp;omega),if_pos (by simp;omega),if_pos (by simp;omega)]
   ·rename_i h0 h1 h
    have hv:((240+c/262144)%8)*262144+((128+c/4096%64)%64)*4096+((128+c/64%64)%64)*64+(128+c%64)%64=c:=by omega
    simp only[decL,List.cons_append,List.nil_append,List.getD_cons_zero,List.getD_cons_succ,u8n (240+c/262144) (by omega),u8n (128+c/4096%64) (by omega),u8n (128+c/64%64) (by omega),u8n (128+c%64) (by omega),List.length_cons,List.length_nil,hv,hc]
    rw[if_neg (by omega),if_neg (by simp;omega),if_neg (by simp;omega),if_pos (by simp;omega),if_pos (by simp;omega)]
theorem u8of {n:Nat} {a:UInt8} (h:n=a.toNat):UInt8.ofNat n=a:=by subst h;simp
theorem decL_or {l:List UInt8} (hl:l≠[]):decL l=(65533,1)∨∃c r,codeOk (c:Nat)=true∧l=encN c++r:=by
 rcases l with _|⟨a,r1⟩
 ·exact(hl rfl).elim
 have ha:=a.toNat_lt
 by_cases h1:a.toNat<128
 ·right
  refine⟨a.toNat,r1,by rw[codeOk_nat];simp;omega,?_⟩
  unfold encN
  simp only[if_pos h1,u8of rfl,List.cons_append,List.nil_append]
 rcases r1 with _|⟨b,r2⟩
 ·left
  simp only[decL,List.getD_cons_zero,if_neg h1,List.length_cons,List.length_nil]
  simp
 have hb:=b.toNat_lt
 by_cases h2:a.toNat/32=6∧b.toNat/64=2
 ·by_cases h3:(a.toNat%32)*64+b.toNat%64≥128
  ·right
   refine⟨(a.toNat%32)*64+b.toNat%64,r2,by rw[codeOk_nat];simp;omega,?_⟩
   unfold encN
   simp only[if_neg (show ¬(a.toNat%32)*64+b.toNat%64<0x80 by omega),if_pos (show (a.toNat%32)*64+b.toNat%64<0x800 by omega),List.cons_append,List.nil_append]
   rw[u8of (a:=a) (by omega),u8of (a:=b) (by omega)]
  ·left
   simp only[decL,List.getD_cons_zero,List.getD_cons_succ,if_neg h1,List.length_cons]
   rw[if_pos (by simp;omega),if_neg h3]
 have n2:∀n:Nat,(a.toNat/32==6&&(decide (1<n+1+1)&&b.toNat/64==2))=false:=fun n=>by
  cases hq:(a.toNat/32==6&&(decide (1<n+1+1)&&b.toNat/64==2)) with
  |false=>rfl
  |true=>simp at hq;exact(h2 ⟨hq.1,hq.2⟩).elim
 rcases r2 with _|⟨d,r3⟩
 ·left
  simp only[decL,List.getD_cons_zero,List.getD_cons_succ,if_neg h1,List.length_cons,List.length_nil]
  have:=n2 0
  simp only[Nat.zero_add]at this
  rw[this]
  simp
 have hd:=d.toNat_lt
 by_cases h3:a.toNat/16=14∧b.toNat/64=2∧d.toNat/64=2
 ·have e3:∀n:Nat,(a.toNat/16==14&&(decide (1<n+1+1+1)&&b.toNat/64==2)&&(decide (2<n+1+1+1)&&d.toNat/64==2))=true:=fun n=>by simp;omega
  by_cases h4:(decide ((a.toNat%16)*4096+(b.toNat%64)*64+d.toNat%64≥0x800)&&codeOk (((a.toNat%16)*4096+(b.toNat%64)*64+d.toNat%64:Nat):Int))=true
  ·right
   have h5:=h4
   rw[Bool.and_eq_true,decide_eq_true_eq]at h5
   refine⟨(a.toNat%16)*4096+(b.toNat%64)*64+d.toNat%64,r3,h5.2,?_⟩
   unfold encN
   simp only[if_neg (show ¬(a.toNat%16)*4096+(b.toNat%64)*64+d.toNat%64<0x80 by omega),if_neg (show ¬(a.toNat%16)*4096+(b.toNat%64)*64+d.toNat%64<0x800 by omega),if_pos (show (a.toNat%16)*4096+(b.toNat%64)*64+d.toNat%64<0x10000 by omega),List.cons_append,List.nil_append]
   rw[u8of (a:=a) (by omega),u8of (a:=b) (by omega),u8of (a:=d) (by omega)]
  ·left
   simp only[decL,List.getD_cons_zero,List.getD_cons_succ,if_neg h1,List.length_cons]
   rw[n2,if_neg (by decide),e3,if_pos rfl,if_neg h4]
 have n3:∀n:Nat,(a.toNat/16==14&&(decide (1<n+1+1+1)&&b.toNat/64==2)&&(decide (2<n+1+1+1)&&d.toNat/64==2))=false:=fun n=>by
  cases hq:(a.toNat/16==14&&(decide (1<n+1+1+1)&&b.toNat/64==2)&&(decide (2<n+1+1+1)&&d.toNat/64==2)) with
  |false=>rfl
  |true=>simp at hq;exact(h3 ⟨hq.1.1,hq.1.2,hq.2⟩).elim
 rcases r3 with _|⟨e,r4⟩
 ·left
  simp only[decL,List.getD_cons_zero,List.getD_cons_succ,if_neg h1,List.length_cons,List.length_nil]
  have t2:=n2 1
  have t3:=n3 0
  simp only[Nat.zero_add]at t2 t3
  rw[t2,if_neg (by decide),t3,if_neg (by decide)]
  simp
 have he:=e.toNat_lt
 by_cases h4:a.toNat/8=30∧b.toNat/64=2∧d.toNat/64=2∧e.toNat/64=2
 ·have e4:∀n:Nat,(a.toNat/8==30&&(decide (1<n+1+1+1+1)&&b.toNat/64==2)&&(decide (2<n+1+1+1+1)&&d.toNat/64==2)&&(decide (3<n+1+1+1+1)&&e.toNat/64==2))=true:=fun n=>by simp;omega
  by_cases h5:(decide ((a.toNat%8)*262144+(b.toNat%64)*4096+(d.toNat%64)*64+e.toNat%64≥0x10000)&&codeOk (((a.toNat%8)*262144+(b.toNat%64)*4096+(d.toNat%64)*64+e.toNat%64:Nat):Int))=true
  ·right
   have h6:=h5
   rw[Bool.and_eq_true,decide_eq_true_eq]at h6
   refine⟨(a.toNat%8)*262144+(b.toNat%64)*4096+(d.toNat%64)*64+e.toNat%64,r4,h6.2,?_⟩
   unfold encN
   simp only[if_neg (show ¬(a.toNat%8)*262144+(b.toNat%64)*4096+(d.toNat%64)*64+e.toNat%64<0x80 by omega),if_neg (show ¬(a.toNat%8)*262144+(b.toNat%64)*4096+(d.toNat%64)*64+e.toNat%64<0x800 by omega),if_neg (show ¬(a.toNat%8)*262144+(b.toNat%64)*4096+(d.toNat%64)*64+e.toNat%64<0x10000 by omega),List.cons_append,List.nil_append]
   rw[u8of (a:=a) (by omega),u8of (a:=b) (by omega),u8of (a:=d) (by omega),u8of (a:=e) (by omega)]
  ·left
   simp only[decL,List.getD_cons_zero,List.getD_cons_succ,if_neg h1,List.length_cons]
   rw[n2,if_neg (by decide),n3,if_neg (by decide),e4,if_pos rfl,if_neg h5]
 ·left
  have n4:∀n:Nat,(a.toNat/8==30&&(decide (1<n+1+1+1+1)&&b.toNat/64==2)&&(decide (2<n+1+1+1+1)&&d.toNat/64==2)&&(decide (3<n+1+1+1+1)&&e.toNat/64==2))=false:=fun n=>by
   cases hq:(a.toNat/8==30&&(decide (1<n+1+1+1+1)&&b.toNat/64==2)&&(decide (2<n+1+1+1+1)&&d.toNat/64==2)&&(decide (3<n+1+1+1+1)&&e.toNat/64==2)) with
   |false=>rfl
   |true=>simp at hq;exact(h4 ⟨hq.1.1.1,hq.1.1.2,hq.1.2,hq.2⟩).elim
  simp only[decL,List.getD_cons_zero,List.getD_cons_succ,if_neg h1,List.length_cons]
  rw[n2,if_neg (by decide),n3,if_neg (by decide),n4,if_neg (by decide)]
end Go.Ideal.Plain
set_option linter.unusedVariables false
set_option linter.unusedSimpArgs false
namespace Go.Ideal.Seat
open Go.Ideal.Plain
theorem broken_eq (y:List UInt8):F_runes_broken y=some (decide (y.take 3=[239,191,189])):=by
 unfold F_runes_broken
 by_cases h:3≤y.length
 ·have h':((y.length:Nat):Int)≥3:=by omega
  simp only[h',decide_true,beq_self_eq_true,cond_true,show (0≤3∧3≤y.length) from ⟨by omega,h⟩,and_self,List.drop_zero,Nat.sub_zero]
  by_cases e:y.take 3=[239,191,189]<;>simp[e]
 ·have h':¬((y.length:Nat):Int)≥3:=by omega
  have:y.take 3≠[239,191,189]:=by
   intro e
   have:=congrArg List.length e
   simp at this;omega
  simp[h',this]
abbrev VS:=Int×Unit×List UInt8×Int
noncomputable def vStep (x:List UInt8) (s38:VS):Option (VS⊕(Bool⊕(Int×Unit×List UInt8×Int×Bool))):=(bif (decide ((0:Int)≤s38.2.2.2)) then (bif (decide ((s38.2.2.2).toNat<s38.2.2.1.length)) then ((bif (((((s38.2.2.2).toNat:Nat):Int) != s38.1)==false) then (bif (((((signAt s38.2.2.1 (s38.2.2.2).toNat).1:Nat):Int)==65533)==true) then (bif decide (0≤(((s38.2.2.2).toNat:Nat):Int)) then (bif decide (((((s38.2.2.2).toNat:Nat):Int)).toNat≤(x.length)∧(x.length)≤x.length) then ((F_runes_broken ((x.drop ((((s38.2.2.2).toNat:Nat):Int)).toNat).take ((x.length)-((((s38.2.2.2).toNat:Nat):Int)).toNat))).bind fun r39=>(some (!r39))) else none) else none) else (some false)) else (some true)).bind fun v40=>(bif v40 then (some (Sum.inr (Sum.inl false))) else ((F_runes_Bytes (((signAt s38.2.2.1 (s38.2.2.2).toNat).1:Nat):Int)).bind fun r41=>(some (Sum.inl ((IntKind.wrap .i64 ((((s38.2.2.2).toNat:Nat):Int)+(((r41.length):Nat):Int))),((),(s38.2.2.1,(((s38.2.2.2).toNat+(signAt s38.2.2.1 (s38.2.2.2).toNat).2:Nat):Int))))))))) else (some (Sum.inr (Sum.inr (s38.1,((),(s38.2.2.1,(s38.2.2.2,false)))))))) else none)
theorem rvalid_def (x:List UInt8):F_runes_Valid x=(iterL (S:=VS) (X:=Bool⊕(Int×Unit×List UInt8×Int×Bool)) (vStep x) (0,((),(x,0)))).bind fun w43=>match w43 with|Sum.inl v42=>(some v42)|Sum.inr w43=>(fun v44=>(some (v44.1==((x.length:Nat):Int)))) w43:=rfl
theorem vStep_in {x:List UInt8} (hx:x.length<2^60) {i:Nat} (hi:i<x.length):
 (∃c,codeOk c=true∧x.drop i=encB c++x.drop (i+(encB c).length)∧i+(encB c).length≤x.length∧vStep x ((i:Int),((),(x,(i:Int))))=some (.inl (((i+(encB c).length:Nat):Int),((),(x,((i+(encB c).length:Nat):Int))))))∨
 (¬Signs (x.drop i)∧vStep x ((i:Int),((),(x,(i:Int))))=some (.inr (.inl false))):=by
 have hne:x.drop i≠[]:=by intro h;have:=congrArg List.length h;simp at this;omega
 have hle:i≤x.length∧x.length≤x.length:=⟨by omega,Nat.le_refl _⟩
 have htk:(x.drop i).take (x.length-i)=x.drop i:=by rw[List.take_of_length_le (by simp)]
 rcases decL_or hne with hd|⟨c,r,hc,hr⟩
 ·by_cases hp:∃c r,codeOk (c:Nat)=true∧x.drop i=encN c++r
  ·obtain⟨c,r,hc,hr⟩:=hp
   rw[hr,decL_enc hc]at hd
   injection hd with h1 h2
   subst h1
   exact absurd h2 (by decide)
  ·right
   have hno:¬Signs (x.drop i):=signs_none hne fun c r hc h=>hp ⟨c.toNat,r,by
    have:((c.toNat:Nat):Int)=c:=by
     unfold codeOk at hc
     simp only[Bool.or_eq_true,Bool.and_eq_true,decide_eq_true_eq]at hc
     omega
    rw[this];exact hc,by rw[h,encB_eq,hc];rfl⟩
   refine⟨hno,?_⟩
   have hb:¬(x.drop i).take 3=[239,191,189]:=fun h=>hp ⟨65533,(x.drop i).drop 3,by decide,by
    have:encN 65533=[239,191,189]:=by decide
    rw[this,←h,List.take_append_drop]⟩
   unfold vStep
   simp only[Int.natCast_nonneg,decide_true,cond_true,Int.toNat_natCast,hi,bne_self_eq_false,beq_self_eq_true,signAt_eq,hd,hle,and_self,htk,broken_eq,hb,decide_false,Option.bind_some,Bool.not_false]
   rfl
 ·left
  have hcc:encB (c:Int)=encN c:=by rw[encB_eq,hc];rfl
  have hlen:=congrArg List.length hr
  simp only[List.length_drop,List.length_append]at hlen
  have hdrop:x.drop (i+(encN c).length)=r:=by rw[←List.drop_drop,hr,List.drop_left]
  refine⟨c,hc,by rw[hcc,hdrop];exact hr,by rw[hcc];omega,?_⟩
  have hd:decL (x.drop i)=(c,(encN c).length):=by rw[hr];exact decL_enc hc r
  have hv:(bif (((c:Nat):Int)==65533) then (some (!decide ((x.drop i).take 3=[239,191,189]))) else some false)=some false:=by
   by_cases h:((c:Nat):Int)=65533
   ·have hc2:c=65533:=by omega
    have:(x.drop i).take 3=[239,191,189]:=by
     rw[hr,hc2]
     have:encN 65533=[239,191,189]:=by decide
     rw[this];rfl
    simp[h,this]
   ·rw[beq_eq_false_iff_ne.2 h];rfl
  have hw:IntKind.i64.wrap ((i:Int)+(((encN c).length:Nat):Int))=((i+(encN c).length:Nat):Int):=by rw[Go.IntWalk.i64_in _ (by omega)];rfl
  unfold vStep
  simp only[Int.natCast_nonneg,decide_true,cond_true,Int.toNat_natCast,hi,bne_self_eq_false,beq_self_eq_true,signAt_eq,hd,hle,and_self,htk,broken_eq,Option.bind_some,runesBytes_eq,ints_len,hcc,hw,beq_true]
  rw[hv]
  rfl
theorem rvalid_run {x:List UInt8} (hx:x.length<2^60):∀(m i:Nat),i+m=x.length→∃y,iterL (vStep x) ((i:Int),((),(x,(i:Int))))=some y∧((∃q,y = .inr ((x.length:Int),q))∧Signs (x.drop i)∨y = .inl false∧¬Signs (x.drop i)):=by
 intro m
 induction m using Nat.strongRecOn with
 |ind m ih=>
  intro i hi
  by_cases hm:i<x.length
  ·rcases vStep_in hx hm with ⟨c,hc,h1,h2,h3⟩|⟨h1,h2⟩
   ·have hp:=(encB_len c).1
    obtain⟨y,r1,r2⟩:=ih (m-(encB c).length) (by omega) (i+(encB c).length) (by omega)
    refine⟨y,by rw[iterL_inl h3];exact r1,?_⟩
    rw[h1,signs_cons hc];exact r2
   ·exact⟨_,iterL_inr h2,.inr ⟨rfl,h1⟩⟩
  ·have:i=x.length:=by omega
   subst this
   refine⟨.inr ((x.length:Int),((),(x,((x.length:Int),false)))),iterL_inr ?_,.inl ⟨⟨_,rfl⟩,by simpa using Signs.nil⟩⟩
   unfold vStep
   simp
open Classical in
theorem rvalid_eq (l:List UInt8) (hl:l.length<2^60):F_runes_Valid l=some (decide (Signs l)):=by
 obtain⟨y,h1,h2⟩:=rvalid_run hl l.length 0 (by omega)
 rw[rvalid_def]
 have h1':iterL (vStep l) (0,((),(l,0)))=some y:=h1
 rw[h1']
 simp only[List.drop_zero]at h2
 rcases h2 with ⟨⟨z,rfl⟩,hs⟩|⟨rfl,hs⟩
 ·simp[hs]
 ·simp[hs]
end Go.Ideal.Seat
set_option linter.unusedVariables false
set_option linter.unusedSimpArgs false
namespace Go.Ideal.Seat
open Go.Ideal.Plain
def lineOk (l:List UInt8):Bool:=l.all fun c=>!(decide (c.toNat<32)||c.toNat==127)
theorem lineOk_cons (c:UInt8) (r:List UInt8):lineOk (c::r)=(!(decide (c.toNat<32)||c.toNat==127)&&lineOk r):=rfl
theorem lineLoop {X:Type} {l:List UInt8} (hl:l.length<2^60) {F:Int→Option (Int⊕(Bool⊕X))} {z:X} (h1:∀(i:Nat) c,l[i]? = some c→F i=some (if (decide (c.toNat<32)||c.toNat==127)=true then .inr (.inl false) else .inl ((i+1:Nat):Int)))
 (h2:F (l.length:Int)=some (.inr (.inr z))):iterL F 0=some (if lineOk l then .inr z else .inl false):=by
 rw[iter_run (l:=l) (mk:=fun(_:Unit) i=>i) (step:=fun _ _ c=>if (decide (c.toNat<32)||c.toNat==127)=true then some (.inr (.inl false)) else some (.inl ())) (fin:=fun _=>some (.inr z)) (fun _ _=>True) ?_ (fun _ _ _ _ _ _ _=>trivial) ?_ trivial]
 ·have key:∀(r:List UInt8) (i:Nat),runL (A:=Unit) (X:=Bool⊕X) (fun _ _ (c:UInt8)=>if (decide (c.toNat<32)||c.toNat==127)=true then some (.inr (.inl false)) else some (.inl ())) (fun _=>some (.inr z)) i () r=some (if lineOk r then .inr z else .inl false):=by
   intro r
   induction r with
   |nil=>intro i;rfl
   |cons c r ih=>
    intro i
    simp only[runL]
    by_cases hc:(decide (c.toNat<32)||c.toNat==127)=true
    ·have:lineOk (c::r)=false:=by rw[lineOk_cons,hc];rfl
     rw[if_pos hc,this];rfl
    ·have:lineOk (c::r)=lineOk r:=by rw[lineOk_cons,(Bool.not_eq_true _).mp hc];rfl
     rw[if_neg hc,this]
     exact ih (i+1)
  exact key l 0
 ·intro _ i c hc _
  rw[h1 i c hc]
  by_cases hk:(decide (c.toNat<32)||c.toNat==127)=true
  ·rw[if_pos hk,if_pos hk];rfl
  ·rw[if_neg hk,if_neg hk];rfl
 ·intro _ _;rw[h2];rfl
theorem byteTest {x:List UInt8} {i:Nat} {c:UInt8} (h:x[i]? = some c):(bif decide ((0:Int)≤(i:Int)) then ((x[((i:Int)).toNat]?).bind fun c49=>(bif ((decide (((c49.toNat:Nat):Int)<32))==false) then (bif decide ((0:Int)≤(i:Int)) then ((x[((i:Int)).toNat]?).bind fun c50=>(some (((c50.toNat:Nat):Int)==127))) else none) else (some true))) else none)=some (decide (c.toNat<32)||c.toNat==127):=by
 simp only[Int.natCast_nonneg,decide_true,cond_true,Int.toNat_natCast,h,Option.bind_some]
 by_cases a:c.toNat<32
 ·have:((c.toNat:Nat):Int)<32:=by omega
  simp[a,this]
 ·have h2:¬((c.toNat:Nat):Int)<32:=by omega
  by_cases b:c.toNat=127
  ·simp[a,h2,b]
  ·have:¬((c.toNat:Nat):Int)=127:=by omega
   have e:(((c.toNat:Nat):Int)==127)=false:=beq_eq_false_iff_ne.2 this
   have e':(c.toNat==127)=false:=beq_eq_false_iff_ne.2 b
   simp only[a,h2,e,e',decide_false,beq_self_eq_true,cond_true,Bool.or_self]
theorem line_eq (l:List UInt8) (hl:l.length<2^60):F_seqs_line l=some (lineOk l&&decide (l.length≤256)):=by
 unfold F_seqs_line
 rw[lineLoop (l:=l) hl (z:=((l.length:Int),false)) (fun i c hc=>?_) (by simp)]
 ·cases lineOk l with
  |true=>
   have:decide (((l.length:Nat):Int)≤256)=decide (l.length≤256):=by by_cases h:l.length≤256<;>simp[h]<;>omega
   simp only[if_true,Option.bind_some,this,Bool.true_and]
  |false=>simp
 ·have hi:=getE_bound hc
  have hlt:(i:Int)<(l.length:Int):=by omega
  simp only[hlt,decide_true,cond_true]
  rw[byteTest hc]
  simp only[Option.bind_some,wsucc (show i<2^62 by omega)]
  by_cases hk:(decide (c.toNat<32)||c.toNat==127)=true
  ·simp only[hk,cond_true,if_true]
  ·have:=(Bool.not_eq_true _).mp hk
   simp only[this,cond_false,Bool.false_eq_true,if_false]
theorem seqTitle_eq (l:List UInt8) (hl:l.length<2^60):F_seqs_Right (5,(0,(0,(0,(0,(([]:List (Int)),l))))))=some (lineOk l&&decide (l.length≤256)):=by
 unfold F_seqs_Right
 have e1:((5:Int)==1)=false:=by decide
 have e2:((5:Int)==2)=false:=by decide
 have e3:((5:Int)==3)=false:=by decide
 have e4:((5:Int)==4)=false:=by decide
 simp only[e1,e2,e3,e4,beq_self_eq_true,cond_false,cond_true,line_eq l hl,Option.bind_some,List.length_nil]
 cases (lineOk l&&decide (l.length≤256))<;>rfl
open Classical in
noncomputable def titleOk (l:List UInt8):Bool:=decide (l.length≤64)&&decide (Signs l)&&lineOk l
open Classical in
theorem title_eq (l:List UInt8) (hl:l.length<2^60):F_paint_title l=some (titleOk l):=by
 unfold F_paint_title titleOk
 rw[rvalid_eq l hl,seqTitle_eq l hl]
 by_cases h:l.length≤64
 ·have h':((l.length:Nat):Int)≤64:=by omega
  have h2:l.length≤256:=by omega
  simp only[h',h,h2,decide_true,beq_self_eq_true,cond_true,Option.bind_some,Bool.true_and,Bool.and_true]
  by_cases hs:Signs l<;>simp[hs]
 ·have h':¬((l.length:Nat):Int)≤64:=by omega
  simp[h',h]
end Go.Ideal.Seat
set_option linter.unusedVariables false
set_option linter.unusedSimpArgs false
namespace Go.Ideal.Seat
open Go.Ideal.Plain
abbrev Grd:=Int×Int×List Cell
def sizeOk (r c:Int):Bool:=decide (1≤r∧r≤60∧1≤c∧c≤132)
def gridOk (g:Grd):Bool:=sizeOk g.1 g.2.1&&decide ((g.2.2.length:Int)=g.1*g.2.1)&&g.2.2.all cellOk
theorem size_eq (p:Int×Int):F_grid_size p=some (sizeOk p.1 p.2):=by
 unfold F_grid_size sizeOk
 by_cases a:p.1≥1<;>by_cases b:p.1≤60<;>by_cases c:p.2≥1<;>by_cases d:p.2≤132<;>simp[a,b,c,d]<;>omega
theorem refSize_eq (p:Int×Int):F_batonref10_Size p=some (sizeOk p.1 p.2):=size_eq p
theorem size_mul {r c:Int} (h:sizeOk r c=true):1≤r*c∧r*c≤7920∧IntKind.i64.wrap (r*c)=r*c:=by
 unfold sizeOk at h
 rw[decide_eq_true_eq]at h
 obtain⟨h1,h2,h3,h4⟩:=h
 have a:r*c≤60*132:=Int.mul_le_mul h2 h4 (by omega) (by omega)
 have b:1*1≤r*c:=Int.mul_le_mul h1 h3 (by omega) (by omega)
 exact⟨by omega,by omega,Go.IntWalk.i64_in _ (by omega)⟩
theorem gridRight_eq (g:Grd) (hl:g.2.2.length<2^60):F_grid_Right g=some (gridOk g):=by
 unfold F_grid_Right gridOk
 rw[size_eq]
 simp only[Option.bind_some]
 cases hs:sizeOk g.1 g.2.1 with
 |false=>simp
 |true=>
  rw[(size_mul hs).2.2]
  by_cases hn:(g.2.2.length:Int)=g.1*g.2.1
  ·rw[allLoop (l:=g.2.2) cellOk (z:=((g.2.2.length:Int),false)) (fun i e he=>?_) (by simp)]
   ·simp only[hn,bne_self_eq_false,Bool.not_true,Bool.true_beq,beq_self_eq_true,cond_true,cond_false,Option.bind_some,decide_true,Bool.true_and]
    cases g.2.2.all cellOk<;>rfl
   ·have hi:=getE_bound he
    have hlt:(i:Int)<(g.2.2.length:Int):=by omega
    simp only[hlt,decide_true,cond_true,Int.natCast_nonneg,Int.toNat_natCast,he,Option.bind_some,cellRight_eq,wsucc (show i<2^62 by omega)]
    cases cellOk e<;>rfl
  ·have:(((g.2.2.length:Nat):Int) != g.1*g.2.1)=true:=by simp[hn]
   simp only[this,Bool.not_true,Bool.true_beq,beq_self_eq_true,cond_true,Option.bind_some,hn,decide_false,Bool.and_false,Bool.false_and]
def runesIn (l:List Cell):Prop:=∀c∈l,-2147483648≤c.1∧c.1≤2147483647
theorem refGridRight_eq (g:Grd) (hl:g.2.2.length<2^60) (hr:runesIn g.2.2):F_batonref10_Right g=some (gridOk g):=by
 unfold F_batonref10_Right gridOk
 rw[refSize_eq]
 simp only[Option.bind_some]
 cases hs:sizeOk g.1 g.2.1 with
 |false=>simp
 |true=>
  rw[(size_mul hs).2.2]
  by_cases hn:(g.2.2.length:Int)=g.1*g.2.1
  ·rw[allLoop (l:=g.2.2) cellOk (z:=((g.2.2.length:Int),false)) (fun i e he=>?_) (by simp)]
   ·simp only[hn,bne_self_eq_false,Bool.not_true,Bool.true_beq,beq_self_eq_true,cond_true,cond_false,Option.bind_some,decide_true,Bool.true_and]
    cases g.2.2.all cellOk<;>rfl
   ·have hi:=getE_bound he
    have hlt:(i:Int)<(g.2.2.length:Int):=by omega
    simp only[hlt,decide_true,cond_true,Int.natCast_nonneg,Int.toNat_natCast,he,Option.bind_some,refCell_eq e (hr e (List.mem_of_getElem? he)),wsucc (show i<2^62 by omega)]
    cases cellOk e<;>rfl
  ·have:(((g.2.2.length:Nat):Int) != g.1*g.2.1)=true:=by simp[hn]
   simp only[this,Bool.not_true,Bool.true_beq,beq_self_eq_true,cond_true,Option.bind_some,hn,decide_false,Bool.and_false,Bool.false_and]
end Go.Ideal.Seat
set_option linter.unusedVariables false
set_option linter.unusedSimpArgs false
namespace Go.Ideal.Seat
open Go.Ideal.Plain
abbrev Img:=Int×Int×List Cell×Int×Int×Bool×List UInt8×Int
noncomputable def imageOk (x:Img):Bool:=gridOk (x.1,x.2.1,x.2.2.1)&&decide (0≤x.2.2.2.1∧x.2.2.2.1<x.1∧0≤x.2.2.2.2.1∧x.2.2.2.2.1<x.2.1)&&titleOk x.2.2.2.2.2.2.1&&decide (0≤x.2.2.2.2.2.2.2∧x.2.2.2.2.2.2.2≤1073741824)
theorem paintRight_eq (x:Img) (h1:x.2.2.1.length<2^60) (h2:x.2.2.2.2.2.2.1.length<2^60):F_paint_Right x=some (imageOk x):=by
 unfold F_paint_Right imageOk
 rw[gridRight_eq _ h1,title_eq _ h2]
 simp only[Option.bind_some]
 generalize gridOk (x.1,x.2.1,x.2.2.1)=q
 generalize titleOk x.2.2.2.2.2.2.1=t
 by_cases a:x.2.2.2.1<0<;>by_cases b:x.2.2.2.1≥x.1<;>by_cases c:x.2.2.2.2.1<0<;>by_cases d:x.2.2.2.2.1≥x.2.1<;>by_cases e:x.2.2.2.2.2.2.2≥0<;>by_cases f:x.2.2.2.2.2.2.2≤1073741824<;>
  cases q<;>cases t<;>simp[a,b,c,d,e,f]<;>omega
theorem there_eq (p:Grd×Int×Int):F_batonref10_There p=some (decide (0≤p.2.1∧p.2.1<p.1.1∧0≤p.2.2∧p.2.2<p.1.2.1)):=by
 unfold F_batonref10_There
 by_cases a:p.2.1≥0<;>by_cases b:p.2.1<p.1.1<;>by_cases c:p.2.2≥0<;>by_cases d:p.2.2<p.1.2.1<;>simp[a,b,c,d]<;>omega
open Classical in
theorem refImage_eq (x:Img) (h1:x.2.2.1.length<2^60) (h2:x.2.2.2.2.2.2.1.length<2^40) (hr:runesIn x.2.2.1):F_batonref17_Right x=some (imageOk x):=by
 unfold F_batonref17_Right imageOk
 rw[refGridRight_eq _ h1 hr,there_eq]
 have hv:=refValid_eq x.2.2.2.2.2.2.1 (by omega)
 unfold ints at hv
 rw[hv]
 rw[lineLoop (l:=x.2.2.2.2.2.2.1) (by omega) (z:=((x.2.2.2.2.2.2.1.length:Int),false)) (fun i c hc=>?_) (by simp)]
 ·have hm:x.2.2.2.2.2.2.1.length≤most:=by unfold most;omega
  unfold titleOk
  have hd:decide (((x.2.2.2.2.2.2.1.length:Nat):Int)>64) = !decide (x.2.2.2.2.2.2.1.length≤64):=by
   by_cases h:x.2.2.2.2.2.2.1.length≤64
   ·have:¬((x.2.2.2.2.2.2.1.length:Nat):Int)>64:=by omega
    simp only[h,this,decide_true,decide_false,Bool.not_true]
   ·have:((x.2.2.2.2.2.2.1.length:Nat):Int)>64:=by omega
    simp only[h,this,decide_true,decide_false,Bool.not_false]
  have hb:decide (0≤x.2.2.2.2.2.2.2∧x.2.2.2.2.2.2.2≤1073741824)=(!decide (x.2.2.2.2.2.2.2<0)&& !decide (x.2.2.2.2.2.2.2>1073741824)):=by
   by_cases e:x.2.2.2.2.2.2.2<0<;>by_cases f:x.2.2.2.2.2.2.2>1073741824<;>simp[e,f]<;>omega
  simp only[Option.bind_some,hm,decide_true,cond_true,hd,hb]
  generalize gridOk (x.1,x.2.1,x.2.2.1)=q
  generalize lineOk x.2.2.2.2.2.2.1=t
  generalize decide (Signs x.2.2.2.2.2.2.1)=u
  generalize decide (0≤x.2.2.2.1∧x.2.2.2.1<x.1∧0≤x.2.2.2.2.1∧x.2.2.2.2.1<x.2.1)=v
  generalize decide (x.2.2.2.2.2.2.2<0)=e
  generalize decide (x.2.2.2.2.2.2.2>1073741824)=f
  generalize decide (x.2.2.2.2.2.2.1.length≤64)=d
  cases q<;>cases t<;>cases u<;>cases v<;>cases e<;>cases f<;>cases d<;>rfl
 ·have hi:=getE_bound hc
  have hlt:(i:Int)<(x.2.2.2.2.2.2.1.length:Int):=by omega
  simp only[hlt,decide_true,cond_true]
  rw[byteTest hc]
  simp only[Option.bind_some,wsucc (show i<2^62 by omega)]
  by_cases hk:(decide (c.toNat<32)||c.toNat==127)=true
  ·simp only[hk,cond_true,if_true]
  ·have:=(Bool.not_eq_true _).mp hk
   simp only[this,cond_false,Bool.false_eq_true,if_false]
end Go.Ideal.Seat
set_option linter.unusedVariables false
set_option linter.unusedSimpArgs false
namespace Go.Ideal.Seat
open Go.Ideal.Plain
def blankC:Cell:=(32,0,0,0)
theorem blank_ok:cellOk blankC=true:=by decide
theorem clone_eq (l:List Cell) (h:l.length≤2^36):O_slices_Clone_api_Cell_api_Cell l=some l:=by
 unfold O_slices_Clone_api_Cell_api_Cell
 have hm:(([]:List Cell).length+l.length)*(32+1)≤most:=by simp only[List.length_nil,most];omega
 rw[both_eq (fun hc=>?_)]
 ·simp only[hm,decide_true,cond_true,List.nil_append]
 ·have:l=[]:=by simpa using hc
  subst this;simp[most]
theorem blanks_eq (n:Nat) (h:n≤2^36):O_grid_blanks (n:Int)=some (List.replicate n blankC):=by
 unfold O_grid_blanks
 have hm:(0:Int)≤(n:Int)∧(n:Int)*((32+1:Nat):Int)≤(most:Nat):=by unfold most;omega
 simp only[hm,and_self,decide_true,cond_true,Int.toNat_natCast]
 rw[countLoop n (fun(a:List Cell) i=>(a,i)) (fun i a=>a.set i blankC) (fun _ a=>a.length=n) (fin:=fun a=>(a,(n:Int),false)) (by simp) (fun a i hi hv=>?_) (fun a hv=>?_)]
 ·simp only[replicate_fold,Option.bind_some]
 ·refine⟨?_,by simpa using hv⟩
  have hg:=List.getElem?_eq_getElem (l:=a) (i:=i) (by omega)
  simp (disch:=omega) only[List.length_replicate,Int.toNat_natCast,F_cell_Blank,Option.bind_some,hv,hg,decide_eq_true,cond_true,wsucc]
  rfl
 ·simp (disch:=omega) only[List.length_replicate,decide_eq_false,cond_false]
def grid0 (r c:Int):Grd:=(r,c,List.replicate (r*c).toNat blankC)
theorem fresh_eq (r c:Int):O_delta_fresh (r,c)=some (if sizeOk r c=true then (grid0 r c,true) else ((0,0,[]),false)):=by
 unfold O_delta_fresh O_grid_New
 rw[size_eq]
 cases hs:sizeOk r c with
 |false=>rfl
 |true=>
  obtain⟨h1,h2,h3⟩:=size_mul hs
  have hb:=blanks_eq (r*c).toNat (by omega)
  rw[Int.toNat_of_nonneg (by omega)]at hb
  simp only[Option.bind_some,Bool.not_true,cond_false,h3,hb]
  simp only[O_grid_Board_Grid,clone_eq (List.replicate (r*c).toNat blankC) (by simp;omega),Option.bind_some,decide_true,cond_true,if_true]
  rfl
def base (g:Grd) (r c:Int):Grd:=if g.1=r∧g.2.1=c then (r,c,g.2.2) else if sizeOk r c=true then grid0 r c else (0,0,[])
theorem base_eq (x:Img) (r c:Int) (h:x.2.2.1.length≤2^36):O_delta_base (x,(r,c))=some (base (x.1,x.2.1,x.2.2.1) r c):=by
 unfold O_delta_base base
 rw[fresh_eq,clone_eq _ h]
 by_cases a:x.1=r
 ·by_cases b:x.2.1=c
  ·simp[a,b]
  ·have:(x.2.1==c)=false:=beq_eq_false_iff_ne.2 b
   simp only[a,this,b,beq_self_eq_true,cond_true,cond_false,Option.bind_some,and_false,if_false]
   split<;>rfl
 ·have:(x.1==r)=false:=beq_eq_false_iff_ne.2 a
  simp only[a,this,Bool.false_beq,Bool.not_true,cond_false,Option.bind_some,false_and,if_false]
  split<;>rfl
end Go.Ideal.Seat
set_option linter.unusedVariables false
set_option linter.unusedSimpArgs false
namespace Go.Ideal.Seat
open Go.Ideal.Plain
abbrev Sp:=Int×Int×List Cell
theorem cellEq (a b:Cell):((a.1==b.1)&&((a.2.1==b.2.1)&&((a.2.2.1==b.2.2.1)&&((a.2.2.2==b.2.2.2)&&true))))=decide (a=b):=by
 obtain⟨a1,a2,a3,a4⟩:=a
 obtain⟨b1,b2,b3,b4⟩:=b
 rw[Bool.eq_iff_iff]
 simp
def addTo (out:List Sp) (c:Cell):List Sp:=match out.getLast? with
 |some s=>out.dropLast++[(s.1,s.2.1,s.2.2++[c])]
 |none=>out
def ends (out:List Sp) (r c:Int):Bool:=match out.getLast? with
 |some s=>decide (s.1=r)&&decide (s.2.1+s.2.2.length=c)
 |none=>false
def pStep (row:Int) (X Y:Nat→Cell) (i:Nat) (st:List Sp×Bool):List Sp×Bool:=
 if X i=Y i then (st.1,false) else if st.2=true then (addTo st.1 (Y i),true) else (st.1++[(row,(i:Int),[Y i])],true)
def rStep (C:Nat) (X Y:Nat→Cell) (j:Nat) (out:List Sp):List Sp:=
 if X j=Y j then out else if ends out (j/C:Nat) (j%C:Nat)=true then addTo out (Y j) else out++[(((j/C:Nat):Int),((j%C:Nat):Int),[Y j])]
theorem addTo_len (out:List Sp) (c:Cell):(addTo out c).length=out.length:=by
 unfold addTo
 cases h:out.getLast? with
 |none=>rfl
 |some s=>
  have:out≠[]:=by rintro rfl;simp at h
  have:=List.length_pos_iff.2 this
  simp;omega
theorem addTo_mem {out:List Sp} {c:Cell} {t:Sp} (h:t∈addTo out c):t∈out∨∃s,out.getLast? = some s∧t=(s.1,s.2.1,s.2.2++[c]):=by
 unfold addTo at h
 cases hl:out.getLast? with
 |none=>rw[hl]at h;exact .inl h
 |some s=>
  rw[hl]at h
  simp only[List.mem_append,List.mem_singleton]at h
  rcases h with h|h
  ·exact .inl (List.dropLast_subset _ h)
  ·exact .inr ⟨s,rfl,h⟩
theorem getD_get {α:Type} {l:List α} {i:Nat} {d:α} (h:i<l.length):l[i]? = some (l.getD i d):=by
 rw[List.getElem?_eq_getElem h,List.getD_eq_getElem?_getD,List.getElem?_eq_getElem h];rfl
theorem spans_eq (row:Int) (xs ys:List Cell) (hl:xs.length=ys.length) (h:ys.length≤2^20):
 F_delta_spans (row,xs,ys)=some (upTo (pStep row (xs.getD · blankC) (ys.getD · blankC)) ys.length ([],false)).1:=by
 unfold F_delta_spans
 rw[countLoop ys.length (fun(a:List Sp×Bool) i=>(a.1,(a.2,i))) (pStep row (xs.getD · blankC) (ys.getD · blankC)) (fun i a=>a.1.length≤i∧(∀s∈a.1,s.2.2.length≤i)∧(a.2=true→a.1≠[])) (fin:=fun a=>(a.1,a.2,(ys.length:Int),false)) (a:=([],false)) (by simp) (fun a i hi hv=>?_) (fun a hv=>?_)]
 ·simp only[Option.bind_some]
 ·obtain⟨out,op⟩:=a
  obtain⟨v1,v2,v3⟩:=hv
  simp only at v1 v2 v3
  have hx:=getD_get (l:=xs) (i:=i) (d:=blankC) (by omega)
  have hy:=getD_get (l:=ys) (i:=i) (d:=blankC) (by omega)
  generalize hX:xs.getD i blankC=cx at *
  generalize hY:ys.getD i blankC=cy at *
  have hi':(i:Int)<(ys.length:Int):=by omega
  have hsucc:=wsucc (i:=i) (by omega)
  simp only[hi',decide_true,cond_true,Int.natCast_nonneg,Int.toNat_natCast,hx,hy,Option.bind_some,cellEq,pStep,hX,hY,hsucc]
  by_cases hc:cx=cy
  ·simp only[hc,decide_true,cond_true,if_true]
   refine⟨trivial,by omega,fun s hs=>by have:=v2 s hs;omega,by simp⟩
  ·simp only[hc,decide_false,cond_false,if_false]
   cases op with
   |true=>
    obtain⟨s,hs⟩:∃s,out.getLast? = some s:=by
     cases hq:out.getLast? with
     |none=>exact(v3 rfl (by simpa using hq)).elim
     |some s=>exact⟨s,rfl⟩
    have hpos:0<out.length:=List.length_pos_iff.2 (v3 rfl)
    have hsm:s∈out:=List.mem_of_getLast? hs
    have hsl:=v2 s hsm
    have hg:out[out.length-1]? = some s:=by rw[←hs,List.getLast?_eq_getElem?]
    have hi1:IntKind.i64.wrap ((out.length:Int)-1)=((out.length-1:Nat):Int):=by rw[w64 (by omega) (by omega)];omega
    have hm:(s.2.2.length+1)*(32+1)≤most:=by unfold most;omega
    have hlt:out.length-1<out.length:=by omega
    simp only[Bool.not_true,cond_false,Option.bind_some,hi1,Int.natCast_nonneg,decide_true,cond_true,Int.toNat_natCast,hg,List.length_cons,List.length_nil,Nat.zero_add,hm,hlt,set_last hs,if_true,addTo,hs]
    refine⟨trivial,?_,?_,by simp⟩
    ·have:=addTo_len out cy
     unfold addTo at this;rw[hs]at this;simp only at this;omega
    ·intro t ht
     simp only[List.mem_append,List.mem_singleton]at ht
     rcases ht with ht|ht
     ·have:=v2 t (List.dropLast_subset _ ht);omega
     ·subst ht;simp;omega
   |false=>
    have hi1:IntKind.i64.wrap (((out++[((row,((i:Int),([]:List Cell))):Sp)]).length:Int)-1)=(out.length:Int):=by rw[List.length_append,w64 (by omega) (by simp only[List.length_cons,List.length_nil];omega)];simp
    have hm:(out.length+1)*(40+1)≤most:=by unfold most;omega
    have hm1:(0+1)*(32+1)≤most:=by unfold most;omega
    have hg:(out++[((row,((i:Int),([]:List Cell))):Sp)])[out.length]? = some (row,((i:Int),([]:List Cell))):=by simp
    have hlt:out.length<(out++[((row,((i:Int),([]:List Cell))):Sp)]).length:=by simp
    simp only[Bool.not_false,cond_true,List.length_cons,List.length_nil,Nat.zero_add,hm,decide_true,Option.bind_some,hi1,Int.natCast_nonneg,Int.toNat_natCast,hlt,hg,Nat.zero_add,Bool.false_eq_true,if_false]
    simp only[List.length_nil,Nat.zero_add]at hm1
    simp only[hm1,decide_true,cond_true]
    refine⟨by simp,by simp;omega,?_,by simp⟩
    intro t ht
    simp only[List.mem_append,List.mem_singleton]at ht
    rcases ht with ht|ht
    ·have:=v2 t ht;omega
    ·subst ht;simp
 ·have hi':¬(ys.length:Int)<(ys.length:Int):=by omega
  simp only[hi',decide_false,cond_false]
end Go.Ideal.Seat
set_option linter.unusedVariables false
set_option linter.unusedSimpArgs false
namespace Go.Ideal.Seat
open Go.Ideal.Plain
theorem upTo_add {A:Type} (g:Nat→A→A) (m:Nat):∀(k:Nat) (a:A),upTo g (m+k) a=upTo (fun i=>g (m+i)) k (upTo g m a)
 |0,_=>rfl
 |k+1,a=>by rw[←Nat.add_assoc];simp only[upTo];rw[upTo_add g m k]
theorem upTo_congr {A:Type} {g g':Nat→A→A} {a:A}:∀n,(∀i,i<n→∀a,g i a=g' i a)→upTo g n a=upTo g' n a
 |0,_=>rfl
 |n+1,h=>by simp only[upTo];rw[upTo_congr n fun i hi=>h i (by omega),h n (by omega)]
theorem addTo_append {p o:List Sp} (ho:o≠[]) (c:Cell):addTo (p++o) c=p++addTo o c:=by
 unfold addTo
 cases h:o.getLast? with
 |none=>exact(ho (by simpa using h)).elim
 |some s=>simp only[List.getLast?_append,h,Option.some_or,List.dropLast_append_of_ne_nil ho,List.append_assoc]
theorem addTo_last {o:List Sp} {s:Sp} (h:o.getLast? = some s) (c:Cell):(addTo o c).getLast? = some (s.1,s.2.1,s.2.2++[c]):=by
 unfold addTo;rw[h];simp
theorem ends_eq {o:List Sp} {s:Sp} (h:o.getLast? = some s) (r c:Int):ends o r c=(decide (s.1=r)&&decide (s.2.1+s.2.2.length=c)):=by unfold ends;rw[h]
abbrev rowP (C:Nat) (X Y:Nat→Cell) (r k:Nat):List Sp×Bool:=upTo (pStep (r:Int) (fun i=>X (r*C+i)) (fun i=>Y (r*C+i))) k ([],false)
theorem row_run (C:Nat) (X Y:Nat→Cell) (r:Nat) (prev:List Sp) (hp:∀s∈prev,s.1<r):∀k,k≤C→
 upTo (fun i=>rStep C X Y (r*C+i)) k prev=prev++(rowP C X Y r k).1∧ends (prev++(rowP C X Y r k).1) r k=(rowP C X Y r k).2∧(∀s∈(rowP C X Y r k).1,s.1=r∧s.2.1+s.2.2.length≤k)∧(rowP C X Y r k).1.length≤k
 |0,_=>by
  refine⟨by simp[upTo],?_,by simp[upTo],by simp[upTo]⟩
  simp only[upTo,List.append_nil]
  cases hl:prev.getLast? with
  |none=>simp[ends,hl]
  |some s=>
   have:=hp s (List.mem_of_getLast? hl)
   rw[ends_eq hl]
   have h1:¬s.1=r:=by omega
   simp[h1]
 |k+1,hk=>by
  obtain⟨i1,i2,i3,i4⟩:=row_run C X Y r prev hp k (by omega)
  have hd:(r*C+k)/C=r:=by rw[Nat.mul_comm,Nat.mul_add_div (by omega),Nat.div_eq_of_lt (by omega)];simp
  have hm:(r*C+k)%C=k:=by rw[Nat.mul_comm,Nat.mul_add_mod_self_left,Nat.mod_eq_of_lt (by omega)]
  simp only[upTo]
  rw[i1]
  unfold rowP at *
  generalize upTo (pStep (r:Int) (fun i=>X (r*C+i)) (fun i=>Y (r*C+i))) k ([],false)=st at *
  obtain⟨o,op⟩:=st
  simp only at i2 i3 i4 ⊢
  unfold rStep pStep
  rw[hd,hm,i2]
  by_cases hc:X (r*C+k)=Y (r*C+k)
  ·simp only[hc,if_true]
   refine⟨trivial,?_,fun s hs=>by have:=i3 s hs;omega,by omega⟩
   cases hl:(prev++o).getLast? with
   |none=>simp[ends,hl]
   |some s=>
    rw[ends_eq hl]
    rcases List.mem_append.1 (List.mem_of_getLast? hl)with h|h
    ·have:=hp s h
     have h1:¬s.1=r:=by omega
     simp[h1]
    ·have:=i3 s h
     have h1:¬s.2.1+s.2.2.length=((k+1:Nat):Int):=by omega
     simp only[h1,decide_false,Bool.and_false]
  ·simp only[hc,if_false]
   cases op with
   |true=>
    have ho:o≠[]:=by
     rintro rfl
     cases hl:prev.getLast? with
     |none=>simp[ends,hl]at i2
     |some s=>
      have:=hp s (List.mem_of_getLast? hl)
      simp only[List.append_nil]at i2
      rw[ends_eq hl]at i2
      simp at i2;omega
    obtain⟨s,hs⟩:∃s,o.getLast? = some s:=by
     cases hq:o.getLast? with
     |none=>exact(ho (by simpa using hq)).elim
     |some s=>exact⟨s,rfl⟩
    simp only[if_true]
    have hl:(prev++o).getLast? = some s:=by simp[List.getLast?_append,hs]
    have hl2:(prev++addTo o (Y (r*C+k))).getLast? = some (s.1,s.2.1,s.2.2++[Y (r*C+k)]):=by rw[List.getLast?_append,addTo_last hs];rfl
    rw[ends_eq hl]at i2
    simp only[Bool.and_eq_true,decide_eq_true_eq]at i2
    refine⟨addTo_append ho _,?_,?_,by rw[addTo_len];omega⟩
    ·rw[ends_eq hl2]
     have h1:s.2.1+((s.2.2++[Y (r*C+k)]).length:Int)=((k+1:Nat):Int):=by simp;omega
     simp only[i2.1,h1,decide_true,Bool.and_self]
    ·intro t ht
     rcases addTo_mem ht with h|⟨s',h1,h2⟩
     ·have:=i3 t h;omega
     ·rw[hs]at h1;injection h1 with h1;subst h1;subst h2
      simp;omega
   |false=>
    simp only[Bool.false_eq_true,if_false]
    have hl2:(prev++(o++[((r:Int),((k:Int),[Y (r*C+k)]))])).getLast? = some ((r:Int),((k:Int),[Y (r*C+k)])):=by simp
    refine⟨by simp,?_,?_,by simp;omega⟩
    ·rw[ends_eq hl2];simp
    ·intro t ht
     simp only[List.mem_append,List.mem_singleton]at ht
     rcases ht with h|h
     ·have:=i3 t h;omega
     ·subst h;simp
def allRows (C:Nat) (X Y:Nat→Cell) (R:Nat):List Sp:=upTo (fun r out=>out++(rowP C X Y r C).1) R []
theorem all_rows (C:Nat) (X Y:Nat→Cell):∀R,upTo (rStep C X Y) (R*C) []=allRows C X Y R∧(∀s∈allRows C X Y R,s.1<R)∧(allRows C X Y R).length≤R*C
 |0=>by refine⟨by simp[upTo,allRows],by simp[allRows,upTo],by simp[allRows,upTo]⟩
 |R+1=>by
  obtain⟨h1,h2,h3⟩:=all_rows C X Y R
  obtain⟨j1,j2,j3,j4⟩:=row_run C X Y R (allRows C X Y R) h2 C (Nat.le_refl _)
  have e:allRows C X Y (R+1)=allRows C X Y R++(rowP C X Y R C).1:=rfl
  have em:(R+1)*C=R*C+C:=by rw[Nat.add_mul,Nat.one_mul]
  refine⟨?_,?_,?_⟩
  ·rw[em,upTo_add,h1,j1,e]
  ·intro s hs
   rw[e]at hs
   rcases List.mem_append.1 hs with h|h
   ·have:=h2 s h;omega
   ·have:=(j3 s h).1;omega
  ·rw[e,List.length_append,em];omega
end Go.Ideal.Seat
set_option linter.unusedVariables false
set_option linter.unusedSimpArgs false
namespace Go.Ideal.Seat
open Go.Ideal.Plain
theorem img_nat {b:Img} (h:imageOk b=true):∃R C:Nat,b.1=R∧b.2.1=C∧1≤R∧R≤60∧1≤C∧C≤132∧b.2.2.1.length=R*C∧R*C≤7920∧sizeOk b.1 b.2.1=true∧(∀c∈b.2.2.1,cellOk c=true):=by
 unfold imageOk gridOk at h
 simp only[Bool.and_eq_true,decide_eq_true_eq,List.all_eq_true]at h
 obtain⟨⟨⟨⟨⟨hs,hl⟩,hc⟩,_⟩,_⟩,_⟩:=h
 have hs':=hs
 unfold sizeOk at hs'
 rw[decide_eq_true_eq]at hs'
 have hm:=size_mul hs
 refine⟨b.1.toNat,b.2.1.toNat,by omega,by omega,by omega,by omega,by omega,by omega,?_,?_,hs,hc⟩
 ·have:((b.1.toNat*b.2.1.toNat:Nat):Int)=b.1*b.2.1:=by rw[Int.natCast_mul,Int.toNat_of_nonneg (by omega),Int.toNat_of_nonneg (by omega)]
  omega
 ·have:((b.1.toNat*b.2.1.toNat:Nat):Int)=b.1*b.2.1:=by rw[Int.natCast_mul,Int.toNat_of_nonneg (by omega),Int.toNat_of_nonneg (by omega)]
  omega
theorem base_dim (g:Grd) {r c:Int} (hs:sizeOk r c=true):(base g r c).1=r∧(base g r c).2.1=c:=by
 unfold base
 split
 ·exact⟨rfl,rfl⟩
 ·exact⟨rfl,rfl⟩
theorem base_ok {g:Grd} (hg:gridOk g=true) {r c:Int} (hs:sizeOk r c=true):gridOk (base g r c)=true:=by
 unfold base
 split
 ·rename_i h
  have:(r,c,g.2.2)=g:=by rw[←h.1,←h.2]
  rw[this];exact hg
 ·obtain⟨h1,h2,_⟩:=size_mul hs
  unfold gridOk grid0
  simp only[hs,Bool.true_and,List.length_replicate,Bool.and_eq_true,decide_eq_true_eq,List.all_eq_true]
  refine⟨by omega,fun x hx=>?_⟩
  rw[List.eq_of_mem_replicate hx];exact blank_ok
theorem img_grid {b:Img} (h:imageOk b=true):gridOk (b.1,b.2.1,b.2.2.1)=true:=by
 unfold imageOk at h
 simp only[Bool.and_eq_true]at h
 exact h.1.1.1
theorem grid_len {g:Grd} (h:gridOk g=true) {R C:Nat} (h1:g.1=R) (h2:g.2.1=C):g.2.2.length=R*C:=by
 unfold gridOk at h
 simp only[Bool.and_eq_true,decide_eq_true_eq]at h
 have:=h.1.2
 rw[h1,h2,←Int.natCast_mul]at this
 omega
def spansOf (a b:Img):List Sp:=allRows b.2.1.toNat ((base (a.1,a.2.1,a.2.2.1) b.1 b.2.1).2.2.getD · blankC) (b.2.2.1.getD · blankC) b.1.toNat
abbrev Dlt:=Int×Int×List Sp×Int×Int×Bool×List UInt8×Int
def deltaD (a b:Img):Dlt:=(b.1,b.2.1,spansOf a b,b.2.2.2)
theorem getD_slice {l:List Cell} {i n k:Nat} (hk:k<n):((l.drop i).take n).getD k blankC=l.getD (i+k) blankC:=by
 simp only[List.getD_eq_getElem?_getD,List.getElem?_take,hk,if_true,List.getElem?_drop]
theorem rows_len (C:Nat) (X Y:Nat→Cell) (r:Nat):(rowP C X Y r C).1.length≤C:=(row_run C X Y r [] (by simp) C (Nat.le_refl _)).2.2.2
theorem deltaOf_eq (a b:Img) (h1:a.2.2.1.length≤2^36) (h2:b.2.2.1.length≤2^36) (h3:a.2.2.2.2.2.2.1.length≤2^36) (h4:b.2.2.2.2.2.2.1.length≤2^36):
 O_delta_Of (a,b)=some (if imageOk a=true∧imageOk b=true then (deltaD a b,0) else ((0,0,[],0,0,false,[],0),1)):=by
 unfold O_delta_Of
 simp only[paintRight_eq a (by omega) (by omega),paintRight_eq b (by omega) (by omega),Option.bind_some]
 cases ha:imageOk a with
 |false=>simp
 |true=>
  cases hb:imageOk b with
  |false=>simp
  |true=>
   obtain⟨R,C,e1,e2,r1,r2,c1,c2,hl,hle,hs,hc⟩:=img_nat hb
   simp only[Bool.not_true,beq_self_eq_true,cond_true,Option.bind_some,cond_false,base_eq a _ _ h1,and_self,if_true]
   have hg:=base_ok (img_grid ha) hs
   have hgl:=grid_len hg (by rw[(base_dim _ hs).1];exact e1) (by rw[(base_dim _ hs).2];exact e2)
   have hsp:spansOf a b=allRows C ((base (a.1,a.2.1,a.2.2.1) b.1 b.2.1).2.2.getD · blankC) (b.2.2.1.getD · blankC) R:=by unfold spansOf;rw[e1,e2];rfl
   unfold deltaD
   rw[hsp]
   generalize (base (a.1,a.2.1,a.2.2.1) b.1 b.2.1).2.2=xs at *
   obtain⟨b1,b2,ys,b3,b4,b5,b6,b7⟩:=b
   simp only at e1 e2 hl hc hgl ⊢
   subst e1;subst e2
   rw[countLoop R (fun(s:List Sp) i=>((R:Int),((C:Int),(s,(b3,(b4,(b5,(b6,(b7,i)))))))))
    (fun r out=>out++(rowP C (xs.getD · blankC) (ys.getD · blankC) r C).1) (fun i s=>s.length≤i*C)
    (fin:=fun s=>((R:Int),(C:Int),s,b3,b4,b5,b6,b7,(R:Int),false)) (by simp) (fun s i hi hv=>?_) (fun s hv=>?_)]
   ·rfl
   ·have hmul:i*C+C=(i+1)*C:=by rw[Nat.add_mul,Nat.one_mul]
    have hmul2:(i+1)*C≤R*C:=Nat.mul_le_mul_right _ hi
    have hA:IntKind.i64.wrap ((i:Int)*(C:Int))=((i*C:Nat):Int):=by rw[←Int.natCast_mul,w64 (by omega) (by omega)]
    have hB:IntKind.i64.wrap (((i+1:Nat):Int)*(C:Int))=(((i+1)*C:Nat):Int):=by rw[←Int.natCast_mul,w64 (by omega) (by omega)]
    have hi':(i:Int)<(R:Int):=by omega
    have hrl:=rows_len C (xs.getD · blankC) (ys.getD · blankC) i
    have hm:(s.length+(rowP C (xs.getD · blankC) (ys.getD · blankC) i C).1.length)*(40+1)≤most:=by unfold most;omega
    have hlx:i*C≤(i+1)*C∧(i+1)*C≤xs.length:=by omega
    have hly:i*C≤(i+1)*C∧(i+1)*C≤ys.length:=by omega
    have hsub:(i+1)*C-i*C=C:=by omega
    have hcong:upTo (pStep (i:Int) (((xs.drop (i*C)).take C).getD · blankC) (((ys.drop (i*C)).take C).getD · blankC)) C ([],false)=rowP C (xs.getD · blankC) (ys.getD · blankC) i C:=by
     refine upTo_congr C fun k hk st=>?_
     unfold pStep
     simp only[getD_slice hk]
    have hlen:∀l:List Cell,(i+1)*C≤l.length→((l.drop (i*C)).take C).length=C:=fun l hl=>by rw[List.length_take,List.length_drop];omega
    simp only[hi',decide_true,cond_true,wsucc (show i<2^62 by omega),hA,hB,Int.natCast_nonneg,Int.toNat_natCast,hlx,hly,and_self,hsub]
    rw[spans_eq _ _ _ (by rw[hlen _ hlx.2,hlen _ hly.2]) (by rw[hlen _ hly.2];omega),hlen _ hly.2,hcong]
    simp only[Option.bind_some,hm,decide_true,cond_true]
    exact⟨trivial,by rw[List.length_append];omega⟩
   ·simp (disch:=omega) only[decide_eq_false,cond_false]
end Go.Ideal.Seat
set_option linter.unusedVariables false
set_option linter.unusedSimpArgs false
namespace Go.Ideal.Seat
open Go.Ideal.Plain
def inRow (R C:Int) (s:Sp):Bool:=decide (0≤s.1∧s.1<R∧0≤s.2.1∧1≤s.2.2.length∧(s.2.2.length:Int)≤C∧s.2.1≤C-s.2.2.length)
def within (R C:Int) (s:Sp):Bool:=inRow R C s&&s.2.2.all cellOk
def follows (p s:Sp):Bool:=decide (p.1<s.1∨p.1=s.1∧p.2.1+p.2.2.length<s.2.1)
def spansOk (R C:Int):Option Sp→List Sp→Bool
 |_,[]=>true
 |none,s::r=>within R C s&&spansOk R C (some s) r
 |some p,s::r=>within R C s&&(follows p s&&spansOk R C (some s) r)
noncomputable def sideOk (R C:Int) (x:Int×Int×Bool×List UInt8×Int):Bool:=decide (0≤x.1∧x.1<R∧0≤x.2.1∧x.2.1<C)&&titleOk x.2.2.2.1&&decide (0≤x.2.2.2.2∧x.2.2.2.2≤1073741824)
noncomputable def deltaOk (d:Dlt):Bool:=sizeOk d.1 d.2.1&&sideOk d.1 d.2.1 d.2.2.2&&spansOk d.1 d.2.1 none d.2.2.1
theorem grid0_ok {r c:Int} (h:sizeOk r c=true):gridOk (grid0 r c)=true:=by
 have:=base_ok (g:=grid0 r c) (r:=r) (c:=c)
 obtain⟨h1,h2,_⟩:=size_mul h
 unfold gridOk grid0
 simp only[h,Bool.true_and,List.length_replicate,Bool.and_eq_true,decide_eq_true_eq,List.all_eq_true]
 refine⟨by omega,fun x hx=>?_⟩
 rw[List.eq_of_mem_replicate hx];exact blank_ok
theorem image0_ok {r c:Int} (h:sizeOk r c=true) (x:Int×Int×Bool×List UInt8×Int):imageOk (r,c,(grid0 r c).2.2,x)=sideOk r c x:=by
 unfold imageOk sideOk
 have:gridOk (r,c,(grid0 r c).2.2)=true:=grid0_ok h
 simp only[this,Bool.true_and]
theorem allIdx {E:Type} {l:List E} (p:E→Bool) {F:Int→Option (Int⊕(Int⊕(Int×Bool)))} {z:Int×Bool} (h1:∀(i:Nat) e,l[i]? = some e→F i=some (if p e=true then .inl ((i+1:Nat):Int) else .inr (.inl (i:Int))))
 (h2:F (l.length:Int)=some (.inr (.inr z))):iterL F 0=some (if l.all p=true then .inr z else .inl ((l.findIdx (fun e=>!p e):Nat):Int)):=by
 have key:∀(n i:Nat),i+n=l.length→iterL F (i:Int)=some (if (l.drop i).all p=true then .inr z else .inl ((i+(l.drop i).findIdx (fun e=>!p e):Nat):Int)):=by
  intro n
  induction n with
  |zero=>
   intro i hi
   have:i=l.length:=by omega
   subst this
   rw[iterL_inr h2];simp
  |succ n ih=>
   intro i hi
   have hlt:i<l.length:=by omega
   have hg:=List.getElem?_eq_getElem hlt
   have hf:=h1 i _ hg
   rw[List.drop_eq_getElem_cons hlt,List.all_cons,List.findIdx_cons]
   cases hp:p l[i] with
   |true=>
    rw[hp,if_pos rfl]at hf
    rw[iterL_inl hf,Bool.true_and,ih (i+1) (by omega)]
    simp only[Bool.not_true,cond_false]
    congr 2
    rw[show i+1+(l.drop (i+1)).findIdx (fun e=>!p e)=i+((l.drop (i+1)).findIdx (fun e=>!p e)+1) by omega]
   |false=>
    rw[hp,if_neg (by simp)]at hf
    rw[iterL_inr hf];simp
 have:=key l.length 0 (by omega)
 simpa using this
theorem within_eq (d:Dlt) (s:Sp) (hs:sizeOk d.1 d.2.1=true) (hl:s.2.2.length<2^40):F_delta_Delta_within (d,s)=some (within d.1 d.2.1 s):=by
 unfold F_delta_Delta_within within
 have hs':=hs
 unfold sizeOk at hs'
 rw[decide_eq_true_eq]at hs'
 have hw:IntKind.i64.wrap (d.2.1-(s.2.2.length:Int))=d.2.1-(s.2.2.length:Int):=w64 (by omega) (by omega)
 have key:(bif ((decide (s.1<0))==false) then (bif ((decide (s.1≥d.1))==false) then (bif ((decide (s.2.1<0))==false) then (bif (((((s.2.2.length):Nat):Int)==0)==false) then (bif ((decide ((((s.2.2.length):Nat):Int)>d.2.1))==false) then (some (decide (s.2.1>d.2.1-(((s.2.2.length):Nat):Int)))) else (some true)) else (some true)) else (some true)) else (some true)) else (some true))=some (!inRow d.1 d.2.1 s):=by
  unfold inRow
  have e0:((((s.2.2.length):Nat):Int)==0)=decide (s.2.2.length=0):=by rw[Bool.eq_iff_iff];simp
  rw[e0]
  by_cases a:s.1<0<;>by_cases b:s.1≥d.1<;>by_cases c:s.2.1<0<;>by_cases e:s.2.2.length=0<;>by_cases f:(s.2.2.length:Int)>d.2.1<;>by_cases g:s.2.1>d.2.1-(s.2.2.length:Int)<;>
   simp only[a,b,c,e,f,g,decide_true,decide_false,beq_self_eq_true,Bool.true_beq,Bool.false_beq,Bool.not_true,Bool.not_false,cond_true,cond_false,Option.some.injEq]<;>simp<;>omega
 simp only[hw,key,Option.bind_some]
 cases hr:inRow d.1 d.2.1 s with
 |false=>simp
 |true=>
  simp only[Bool.not_true,cond_false,Bool.true_and]
  rw[allIdx (l:=s.2.2) cellOk (z:=((s.2.2.length:Int),false)) (fun i e he=>?_) (by simp)]
  ·cases s.2.2.all cellOk with
   |true=>rfl
   |false=>
    have:((s.2.2.findIdx (fun e=>!cellOk e):Nat):Int)≥0:=by omega
    simp[this]
  ·have hi:=getE_bound he
   have hi':(i:Int)<(s.2.2.length:Int):=by omega
   simp only[hi',decide_true,cond_true,Int.natCast_nonneg,Int.toNat_natCast,he,Option.bind_some,F_delta_Delta_within_1,cellRight_eq,wsucc (show i<2^62 by omega)]
   cases cellOk e<;>rfl
def after (a:Option Sp) (s:Sp):Bool:=match a with
 |none=>true
 |some p=>follows p s
def rightStep (R C:Int) (a:Option Sp) (i:Nat) (s:Sp):Option Sp⊕(Bool⊕(Int×Bool)):=
 if (within R C s&&after a s)=true then .inl (some s) else .inr (.inl false)
theorem right_run (R C:Int) (z:Int×Bool):∀(l:List Sp) (i:Nat) (a:Option Sp),runL (fun a i e=>some (rightStep R C a i e)) (fun _=>some (.inr z)) i a l=some (if spansOk R C a l=true then .inr z else .inl false)
 |[],i,a=>by cases a<;>rfl
 |s::r,i,a=>by
  have hh:spansOk R C a (s::r)=((within R C s&&after a s)&&spansOk R C (some s) r):=by
   cases a with
   |none=>simp[spansOk,after]
   |some p=>simp[spansOk,after,Bool.and_assoc]
  have e:rightStep R C a i s=if (within R C s&&after a s)=true then .inl (some s) else .inr (.inl false):=rfl
  rw[hh]
  simp only[runL,Option.bind_some]
  rw[e]
  by_cases hq:(within R C s&&after a s)=true
  ·rw[if_pos hq,hq,Bool.true_and]
   exact right_run R C z r (i+1) (some s)
  ·rw[if_neg hq,(Bool.not_eq_true _).mp hq]
   simp
def fewD (d:Dlt):Prop:=d.2.2.1.length≤2^36∧(∀s∈d.2.2.1,s.2.2.length≤2^36)∧d.2.2.2.2.2.2.1.length≤2^36
theorem deltaRight_eq (d:Dlt) (hf:fewD d):F_delta_Right d=some (deltaOk d):=by
 obtain⟨f1,f2,f3⟩:=hf
 unfold F_delta_Right deltaOk
 rw[fresh_eq]
 cases hs:sizeOk d.1 d.2.1 with
 |false=>simp
 |true=>
  obtain⟨m1,m2,m3⟩:=size_mul hs
  simp only[if_true,Option.bind_some,O_delta_Delta_image,Bool.not_true,Bool.true_and,beq_self_eq_true,cond_true]
  have hp:F_paint_Right ((grid0 d.1 d.2.1).1,(grid0 d.1 d.2.1).2.1,(grid0 d.1 d.2.1).2.2,d.2.2.2)=some (sideOk d.1 d.2.1 d.2.2.2):=by
   rw[paintRight_eq _ (by simp[grid0];omega) (by show d.2.2.2.2.2.2.1.length<_;omega)]
   rw[←image0_ok hs];rfl
  simp only[hp,Option.bind_some]
  cases hi:sideOk d.1 d.2.1 d.2.2.2 with
  |false=>simp
  |true=>
   simp only[Bool.not_true,cond_false,Bool.true_and]
   rw[runLoop (l:=d.2.2.1) (A:=Option Sp) (fun _ i=>i) (rightStep d.1 d.2.1) (fun i a=>(a=if i=0 then none else d.2.2.1[i-1]?)∧∀p,a=some p→within d.1 d.2.1 p=true) (fin:=fun _=>.inr ((d.2.2.1.length:Int),false)) (a:=none) ⟨rfl,by simp⟩ (fun a i s he hlt hv=>?_) (fun a hv=>?_),right_run]
   ·simp only[Option.bind_some]
    cases spansOk d.1 d.2.1 none d.2.2.1<;>rfl
   ·have hi':(i:Int)<(d.2.2.1.length:Int):=by omega
    have hsl:=f2 s (List.mem_of_getElem? he)
    simp only[hi',decide_true,cond_true,Int.natCast_nonneg,Int.toNat_natCast,he,Option.bind_some,within_eq d s hs (by omega),wsucc (show i<2^62 by omega)]
    unfold rightStep
    cases hw:within d.1 d.2.1 s with
    |false=>simp
    |true=>
     simp only[Bool.not_true,cond_false,Bool.true_and]
     obtain⟨hv,hv2⟩:=hv
     by_cases h0:i=0
     ·subst h0
      rw[if_pos rfl]at hv
      subst hv
      left
      refine⟨some s,by simp[after],by simp,⟨by simpa using he.symm,fun p hp=>by injection hp with hp;rw[←hp];exact hw⟩⟩
     ·have hz:((i:Int)==0)=false:=beq_eq_false_iff_ne.2 (by omega)
      have hi1:IntKind.i64.wrap ((i:Int)-1)=((i-1:Nat):Int):=by rw[w64 (by omega) (by omega)];omega
      obtain⟨p,hp⟩:∃p,d.2.2.1[i-1]? = some p:=⟨_,List.getElem?_eq_getElem (by omega)⟩
      rw[if_neg h0,hp]at hv
      subst hv
      have hpw:=hv2 p rfl
      unfold within inRow at hpw
      simp only[Bool.and_eq_true,decide_eq_true_eq]at hpw
      have hs':=hs
      unfold sizeOk at hs'
      rw[decide_eq_true_eq]at hs'
      have hpl:IntKind.i64.wrap (p.2.1+(p.2.2.length:Int))=p.2.1+(p.2.2.length:Int):=w64 (by omega) (by omega)
      have key:(bif ((decide (s.1<p.1))==false) then (bif ((s.1==p.1)==true) then (some (decide (s.2.1≤p.2.1+(p.2.2.length:Int)))) else (some false)) else (some true))=some (!follows p s):=by
       unfold follows
       rcases Int.lt_trichotomy s.1 p.1 with h|h|h
       ·have h2:¬p.1<s.1:=by omega
        have h3:¬p.1=s.1:=by omega
        simp[h,h2,h3]
       ·by_cases c:s.2.1≤p.2.1+(p.2.2.length:Int)
        ·have c':¬p.2.1+(p.2.2.length:Int)<s.2.1:=by omega
         simp[h,c,c']
        ·have c':p.2.1+(p.2.2.length:Int)<s.2.1:=by omega
         simp[h,c,c']
       ·have h2:¬s.1<p.1:=by omega
        have h3:(s.1==p.1)=false:=beq_eq_false_iff_ne.2 (by omega)
        simp[h,h2,h3]
      simp only[hz,cond_false,hi1,Int.natCast_nonneg,decide_true,cond_true,Int.toNat_natCast,hp,Option.bind_some,hpl,key]
      cases hf:follows p s with
      |true=>
       left
       refine⟨some s,by simp[after,hf],by simp,⟨by simpa using he.symm,fun q hq=>by injection hq with hq;rw[←hq];exact hw⟩⟩
      |false=>
       right
       exact⟨.inl false,by simp[after,hf],by simp⟩
   ·simp
end Go.Ideal.Seat
set_option linter.unusedVariables false
set_option linter.unusedSimpArgs false
namespace Go.Ideal.Seat
open Go.Ideal.Plain
def Ord (C:Int) (out:List Sp):Prop:=(∀s∈out,0≤s.1∧0≤s.2.1∧s.2.2≠[]∧s.2.1+s.2.2.length≤C∧s.2.2.all cellOk=true)∧out.Pairwise fun p s=>follows p s=true
theorem ord_step {C:Nat} (hC:0<C) {X Y:Nat→Cell} {j:Nat} (hY:cellOk (Y j)=true) {out:List Sp} (h:Ord C out) (hb:∀s∈out,s.1<(j/C:Nat)∨s.1=(j/C:Nat)∧s.2.1+s.2.2.length≤(j%C:Nat)):Ord C (rStep C X Y j out):=by
 have hm:=Nat.mod_lt j hC
 unfold rStep
 generalize j/C=q at *
 generalize j%C=m at *
 split
 ·exact h
 ·split
  ·rename_i he
   cases hq:out.getLast? with
   |none=>unfold ends at he;rw[hq]at he;cases he
   |some s=>
    rw[ends_eq hq]at he
    simp only[Bool.and_eq_true,decide_eq_true_eq]at he
    have hsm:=List.mem_of_getLast? hq
    obtain⟨h1,h2⟩:=h
    have hsplit:out=out.dropLast++[s]:=(drop_last hq).symm
    rw[hsplit]at h2
    have h2':=List.pairwise_append.1 h2
    unfold Ord addTo
    rw[hq]
    refine⟨fun t ht=>?_,?_⟩
    ·simp only[List.mem_append,List.mem_singleton]at ht
     rcases ht with ht|ht
     ·exact h1 t (List.dropLast_subset _ ht)
     ·subst ht
      have:=h1 s hsm
      refine⟨this.1,this.2.1,by simp,by simp;omega,?_⟩
      rw[List.all_append,this.2.2.2.2];simp[hY]
    ·refine List.pairwise_append.2 ⟨h2'.1,List.pairwise_singleton _ _,fun a ha b hb'=>?_⟩
     simp only[List.mem_singleton]at hb'
     subst hb'
     have:=h2'.2.2 a ha s (by simp)
     unfold follows at this ⊢
     exact this
  ·rename_i he
   obtain⟨h1,h2⟩:=h
   refine⟨fun t ht=>?_,?_⟩
   ·simp only[List.mem_append,List.mem_singleton]at ht
    rcases ht with ht|ht
    ·exact h1 t ht
    ·subst ht
     refine⟨by simp,by simp,by simp,by simp;omega,by simp[hY]⟩
   ·refine List.pairwise_append.2 ⟨h2,List.pairwise_singleton _ _,fun a ha b hb'=>?_⟩
    simp only[List.mem_singleton]at hb'
    subst hb'
    have ha':=hb a ha
    unfold follows
    simp only[decide_eq_true_eq]
    rcases ha' with h|⟨ha1,ha2⟩
    ·exact .inl h
    ·right
     refine⟨ha1,?_⟩
     cases hq:out.getLast? with
     |none=>have:out=[]:=by simpa using hq
            subst this;simp at ha
     |some s=>
      have hsm:=List.mem_of_getLast? hq
      rw[ends_eq hq]at he
      simp only[Bool.and_eq_true,decide_eq_true_eq]at he
      have hsplit:out=out.dropLast++[s]:=(drop_last hq).symm
      rw[hsplit]at ha h2
      have h2':=List.pairwise_append.1 h2
      have hsb:=hb s hsm
      have hs1:=h1 s hsm
      rcases List.mem_append.1 ha with h|h
      ·have:=h2'.2.2 a h s (by simp)
       unfold follows at this
       simp only[decide_eq_true_eq]at this
       have hl:0<s.2.2.length:=List.length_pos_iff.2 hs1.2.2.1
       omega
      ·simp only[List.mem_singleton]at h
       subst h
       omega
theorem ord_all {C:Nat} (hC:0<C) {X Y:Nat→Cell} (hY:∀j,cellOk (Y j)=true):∀n,Ord C (upTo (rStep C X Y) n [])∧∀s∈upTo (rStep C X Y) n [],s.1<(n/C:Nat)∨s.1=(n/C:Nat)∧s.2.1+s.2.2.length≤(n%C:Nat)
 |0=>⟨⟨by simp[upTo],by simp[upTo]⟩,by simp[upTo]⟩
 |n+1=>by
  obtain⟨h1,h2⟩:=ord_all hC hY (X:=X) n
  have hs:=ord_step hC (X:=X) (hY n) h1 h2
  refine⟨hs,fun s h=>?_⟩
  have hm:=Nat.mod_lt n hC
  have e:=Nat.div_add_mod n C
  have hnext:((n+1)/C=n/C∧(n+1)%C=n%C+1)∨((n+1)/C=n/C+1∧(n+1)%C=0):=by
   by_cases hlt:n%C+1<C
   ·exact .inl ((Nat.div_mod_unique hC).2 ⟨by omega,hlt⟩)
   ·exact .inr ((Nat.div_mod_unique hC).2 ⟨by rw[Nat.mul_add,Nat.mul_one];omega,hC⟩)
  generalize (n+1)/C=q' at *
  generalize (n+1)%C=m' at *
  have hold:∀s∈upTo (rStep C X Y) n [],s.1<(q':Nat)∨s.1=(q':Nat)∧s.2.1+s.2.2.length≤(m':Nat):=fun s hs=>by
   have:=h2 s hs
   omega
  simp only[upTo]at h
  unfold rStep at h
  split at h
  ·exact hold s h
  ·split at h
   ·rename_i he
    rcases addTo_mem h with h|⟨s',q1,q2⟩
    ·exact hold s h
    ·rw[ends_eq q1]at he
     simp only[Bool.and_eq_true,decide_eq_true_eq]at he
     subst q2
     simp only[List.length_append,List.length_cons,List.length_nil]
     omega
   ·simp only[List.mem_append,List.mem_singleton]at h
    rcases h with h|h
    ·exact hold s h
    ·subst h
     simp only[List.length_cons,List.length_nil]
     omega
theorem ord_spans {R C:Int}:∀{l:List Sp} (a:Option Sp),Ord C l→(∀s∈l,s.1<R)→(∀p∈a,∀s∈l,follows p s=true)→spansOk R C a l=true
 |[],a,_,_,_=>by cases a<;>rfl
 |s::r,a,h,hr,ha=>by
  obtain⟨h1,h2⟩:=h
  have hs:=h1 s (by simp)
  have hsr:=hr s (by simp)
  have hw:within R C s=true:=by
   unfold within inRow
   have hl:0<s.2.2.length:=List.length_pos_iff.2 hs.2.2.1
   simp only[hs.2.2.2.2,Bool.and_true,decide_eq_true_eq]
   omega
  rw[List.pairwise_cons]at h2
  have ih:=ord_spans (R:=R) (C:=C) (l:=r) (some s) ⟨fun t ht=>h1 t (by simp[ht]),h2.2⟩ (fun t ht=>hr t (by simp[ht])) (fun p hp t ht=>by
   simp only[Option.mem_some_iff]at hp;subst hp;exact h2.1 t ht)
  cases a with
  |none=>simp only[spansOk,hw,ih,Bool.and_self]
  |some p=>simp only[spansOk,hw,ih,Bool.and_true,ha p rfl s (by simp)]
theorem sort_len {C:Int} {l:List Sp} (h:Ord C l):∀s∈l,(s.2.2.length:Int)≤C:=fun s hs=>by have:=h.1 s hs;omega
theorem spansOf_ord {a b:Img} (ha:imageOk a=true) (hb:imageOk b=true):Ord b.2.1 (spansOf a b)∧(∀s∈spansOf a b,s.1<b.1)∧(spansOf a b).length≤7920:=by
 obtain⟨R,C,e1,e2,r1,r2,c1,c2,hl,hle,hs,hc⟩:=img_nat hb
 unfold spansOf
 rw[e1,e2]
 obtain⟨a1,a2,a3⟩:=all_rows C ((base (a.1,a.2.1,a.2.2.1) R C).2.2.getD · blankC) (b.2.2.1.getD · blankC) R
 simp only[Int.toNat_natCast]
 refine⟨?_,a2,by omega⟩
 rw[←a1]
 refine(ord_all (by omega) (fun j=>?_) _).1
 by_cases hj:j<b.2.2.1.length
 ·rw[List.getD_eq_getElem?_getD,List.getElem?_eq_getElem hj];exact hc _ (List.getElem_mem hj)
 ·rw[List.getD_eq_getElem?_getD,List.getElem?_eq_none (by omega)];exact blank_ok
theorem deltaD_few {a b:Img} (ha:imageOk a=true) (hb:imageOk b=true) (ht:b.2.2.2.2.2.2.1.length≤2^36):fewD (deltaD a b):=by
 obtain⟨R,C,e1,e2,r1,r2,c1,c2,hl,hle,hs,hc⟩:=img_nat hb
 obtain⟨h1,h2,h3⟩:=spansOf_ord ha hb
 refine⟨by unfold deltaD;simp only;omega,fun s hs=>?_,ht⟩
 have:=sort_len h1 s hs
 omega
theorem deltaD_ok {a b:Img} (ha:imageOk a=true) (hb:imageOk b=true):deltaOk (deltaD a b)=true:=by
 obtain⟨R,C,e1,e2,r1,r2,c1,c2,hl,hle,hs,hc⟩:=img_nat hb
 obtain⟨h1,h2,h3⟩:=spansOf_ord ha hb
 unfold deltaOk deltaD
 simp only[hs,Bool.true_and,ord_spans none h1 h2 (by simp),Bool.and_true]
 unfold imageOk at hb
 unfold sideOk
 simp only[Bool.and_eq_true]at hb ⊢
 exact⟨⟨hb.1.1.2,hb.1.2⟩,hb.2⟩
theorem cells_same (a b:List Cell) (h:a.length≤2^60):F_batonref09_Same (a,b)=some (decide (a=b)):=by
 unfold F_batonref09_Same
 by_cases hl:a.length=b.length
 ·have hne:((((a.length):Nat):Int) != (((b.length):Nat):Int))=false:=by simp[hl]
  simp only[hne,cond_false]
  rw[sameLoop (l:=a) (m:=b) hl (fun d e=>decide (d=e)) (z:=((a.length:Int),false)) (fun i d e hd he=>?_) (by simp)]
  ·have:=zip_all_eq (l:=a) (m:=b) hl (p:=fun x=>decide (x.1=x.2)) (by simp)
   by_cases hab:a=b
   ·rw[if_pos (this.2 hab)];simp[hab]
   ·rw[if_neg (fun h=>hab (this.1 h))];simp[hab]
  ·have hi:=getE_bound hd
   have hi':(i:Int)<(a.length:Int):=by omega
   simp only[hi',decide_true,cond_true,Int.natCast_nonneg,Int.toNat_natCast,hd,he,Option.bind_some,cellEq,wsucc (show i<2^62 by omega)]
   by_cases hde:d=e<;>simp[hde]
 ·have hne:((((a.length):Nat):Int) != (((b.length):Nat):Int))=true:=by simp;omega
  have:a≠b:=fun e=>hl (by rw[e])
  simp only[hne,cond_true,this,decide_false]
end Go.Ideal.Seat
set_option linter.unusedVariables false
set_option linter.unusedSimpArgs false
namespace Go.Ideal.Seat
open Go.Ideal.Plain
theorem few_eq (x:Img):F_batonlaw17_Few x=some (decide (x.2.2.1.length≤200)&&decide (x.2.2.2.2.2.2.1.length≤200)):=by
 unfold F_batonlaw17_Few
 have e:∀n:Nat,decide ((n:Int)≤200)=decide (n≤200):=fun n=>by rw[decide_eq_decide];omega
 simp only[e]
 cases decide (x.2.2.1.length≤200)<;>rfl
end Go.Ideal.Seat
set_option linter.unusedVariables false
set_option linter.unusedSimpArgs false
namespace Go.Ideal.Seat
open Go.Ideal.Plain
theorem spansOk_within {R C:Int}:∀{l:List Sp} {a:Option Sp},spansOk R C a l=true→∀s∈l,within R C s=true
 |[],_,_,s,hs=>by simp at hs
 |t::r,a,h,s,hs=>by
  have h2:within R C t=true∧spansOk R C (some t) r=true:=by
   cases a with
   |none=>simpa [spansOk]using h
   |some p=>simp[spansOk]at h;exact⟨h.1,h.2.2⟩
  rcases List.mem_cons.1 hs with rfl|hs
  ·exact h2.1
  ·exact spansOk_within h2.2 s hs
theorem inRow_nat {R C:Int} {s:Sp} (hs:sizeOk R C=true) (h:inRow R C s=true):0≤s.1*C∧s.1*C+C≤R*C∧R*C≤7920∧0≤s.2.1∧s.2.1+s.2.2.length≤C∧1≤s.2.2.length:=by
 obtain⟨m1,m2,m3⟩:=size_mul hs
 unfold sizeOk at hs
 unfold inRow at h
 rw[decide_eq_true_eq]at hs h
 have a:=Int.mul_nonneg h.1 (show 0≤C by omega)
 have b:(s.1+1)*C≤R*C:=Int.mul_le_mul_of_nonneg_right (by omega) (by omega)
 rw[Int.add_mul,Int.one_mul]at b
 omega
def putSpan (C:Int) (l:List Cell) (s:Sp):List Cell:=l.take (s.1*C+s.2.1).toNat++s.2.2++l.drop ((s.1*C+s.2.1).toNat+s.2.2.length)
def applied (a:Img) (d:Dlt):Img:=(d.1,d.2.1,d.2.2.1.foldl (putSpan d.2.1) (base (a.1,a.2.1,a.2.2.1) d.1 d.2.1).2.2,d.2.2.2)
theorem putSpan_len {R C:Int} {l:List Cell} {s:Sp} (hs:sizeOk R C=true) (h:inRow R C s=true) (hl:(l.length:Int)=R*C):(putSpan C l s).length=l.length:=by
 obtain⟨a,b,c,d,e,f⟩:=inRow_nat hs h
 unfold putSpan
 simp only[List.length_append,List.length_take,List.length_drop]
 omega
theorem apply_eq (a:Img) (d:Dlt) (h1:a.2.2.1.length≤2^36) (h2:a.2.2.2.2.2.2.1.length≤2^36) (hf:fewD d):
 O_delta_Apply (a,d)=some (if imageOk a=true then if deltaOk d=true then (applied a d,0) else ((0,0,[],0,0,false,[],0),6) else ((0,0,[],0,0,false,[],0),1)):=by
 unfold O_delta_Apply
 simp only[paintRight_eq a (by omega) (by omega),deltaRight_eq d hf,Option.bind_some]
 cases ha:imageOk a with
 |false=>rfl
 |true=>
  cases hd:deltaOk d with
  |false=>rfl
  |true=>
   have hd':=hd
   unfold deltaOk at hd'
   simp only[Bool.and_eq_true]at hd'
   obtain⟨⟨hs,_⟩,hsp⟩:=hd'
   have hw:=spansOk_within hsp
   have hg:=base_ok (img_grid ha) hs
   have hgl:((base (a.1,a.2.1,a.2.2.1) d.1 d.2.1).2.2.length:Int)=d.1*d.2.1:=by
    unfold gridOk at hg
    simp only[Bool.and_eq_true,decide_eq_true_eq]at hg
    rw[hg.1.2,(base_dim _ hs).1,(base_dim _ hs).2]
   simp only[Bool.not_true,cond_false,base_eq a _ _ h1,Option.bind_some,(base_dim _ hs).1,(base_dim _ hs).2,if_true]
   have hsl:=hf.1
   rw[foldLoop (l:=d.2.2.1) (fun(l:List Cell) i=>(d.1,d.2.1,l,i)) (putSpan d.2.1) (fun _ l=>(l.length:Int)=d.1*d.2.1) (fin:=fun l=>(d.1,d.2.1,l,(d.2.2.1.length:Int),false)) hgl (fun l i s he hi hv=>?_) (fun l hv=>by simp)]
   ·rfl
   ·have hin:inRow d.1 d.2.1 s=true:=by
     have:=hw s (List.mem_of_getElem? he)
     unfold within at this
     simp only[Bool.and_eq_true]at this
     exact this.1
    refine⟨?_,by rw[putSpan_len hs hin hv];exact hv⟩
    obtain⟨b1,b2,b3,b4,b5,b6⟩:=inRow_nat hs hin
    have hi':(i:Int)<(d.2.2.1.length:Int):=by omega
    have w1:IntKind.i64.wrap (s.1*d.2.1)=s.1*d.2.1:=w64 (by omega) (by omega)
    have w2:IntKind.i64.wrap (s.1*d.2.1+s.2.1)=s.1*d.2.1+s.2.1:=w64 (by omega) (by omega)
    have c1:0≤s.1*d.2.1+s.2.1:=by omega
    have c2:(s.1*d.2.1+s.2.1).toNat≤l.length∧l.length≤l.length:=by omega
    have c3:(s.1*d.2.1+s.2.1).toNat+(l.length-(s.1*d.2.1+s.2.1).toNat)≤l.length:=by omega
    have c4:min s.2.2.length (l.length-(s.1*d.2.1+s.2.1).toNat)=s.2.2.length:=by omega
    simp only[hi',decide_true,cond_true,Int.natCast_nonneg,Int.toNat_natCast,he,Option.bind_some,w1,w2,c1,c2,c3,c4,and_self,List.take_length,wsucc (show i<2^62 by omega)]
    rfl
theorem imgSame_refl (x:Img) (h:x.2.2.1.length≤2^60):F_batonref16_Same (x,x)=some true:=by
 unfold F_batonref16_Same F_batonref10_Same
 simp only[beq_self_eq_true,cond_true,cells_same _ _ h,Option.bind_some,decide_true]
end Go.Ideal.Seat
set_option linter.unusedVariables false
set_option linter.unusedSimpArgs false
namespace Go.Ideal.Plain
def numPre (n:Nat):List Int:=if n<128 then [] else ((n%128+128:Nat):Int)::numPre (n/128)
termination_by n
decreasing_by omega
def numTop (n:Nat):Nat:=if n<128 then n else numTop (n/128)
termination_by n
decreasing_by omega
def numB (n:Nat):List Int:=numPre n++[(numTop n:Int)]
theorem numPre_small {n:Nat} (h:n<128):numPre n=[]:=by rw[numPre,if_pos h]
theorem numTop_small {n:Nat} (h:n<128):numTop n=n:=by rw[numTop,if_pos h]
theorem numPre_big {n:Nat} (h:128≤n):numPre n=((n%128+128:Nat):Int)::numPre (n/128):=by rw[numPre,if_neg (by omega)]
theorem numTop_big {n:Nat} (h:128≤n):numTop n=numTop (n/128):=by rw[numTop,if_neg (by omega)]
theorem numB_small {n:Nat} (h:n<128):numB n=[(n:Int)]:=by unfold numB;rw[numPre_small h,numTop_small h];rfl
theorem numB_big {n:Nat} (h:128≤n):numB n=((n%128+128:Nat):Int)::numB (n/128):=by unfold numB;rw[numPre_big h,numTop_big h];rfl
theorem numTop_lt:∀n,numTop n<128:=by
 intro n
 induction n using Nat.strongRecOn with
 |ind n ih=>
  by_cases h:n<128
  ·rw[numTop_small h];exact h
  ·rw[numTop_big (by omega)];exact ih _ (by omega)
theorem numPre_len:∀k n,n<128^(k+1)→(numPre n).length≤k
 |0,n,h=>by rw[numPre_small (by simpa using h)];simp
 |k+1,n,h=>by
  by_cases h1:n<128
  ·rw[numPre_small h1];simp
  ·rw[numPre_big (by omega),List.length_cons]
   have:n/128<128^(k+1):=by rw[Nat.div_lt_iff_lt_mul (by decide)];rw[Nat.pow_succ]at h;exact h
   have:=numPre_len k (n/128) this
   omega
theorem numB_len {n:Nat} (h:n<2^62):(numB n).length≤9:=by
 have:=numPre_len 8 n (by omega)
 unfold numB
 simp;omega
theorem numB_bytes:∀n,∀x∈numB n,0≤x∧x<256:=by
 intro n
 induction n using Nat.strongRecOn with
 |ind n ih=>
  intro x hx
  by_cases h:n<128
  ·rw[numB_small h,List.mem_singleton]at hx;omega
  ·rw[numB_big (by omega)]at hx
   rcases List.mem_cons.1 hx with h|h
   ·omega
   ·exact ih _ (by omega) x h
section
variable {S X Y:Type}
theorem numLoop (mk:Int→List Int→S) {fin:Int→List Int→X} {F:S→Option (S⊕X)} (h1:∀(n:Nat) out,128≤n→n<2^62→out.length≤2^40→F (mk n out)=some (.inl (mk (n/128:Nat) (out++[((n%128+128:Nat):Int)]))))
 (h2:∀(n:Nat) out,n<128→F (mk n out)=some (.inr (fin n out))):∀(n:Nat) (out:List Int),n<2^62→out.length+(numPre n).length≤2^40→iterL F (mk n out)=some (fin (numTop n) (out++numPre n)):=by
 intro n
 induction n using Nat.strongRecOn with
 |ind n ih=>
  intro out hn ho
  by_cases h:n<128
  ·rw[iterL_inr (h2 n out h),numTop_small h,numPre_small h,List.append_nil]
  ·rw[numPre_big (by omega),List.length_cons]at ho
   rw[iterL_inl (h1 n out (by omega) hn (by omega)),ih (n/128) (by omega) (out++[((n%128+128:Nat):Int)]) (by omega) (by rw[List.length_append];simp only[List.length_cons,List.length_nil];omega),numTop_big (n:=n) (by omega),numPre_big (n:=n) (by omega)]
   simp
def rdN:Nat→Nat→Int→List Int→List Int×Int×Int
 |0,_,_,l=>(l,5,0)
 |_+1,_,_,[]=>([],4,0)
 |k+1,i,acc,x::r=>if x=0∧0<i then (r,6,0) else if x<128 then (r,0,acc+x*128^i) else rdN k (i+1) (acc+(x-128)*128^i) r
theorem rdLoop (mk:List Int→Int→Int→S) {F:S→Option (S⊕X)} {post:X→Option Y} (out:List Int→Int→Int→Y) (P:List Int→Prop) (hP:∀x r,P (x::r)→P r∧0≤x∧x<256)
 (h1:∀b acc (i:Nat),i<8→0≤acc→acc<128^i→P b→(b=[]→∃x,F (mk b acc i)=some (.inr x)∧post x=some (out [] 4 0))∧∀c r,b=c::r→0≤c→c<256→
   (c=0∧0<i→∃x,F (mk b acc i)=some (.inr x)∧post x=some (out r 6 0))∧(¬(c=0∧0<i)→c<128→∃x,F (mk b acc i)=some (.inr x)∧post x=some (out r 0 (acc+c*128^i)))∧
   (¬c<128→F (mk b acc i)=some (.inl (mk r (acc+(c-128)*128^i) ((i+1:Nat):Int)))))
 (h8:∀b acc,P b→0≤acc→acc<128^8→∃x,F (mk b acc 8)=some (.inr x)∧post x=some (out b 5 0)) {b:List Int} (hb:P b):
 (iterL F (mk b 0 0)).bind post=some (out (rdN 8 0 0 b).1 (rdN 8 0 0 b).2.1 (rdN 8 0 0 b).2.2):=by
 have key:∀(k i:Nat) (acc:Int) (b:List Int),k+i=8→0≤acc→acc<128^i→P b→(iterL F (mk b acc i)).bind post=some (out (rdN k i acc b).1 (rdN k i acc b).2.1 (rdN k i acc b).2.2):=by
  intro k
  induction k with
  |zero=>
   intro i acc b hk ha ha2 hb
   have:i=8:=by omega
   subst this
   obtain⟨x,e1,e2⟩:=h8 b acc hb ha ha2
   have e1':F (mk b acc ((8:Nat):Int))=some (.inr x):=e1
   rw[iterL_inr e1']
   exact e2
  |succ k ih=>
   intro i acc b hk ha ha2 hb
   obtain⟨q1,q2⟩:=h1 b acc i (by omega) ha ha2 hb
   cases b with
   |nil=>
    obtain⟨x,e1,e2⟩:=q1 rfl
    rw[iterL_inr e1]
    exact e2
   |cons c r=>
    obtain⟨hr,hc1,hc2⟩:=hP c r hb
    obtain⟨r1,r2,r3⟩:=q2 c r rfl hc1 hc2
    have hp:(0:Int)<128^i:=Int.pow_pos (by decide)
    by_cases h0:c=0∧0<i
    ·obtain⟨x,e1,e2⟩:=r1 h0
     rw[iterL_inr e1]
     simp only[rdN,if_pos h0]
     exact e2
    ·by_cases h2:c<128
     ·obtain⟨x,e1,e2⟩:=r2 h0 h2
      rw[iterL_inr e1]
      simp only[rdN,if_neg h0,if_pos h2]
      exact e2
     ·rw[iterL_inl (r3 h2)]
      simp only[rdN,if_neg h0,if_neg h2]
      have m1:0≤(c-128)*128^i:=Int.mul_nonneg (by omega) (by omega)
      have m2:(c-128)*128^i≤127*128^i:=Int.mul_le_mul_of_nonneg_right (by omega) (by omega)
      exact ih (i+1) _ r (by omega) (by omega) (by rw[Int.pow_succ];omega) hr
 exact key 8 0 0 b rfl (by decide) (by decide) hb
end
theorem mul_split {acc a b n p:Int} (h:a+128*b=n):acc+a*p+b*(p*128)=acc+n*p:=by
 rw[←h,Int.add_mul,show b*(p*128)=128*b*p by rw[Int.mul_comm p,←Int.mul_assoc,Int.mul_comm b]]
 omega
theorem rdN_numB:∀(k i:Nat) (n:Nat) (acc:Int) (r:List Int),n<128^k→(0<i→0<n)→(i=0→0<k)→rdN k i acc (numB n++r)=(r,0,acc+n*128^i)
 |0,i,n,acc,r,h,h0,hk=>by
  have:n=0:=by simpa using h
  omega
 |k+1,i,n,acc,r,h,h0,hk=>by
  by_cases h1:n<128
  ·rw[numB_small h1]
   simp only[List.cons_append,List.nil_append,rdN]
   rw[if_neg (by omega),if_pos (by omega)]
  ·rw[numB_big (by omega)]
   simp only[List.cons_append,rdN]
   rw[if_neg (by omega),if_neg (by omega),rdN_numB k (i+1) (n/128) _ r (by rw[Nat.div_lt_iff_lt_mul (by decide)];rw[Nat.pow_succ]at h;exact h) (fun _=>by omega) (fun h=>by omega)]
   have e:acc+(((n%128+128:Nat):Int)-128)*128^i+((n/128:Nat):Int)*128^(i+1)=acc+(n:Int)*128^i:=by
    rw[Int.pow_succ]
    exact mul_split (by omega)
   rw[e]
theorem rdN_back:∀(k i:Nat) (acc:Int) (b r:List Int) (v:Int),(∀x∈b,0≤x∧x<256)→rdN k i acc b=(r,0,v)→∃n:Nat,v=acc+n*128^i∧b=numB n++r∧n<128^k∧(0<i→0<n)
 |0,i,acc,b,r,v,hb,h=>by simp[rdN]at h
 |k+1,i,acc,[],r,v,hb,h=>by simp[rdN]at h
 |k+1,i,acc,x::b,r,v,hb,h=>by
  have hx:=hb x (by simp)
  simp only[rdN]at h
  split at h
  ·simp at h
  ·split at h
   ·rename_i h0 h1
    simp only[Prod.mk.injEq,true_and]at h
    obtain⟨rfl,rfl⟩:=h
    refine⟨x.toNat,by rw[Int.toNat_of_nonneg hx.1],?_,?_,by omega⟩
    ·rw[numB_small (by omega),Int.toNat_of_nonneg hx.1];rfl
    ·have:0<128^k:=Nat.pow_pos (by decide)
     rw[Nat.pow_succ];omega
   ·rename_i h0 h1
    obtain⟨n,e1,e2,e3,e4⟩:=rdN_back k (i+1) _ b r v (fun y hy=>hb y (by simp[hy])) h
    have hn:=e4 (by omega)
    refine⟨(x-128).toNat+128*n,?_,?_,?_,fun _=>by omega⟩
    ·rw[e1,Int.pow_succ]
     exact mul_split (by omega)
    ·have d1:((x-128).toNat+128*n)%128=(x-128).toNat:=by omega
     have d2:((x-128).toNat+128*n)/128=n:=by omega
     rw[numB_big (by omega),d1,d2,e2]
     simp;omega
    ·rw[Nat.pow_succ];omega
end Go.Ideal.Plain
set_option linter.unusedVariables false
set_option linter.unusedSimpArgs false
namespace Go.Ideal.Seat
open Go.Ideal.Plain
theorem w8i {x:Int} (h:0≤x) (h2:x<256):IntKind.wrap .u8 x=x:=Go.IntWalk.u8_in _ ⟨h,by omega⟩
theorem tmod_n (n:Nat):Int.tmod (n:Int) 128=((n%128:Nat):Int):=by rw[Int.tmod_eq_emod_of_nonneg (by omega)];rfl
theorem tdiv_n (n:Nat):Int.tdiv (n:Int) 128=((n/128:Nat):Int):=by rw[Int.tdiv_eq_ediv_of_nonneg (by omega)];rfl
theorem add_eq (b l:List Int) (h:b.length+l.length≤2^42):O_codec_Writer_add ((b,0),l)=some (b++l,0):=by
 unfold O_codec_Writer_add
 have hm:(b.length+l.length)*(1+1)≤most:=by unfold most;omega
 simp only[beq_self_eq_true,cond_true,hm,decide_true]
theorem wNum_eq (b:List Int) (n:Nat) (h:n≤72057594037927935) (hb:b.length≤2^39):O_codec_Writer_Number ((b,0),(n:Int))=some (b++numB n,0):=by
 unfold O_codec_Writer_Number
 have hl:=numPre_len 8 n (by omega)
 have ht:=numTop_lt n
 have h0:¬(n:Int)<0:=by omega
 have h1:¬(n:Int)>72057594037927935:=by omega
 simp only[h0,h1,decide_false,beq_self_eq_true,cond_true,Option.bind_some,cond_false]
 rw[numLoop (fun n out=>(out,(0:Int),n)) (fin:=fun n out=>(out,0,n,false)) (fun n out h1 h2 h3=>?_) (fun n out h1=>?_) n b (by omega) (by omega)]
 ·simp only[Option.bind_some,w8i (show 0≤((numTop n:Nat):Int) by omega) (by omega)]
  rw[add_eq _ _ (by simp;omega)]
  simp only[Option.bind_some,numB,List.append_assoc]
 ·have hg:(n:Int)≥128:=by omega
  have w1:IntKind.wrap .u8 (IntKind.wrap .u8 ((n%128:Nat):Int)+128)=((n%128+128:Nat):Int):=by rw[w8i (x:=((n%128:Nat):Int)) (by omega) (by omega),w8i (by omega) (by omega)];rfl
  have w2:IntKind.wrap .i64 ((n/128:Nat):Int)=((n/128:Nat):Int):=w64 (by omega) (by omega)
  simp only[hg,decide_true,cond_true,tmod_n,tdiv_n,w1,w2]
  rw[add_eq _ _ (by simp;omega)]
  rfl
 ·have hg:¬(n:Int)≥128:=by omega
  simp only[hg,decide_false,cond_false]
theorem wText_eq (b l:List Int) (h:l.length≤2^36) (hb:b.length≤2^38):O_codec_Writer_Text ((b,0),l)=some (b++numB l.length++l,0):=by
 unfold O_codec_Writer_Text
 have:=numB_len (n:=l.length) (by omega)
 rw[wNum_eq b l.length (by omega) (by omega)]
 simp only[Option.bind_some]
 rw[add_eq _ _ (by simp;omega)]
 rfl
theorem wBool_eq (b:List Int) (x:Bool) (hb:b.length≤2^40):O_codec_Writer_Bool ((b,0),x)=some (b++[if x then 1 else 0],0):=by
 unfold O_codec_Writer_Bool
 cases x
 ·simp only[cond_false];rw[add_eq _ _ (by simp;omega)];rfl
 ·simp only[cond_true];rw[add_eq _ _ (by simp;omega)];rfl
theorem wBytes_eq (b:List Int) (hb:b.length≤2^40):O_codec_Writer_Bytes (b,0)=some ((b,0),(b,0)):=by
 unfold O_codec_Writer_Bytes
 have hm:(([]:List Int).length+b.length)*(1+1)≤most:=by unfold most;simp;omega
 simp only[bne_self_eq_false,cond_false,hm,decide_true,cond_true,List.nil_append]
def bytesIn (l:List Int):Prop:=(∀x∈l,0≤x∧x<256)∧l.length≤2^36
theorem bytesIn_cons {x:Int} {r:List Int} (h:bytesIn (x::r)):bytesIn r∧0≤x∧x<256:=⟨⟨fun y hy=>h.1 y (by simp[hy]),by have:=h.2;simp at this;omega⟩,h.1 x (by simp)⟩
theorem take_eq (b:List Int) (n:Nat):O_codec_Reader_take ((b,0),(n:Int))=some (if n≤b.length then ((b.drop n,0),b.take n,true) else ((b,4),[],false)):=by
 unfold O_codec_Reader_take
 by_cases h:n≤b.length
 ·have h1:¬(n:Int)>(b.length:Int):=by omega
  have h2:0≤n∧n≤b.length:=by omega
  have h3:n≤b.length∧b.length≤b.length:=by omega
  have h4:(b.drop n).take (b.length-n)=b.drop n:=by rw[List.take_of_length_le (by simp)]
  simp only[bne_self_eq_false,beq_self_eq_true,cond_true,h1,decide_false,Option.bind_some,cond_false,Int.natCast_nonneg,decide_true,Int.toNat_natCast,h2,h3,and_self,h,if_true,h4,List.drop_zero,Nat.sub_zero]
 ·have h1:(n:Int)>(b.length:Int):=by omega
  simp only[bne_self_eq_false,beq_self_eq_true,cond_true,h1,decide_true,Option.bind_some,if_neg h,O_codec_Reader_Fail]
theorem take_bad (b:List Int) (e n:Int) (he:e≠0):O_codec_Reader_take ((b,e),n)=some ((b,e),[],false):=by
 unfold O_codec_Reader_take O_codec_Reader_Fail
 have h1:(e != 0)=true:=by simpa using he
 have h2:(e==0)=false:=by simpa using he
 simp only[h1,h2,Bool.true_beq,Bool.not_true,cond_false,Option.bind_some,cond_true]
theorem or_add {acc y:Nat} (i:Nat) (h:acc<2^(7*i)):acc|||(y*2^(7*i))=acc+y*2^(7*i):=by
 have:=Nat.two_pow_add_eq_or_of_lt h y
 rw[Nat.mul_comm,Nat.or_comm,←this,Nat.add_comm]
theorem and127 (n:Nat):n&&&127=n%128:=Nat.and_two_pow_sub_one_eq_mod n 7
theorem low7 {c:Int} (h:0≤c) (h2:c<256):(BitVec.ofInt (IntKind.bits .u8) c&&&BitVec.ofInt (IntKind.bits .u8) 127).toNat=c.toNat%128:=by
 obtain⟨n,rfl⟩:=Int.eq_ofNat_of_zero_le h
 have e:BitVec.ofInt (IntKind.bits .u8) (n:Int)=BitVec.ofNat 8 n:=by simp[IntKind.bits]
 rw[e]
 show (BitVec.ofNat 8 n&&&BitVec.ofNat 8 127).toNat=_
 rw[BitVec.toNat_and,BitVec.toNat_ofNat,BitVec.toNat_ofNat,Nat.mod_eq_of_lt (by omega:n<2^8),Nat.mod_eq_of_lt (by decide:127<2^8),and127]
 rfl
theorem or64 {a b:Nat} (ha:a<2^64) (hb:b<2^64):(BitVec.ofInt (IntKind.bits .i64) (a:Int)|||BitVec.ofInt (IntKind.bits .i64) (b:Int)).toNat=a|||b:=by
 have e:∀n:Nat,BitVec.ofInt (IntKind.bits .i64) (n:Int)=BitVec.ofNat 64 n:=fun n=>by simp[IntKind.bits]
 rw[e,e]
 show (BitVec.ofNat 64 a|||BitVec.ofNat 64 b).toNat=_
 rw[BitVec.toNat_or,BitVec.toNat_ofNat,BitVec.toNat_ofNat,Nat.mod_eq_of_lt ha,Nat.mod_eq_of_lt hb]
theorem more_eq {acc c:Int} {i:Nat} (hi:i<8) (h0:0≤acc) (h1:acc<128^i) (hc:0≤c) (hc2:c<256):
 IntKind.wrap .i64 (((BitVec.ofInt (IntKind.bits .i64) acc|||BitVec.ofInt (IntKind.bits .i64) (IntKind.wrap .i64 ((IntKind.wrap .i64 ((IntKind.wrap .u8 (((BitVec.ofInt (IntKind.bits .u8) c&&&BitVec.ofInt (IntKind.bits .u8) 127).toNat:Nat)))))*2^min (Int.toNat (IntKind.wrap .u64 ((IntKind.wrap .i64 (7*(i:Int)))))) (IntKind.bits .i64)))).toNat:Nat))=acc+(c.toNat%128:Nat)*128^i:=by
 have hs:IntKind.wrap .u64 (IntKind.wrap .i64 (7*(i:Int)))=((7*i:Nat):Int):=by
  rw[w64 (by omega) (by omega)]
  exact Go.IntWalk.u64_in _ (by omega)
 have hmin:min (7*i) (IntKind.bits .i64)=7*i:=by unfold IntKind.bits;simp only;omega
 obtain⟨a,rfl⟩:=Int.eq_ofNat_of_zero_le h0
 have hpow:(128:Nat)^i=2^(7*i):=by rw[Nat.pow_mul]
 have hpi:((128:Int)^i)=((2^(7*i):Nat):Int):=by rw[←hpow];simp
 have ha:a<2^(7*i):=by rw[hpi]at h1;omega
 have hp49:2^(7*i)≤2^49:=Nat.pow_le_pow_right (by decide) (by omega)
 have hy:c.toNat%128<128:=Nat.mod_lt _ (by decide)
 have hmul:(c.toNat%128)*2^(7*i)≤127*2^(7*i):=Nat.mul_le_mul_right _ (by omega)
 rw[low7 hc hc2,hs,Int.toNat_natCast,hmin,w8i (x:=((c.toNat%128:Nat):Int)) (by omega) (by omega),w64 (x:=((c.toNat%128:Nat):Int)) (by omega) (by omega)]
 have e1:((c.toNat%128:Nat):Int)*2^(7*i)=(((c.toNat%128)*2^(7*i):Nat):Int):=by simp
 have hor:=or_add (y:=c.toNat%128) i ha
 rw[e1,hpi,←Int.natCast_mul]
 generalize c.toNat%128*2^(7*i)=z at *
 generalize 2^(7*i)=q at *
 rw[w64 (x:=(z:Int)) (by omega) (by omega),or64 (by omega) (by omega),hor]
 exact w64 (by omega) (by omega)
def pNum (s:List Int×Int):(List Int×Int)×Int:=if s.2=0 then (((rdN 8 0 0 s.1).1,(rdN 8 0 0 s.1).2.1),(rdN 8 0 0 s.1).2.2) else (s,0)
theorem rNum_eq (s:List Int×Int) (hb:bytesIn s.1):O_codec_Reader_Number s=some (pNum s):=by
 obtain⟨b,e⟩:=s
 unfold O_codec_Reader_Number pNum
 by_cases he:e=0
 ·subst he
  simp only[if_true]
  rw[rdLoop (fun b acc i=>(b,(0:Int),acc,i)) (fun r e v=>((r,e),v)) bytesIn (fun x r h=>bytesIn_cons h) (fun b acc i hi h0 h1 hb=>⟨fun hn=>?_,fun c r hcr hc hc2=>⟨fun h=>?_,fun h h'=>?_,fun h=>?_⟩⟩) (fun b acc hb h0 h1=>?_) hb]
  ·have hi':(i:Int)<8:=by omega
   subst hn
   have ht:=take_eq [] 1
   simp only[List.length_nil,if_neg (show ¬1≤0 by omega),Int.natCast_one]at ht
   simp only[hi',decide_true,cond_true,ht,Option.bind_some,Bool.not_false]
   exact⟨_,rfl,rfl⟩
  all_goals
   first
   |have hi':(i:Int)<8:=by omega
    subst hcr
    have ht:=take_eq (c::r) 1
    simp only[List.length_cons,if_pos (show 1≤r.length+1 by omega),Int.natCast_one,List.drop_succ_cons,List.drop_zero,List.take_succ_cons,List.take_zero]at ht
    have hg:([c]:List Int)[0]? = some c:=rfl
    have hs:¬IntKind.wrap .u64 (IntKind.wrap .i64 (7*(i:Int)))<0:=by
     rw[w64 (by omega) (by omega),Go.IntWalk.u64_in _ (by omega)];omega
    simp only[hi',decide_true,cond_true,ht,Option.bind_some,Bool.not_true,cond_false,hg,hs,decide_false,more_eq hi h0 h1 hc hc2]
   |skip
  ·have e1:(c==0)=true:=by simp[h.1]
   have e2:(i:Int)>0:=by omega
   simp only[e1,e2,beq_self_eq_true,cond_true,decide_true,Option.bind_some,O_codec_Reader_Fail]
   exact⟨_,rfl,rfl⟩
  ·have e1:(bif (c==0)==true then some (decide ((i:Int)>0)) else some false)=some false:=by
    by_cases hc0:c=0
    ·have hi0:i=0:=by omega
     subst hi0
     simp[hc0]
    ·have:(c==0)=false:=by simpa using hc0
     simp[this]
   have e3:c.toNat%128=c.toNat:=by omega
   simp only[e1,Option.bind_some,cond_false,h',decide_true,cond_true,e3,Int.toNat_of_nonneg hc]
   exact⟨_,rfl,rfl⟩
  ·have e1:(c==0)=false:=by simp;omega
   have e3:((c.toNat%128:Nat):Int)=c-128:=by omega
   simp only[e1,Bool.false_beq,Bool.not_true,cond_false,Option.bind_some,h,decide_false,e3,wsucc (show i<2^62 by omega)]
  ·have h8:¬((8:Int)<8):=by omega
   simp only[h8,decide_false,cond_false,O_codec_Reader_Fail]
   exact⟨_,rfl,rfl⟩
 ·rw[if_neg he]
  rw[iterL_inr (x:=Sum.inl (b,e,(0:Int))) ?_]
  ·rfl
  ·have h8:(0:Int)<8:=by decide
   simp only[h8,decide_true,cond_true,take_bad b e 1 he,Option.bind_some,Bool.not_false]
end Go.Ideal.Seat
set_option linter.unusedVariables false
set_option linter.unusedSimpArgs false
namespace Go.Ideal.Seat
open Go.Ideal.Plain
abbrev Rd (α:Type):=List Int→Except Int (α×List Int)
def Rd.then {α β:Type} (m:Rd α) (f:α→Rd β):Rd β:=fun l=>match m l with
 |.ok p=>f p.1 p.2
 |.error e=>.error e
theorem Rd.then_ok {α β:Type} {m:Rd α} {f:α→Rd β} {l:List Int} {p:α×List Int} (h:m l = .ok p):m.then f l=f p.1 p.2:=by unfold Rd.then;rw[h]
theorem Rd.then_error {α β:Type} {m:Rd α} {f:α→Rd β} {l:List Int} {e:Int} (h:m l = .error e):m.then f l = .error e:=by unfold Rd.then;rw[h]
theorem Rd.then_eq_ok {α β:Type} {m:Rd α} {f:α→Rd β} {l:List Int} {q:β×List Int} (h:m.then f l = .ok q):∃p,m l = .ok p∧f p.1 p.2 = .ok q:=by
 unfold Rd.then at h
 split at h
 ·rename_i p hp;exact⟨p,hp,h⟩
 ·cases h
def rNum:Rd Int:=fun l=>if (rdN 8 0 0 l).2.1=0 then .ok ((rdN 8 0 0 l).2.2,(rdN 8 0 0 l).1) else .error (rdN 8 0 0 l).2.1
theorem rNum_numB {n:Nat} (h:n≤72057594037927935) (r:List Int):rNum (numB n++r) = .ok ((n:Int),r):=by
 unfold rNum
 rw[rdN_numB 8 0 n 0 r (by omega) (by omega) (by omega)]
 simp
theorem rNum_back {l r:List Int} {v:Int} (hl:bytesIn l) (h:rNum l = .ok (v,r)):∃n:Nat,v=n∧n≤72057594037927935∧l=numB n++r:=by
 unfold rNum at h
 split at h
 ·rename_i h0
  injection h with h
  simp only[Prod.mk.injEq]at h
  obtain⟨n,e1,e2,e3,_⟩:=rdN_back 8 0 0 l r v hl.1 (Prod.ext h.2 (Prod.ext h0 h.1))
  exact⟨n,by simpa using e1,by omega,e2⟩
 ·cases h
theorem numB_pos (n:Nat):1≤(numB n).length:=by unfold numB;simp
theorem bytesIn_right {a b:List Int} (h:bytesIn (a++b)):bytesIn b:=⟨fun x hx=>h.1 x (by simp[hx]),by have:=h.2;simp at this;omega⟩
def Short {α:Type} (m:Rd α):Prop:=∀l p,bytesIn l→m l = .ok p→∃a,l=a++p.2∧1≤a.length
theorem rNum_short:Short rNum:=fun l p hl h=>by
 obtain⟨n,_,_,e⟩:=rNum_back hl (v:=p.1) (r:=p.2) h
 exact⟨numB n,e,numB_pos n⟩
structure Runs {α:Type} (O:List Int×Int→Option ((List Int×Int)×α)) (m:Rd α):Prop where
 ok:∀b,bytesIn b→∀p,m b = .ok p→O (b,0)=some ((p.2,0),p.1)
 error:∀b,bytesIn b→∀e,m b = .error e→e≠0∧∃b' v,O (b,0)=some ((b',e),v)
 bad:∀b e,e≠0→∃v,O (b,e)=some ((b,e),v)
theorem pNum_ok {b r:List Int} {v:Int} (h:rNum b = .ok (v,r)):pNum (b,0)=((r,0),v):=by
 unfold rNum at h
 split at h
 ·rename_i h0
  injection h with h
  simp only[Prod.mk.injEq]at h
  unfold pNum
  simp only[if_true,h0,h.1,h.2]
 ·cases h
theorem pNum_error {b:List Int} {e:Int} (h:rNum b = .error e):e≠0∧∃b' v,pNum (b,0)=((b',e),v):=by
 unfold rNum at h
 split at h
 ·cases h
 ·rename_i h0
  injection h with h
  unfold pNum
  simp only[if_true,h]
  exact⟨by rw[←h];exact h0,_,_,rfl⟩
theorem rNum_bad (b:List Int) {e:Int} (h:e≠0):O_codec_Reader_Number (b,e)=some ((b,e),0):=by
 unfold O_codec_Reader_Number
 rw[iterL_inr (x:=Sum.inl (b,e,(0:Int))) ?_]
 ·rfl
 ·have h8:(0:Int)<8:=by decide
  simp only[h8,decide_true,cond_true,take_bad b e 1 h,Option.bind_some,Bool.not_false]
theorem runs_num:Runs O_codec_Reader_Number rNum where
 ok b hb p h:=by rw[rNum_eq _ hb,pNum_ok (v:=p.1) (r:=p.2) h]
 error b hb e h:=by
  obtain⟨h1,b',v,h2⟩:=pNum_error h
  exact⟨h1,b',v,by rw[rNum_eq _ hb,h2]⟩
 bad b e h:=⟨0,rNum_bad b h⟩
theorem runs_then {α β:Type} {O1:List Int×Int→Option ((List Int×Int)×α)} {m:Rd α} {O2:α→List Int×Int→Option ((List Int×Int)×β)} {f:α→Rd β} (h1:Runs O1 m) (hs:Short m) (h2:∀x,Runs (O2 x) (f x)):
 Runs (fun s=>(O1 s).bind fun r=>O2 r.2 r.1) (m.then f) where
 ok b hb p h:=by
  obtain⟨q,e1,e2⟩:=Rd.then_eq_ok h
  obtain⟨a,e3,_⟩:=hs b q hb e1
  simp only[h1.ok b hb q e1,Option.bind_some]
  exact(h2 q.1).ok _ (bytesIn_right (e3▸hb)) p e2
 error b hb e h:=by
  cases hm:m b with
  |ok q=>
   rw[Rd.then_ok hm]at h
   obtain⟨a,e3,_⟩:=hs b q hb hm
   simp only[h1.ok b hb q hm,Option.bind_some]
   exact(h2 q.1).error _ (bytesIn_right (e3▸hb)) e h
  |error e'=>
   rw[Rd.then_error hm]at h
   injection h with h;subst h
   obtain⟨k1,b',v,k2⟩:=h1.error b hb e' hm
   obtain⟨v',k3⟩:=(h2 v).bad b' e' k1
   simp only[k2,Option.bind_some,k3]
   exact⟨k1,b',v',rfl⟩
 bad b e he:=by
  obtain⟨v,k⟩:=h1.bad b e he
  obtain⟨v',k'⟩:=(h2 v).bad b e he
  exact⟨v',by simp only[k,Option.bind_some,k']⟩
theorem runs_map {α β:Type} {O:List Int×Int→Option ((List Int×Int)×α)} {m:Rd α} {O':List Int×Int→Option ((List Int×Int)×β)} {f:α→β} (h:Runs O m) (e:∀s,O' s=(O s).bind fun r=>some (r.1,f r.2)):
 Runs O' (m.then fun x l=>.ok (f x,l)) where
 ok b hb p h':=by
  obtain⟨q,e1,e2⟩:=Rd.then_eq_ok h'
  injection e2 with e2
  rw[e,h.ok b hb q e1,←e2];rfl
 error b hb e' h':=by
  cases hm:m b with
  |ok q=>rw[Rd.then_ok hm]at h';cases h'
  |error e''=>
   rw[Rd.then_error hm]at h'
   injection h' with h';subst h'
   obtain⟨k1,b',v,k2⟩:=h.error b hb _ hm
   exact⟨k1,b',f v,by rw[e,k2];rfl⟩
 bad b e' he:=by
  obtain⟨v,k⟩:=h.bad b e' he
  exact⟨f v,by rw[e,k];rfl⟩
def rNums:Nat→Rd (List Int)
 |0=>fun l=>.ok ([],l)
 |n+1=>rNum.then fun x=>(rNums n).then fun r l=>.ok (x::r,l)
theorem rNums_back:∀{n:Nat} {l r:List Int} {vs:List Int},bytesIn l→rNums n l = .ok (vs,r)→∃ns:List Nat,ns.length=n∧vs=ns.map (fun(n:Nat)=>(n:Int))∧(∀x∈ns,x≤72057594037927935)∧l=ns.flatMap numB++r
 |0,l,r,vs,hl,h=>by
  simp only[rNums,Except.ok.injEq,Prod.mk.injEq]at h
  exact⟨[],rfl,h.1.symm,by simp,by simp[h.2]⟩
 |n+1,l,r,vs,hl,h=>by
  simp only[rNums]at h
  obtain⟨p,h1,h2⟩:=Rd.then_eq_ok h
  obtain⟨q,h3,h4⟩:=Rd.then_eq_ok h2
  obtain⟨k,e1,e2,e3⟩:=rNum_back hl (v:=p.1) (r:=p.2) h1
  rw[e3]at hl
  obtain⟨ns,f1,f2,f3,f4⟩:=rNums_back (vs:=q.1) (r:=q.2) (bytesIn_right hl) h3
  simp only[Except.ok.injEq,Prod.mk.injEq]at h4
  refine⟨k::ns,by simp[f1],by rw[←h4.1,e1,f2];rfl,fun x hx=>?_,by rw[e3,f4,←h4.2];simp⟩
  rcases List.mem_cons.1 hx with rfl|hx
  ·exact e2
  ·exact f3 x hx
theorem rNums_numB:∀(ns:List Nat) (r:List Int),(∀x∈ns,x≤72057594037927935)→rNums ns.length (ns.flatMap numB++r) = .ok (ns.map (fun(n:Nat)=>(n:Int)),r)
 |[],r,_=>by simp[rNums]
 |n::ns,r,h=>by
  simp only[List.length_cons,rNums,List.flatMap_cons,List.append_assoc]
  rw[Rd.then_ok (rNum_numB (h n (by simp)) _),Rd.then_ok (rNums_numB ns r fun x hx=>h x (by simp[hx]))]
  rfl
structure RefR (b:List Int) {α:Type} (F:Int→Option (α×Int×Int)) (m:Rd α):Prop where
 ok:∀k:Nat,k≤b.length→∀p,m (b.drop k) = .ok p→∃j:Nat,j≤b.length∧p.2=b.drop j∧F k=some (p.1,(j:Int),0)
 error:∀k:Nat,k≤b.length→∀e,m (b.drop k) = .error e→e≠0∧∃v j,F k=some (v,j,e)
end Go.Ideal.Seat
set_option linter.unusedVariables false
set_option linter.unusedSimpArgs false
namespace Go.Ideal.Seat
open Go.Ideal.Plain
def rBool:Rd Bool:=fun l=>match l with
 |[]=>.error 4
 |x::r=>if x>1 then .error 6 else .ok (x==1,r)
def rText (most:Nat):Rd (List Int):=rNum.then fun n l=>if n>most then .error 22 else if n>l.length then .error 4 else .ok (l.take n.toNat,l.drop n.toNat)
theorem fail_ok (b:List Int) (e:Int):O_codec_Reader_Fail ((b,0),e)=some (b,e):=by unfold O_codec_Reader_Fail;simp
theorem byte_bad (b:List Int) {e:Int} (he:e≠0):O_codec_Reader_Byte (b,e)=some ((b,e),0):=by
 unfold O_codec_Reader_Byte
 rw[take_bad b e 1 he];rfl
theorem runs_bool:Runs O_codec_Reader_Bool rBool where
 ok b hb p h:=by
  unfold rBool at h
  cases b with
  |nil=>cases h
  |cons x r=>
   simp only at h
   split at h
   ·cases h
   ·rename_i hx
    injection h with h
    have ht:=take_eq (x::r) 1
    simp only[List.length_cons,if_pos (show 1≤r.length+1 by omega),Int.natCast_one,List.drop_succ_cons,List.drop_zero,List.take_succ_cons,List.take_zero]at ht
    unfold O_codec_Reader_Bool O_codec_Reader_Byte
    have hg:([x]:List Int)[0]? = some x:=rfl
    simp only[ht,Option.bind_some,Bool.not_true,cond_false,hg,hx,decide_false]
    rw[←h]
 error b hb e h:=by
  unfold rBool at h
  cases b with
  |nil=>
   injection h with h
   have ht:=take_eq [] 1
   simp only[List.length_nil,if_neg (show ¬1≤0 by omega),Int.natCast_one]at ht
   unfold O_codec_Reader_Bool O_codec_Reader_Byte
   have h1:¬(0:Int)>1:=by decide
   simp only[ht,Option.bind_some,Bool.not_false,cond_true,h1,decide_false,cond_false]
   exact⟨by rw[←h];decide,_,_,by rw[h]⟩
  |cons x r=>
   simp only at h
   split at h
   ·rename_i hx
    injection h with h
    have ht:=take_eq (x::r) 1
    simp only[List.length_cons,if_pos (show 1≤r.length+1 by omega),Int.natCast_one,List.drop_succ_cons,List.drop_zero,List.take_succ_cons,List.take_zero]at ht
    unfold O_codec_Reader_Bool O_codec_Reader_Byte
    have hg:([x]:List Int)[0]? = some x:=rfl
    simp only[ht,Option.bind_some,Bool.not_true,cond_false,hg,hx,decide_true,cond_true,fail_ok]
    exact⟨by rw[←h];decide,_,_,by rw[h]⟩
   ·cases h
 bad b e he:=by
  unfold O_codec_Reader_Bool
  have h1:¬(0:Int)>1:=by decide
  simp only[byte_bad b he,Option.bind_some,h1,decide_false,cond_false]
  exact⟨_,rfl⟩
theorem runs_text (most':Nat) (hm:most'≤2^40):Runs (fun s=>O_codec_Reader_Text (s,(most':Int))) (rText most') where
 ok b hb p h:=by
  unfold rText at h
  obtain⟨q,h1,h2⟩:=Rd.then_eq_ok h
  obtain⟨n,e1,e2,e3⟩:=rNum_back hb (v:=q.1) (r:=q.2) h1
  rw[e1]at h2
  split at h2
  ·cases h2
  ·split at h2
   ·cases h2
   ·rename_i c1 c2
    injection h2 with h2
    have hr:=runs_num.ok b hb q h1
    rw[e1]at hr
    unfold O_codec_Reader_Text
    have c1':¬(n:Int)>(most':Int):=c1
    have ht:=take_eq q.2 n
    rw[if_pos (by omega)]at ht
    have hl:q.2.length≤2^36:=by have:=congrArg List.length e3;have:=hb.2;simp at *;omega
    have hmm:(([]:List Int).length+(q.2.take n).length)*(1+1)≤most:=by unfold most;simp;omega
    simp only[hr,Option.bind_some,beq_self_eq_true,cond_true,c1',decide_false,cond_false,ht,Bool.not_true,hmm,decide_true,List.nil_append]
    rw[←h2];rfl
 error b hb e h:=by
  unfold rText at h
  cases h1:rNum b with
  |ok q=>
   rw[Rd.then_ok h1]at h
   obtain⟨n,e1,e2,e3⟩:=rNum_back hb (v:=q.1) (r:=q.2) h1
   rw[e1]at h
   have hr:=runs_num.ok b hb q h1
   rw[e1]at hr
   unfold O_codec_Reader_Text
   split at h
   ·rename_i c1
    injection h with h
    have c1':(n:Int)>(most':Int):=c1
    have hb':=take_bad q.2 22 (n:Int) (by decide)
    simp only[hr,Option.bind_some,beq_self_eq_true,cond_true,c1',decide_true,fail_ok,hb',Bool.not_false]
    exact⟨by rw[←h];decide,_,_,by rw[h]⟩
   ·split at h
    ·rename_i c1 c2
     injection h with h
     have c1':¬(n:Int)>(most':Int):=c1
     have ht:=take_eq q.2 n
     rw[if_neg (by omega)]at ht
     simp only[hr,Option.bind_some,beq_self_eq_true,cond_true,c1',decide_false,cond_false,ht,Bool.not_false]
     exact⟨by rw[←h];decide,_,_,by rw[h]⟩
    ·cases h
  |error e'=>
   rw[Rd.then_error h1]at h
   injection h with h;subst h
   obtain⟨k1,b',v,k2⟩:=runs_num.error b hb _ h1
   have e1:(e'==0)=false:=by simpa using k1
   unfold O_codec_Reader_Text
   simp only[k2,Option.bind_some,e1,Bool.false_beq,Bool.not_true,cond_false,take_bad b' e' v k1,Bool.not_false,cond_true]
   exact⟨k1,_,_,rfl⟩
 bad b e he:=by
  have e1:(e==0)=false:=by simpa using he
  unfold O_codec_Reader_Text
  simp only[rNum_bad b he,Option.bind_some,e1,Bool.false_beq,Bool.not_true,cond_false,take_bad b e 0 he,Bool.not_false,cond_true]
  exact⟨_,rfl⟩
theorem newReader_eq (b:List Int) (h:b.length≤2^36):O_codec_NewReader b=some (b,0):=by
 unfold O_codec_NewReader
 have hm:(([]:List Int).length+b.length)*(1+1)≤most:=by unfold most;simp;omega
 simp only[hm,decide_true,cond_true,List.nil_append]
theorem done_eq (b:List Int) (e:Int):O_codec_Reader_Done (b,e)=some ((b,e),if e=0 then (if b=[] then 0 else 5) else e):=by
 unfold O_codec_Reader_Done
 by_cases he:e=0
 ·subst he
  cases b with
  |nil=>rfl
  |cons x r=>
   have:((((x::r).length:Nat):Int)>0):=by simp only[List.length_cons];omega
   simp[this]
 ·have:(e==0)=false:=by simpa using he
  simp[this,he]
end Go.Ideal.Seat
set_option linter.unusedVariables false
set_option linter.unusedSimpArgs false
namespace Go.Ideal.Seat
open Go.Ideal.Plain
abbrev Rn:=Nat×Cell
def runsK:Nat→List Cell→List Rn
 |_,[]=>[]
 |k,[c]=>[(k+1,c)]
 |k,c::d::r=>if c=d then runsK (k+1) (d::r) else (k+1,c)::runsK 0 (d::r)
def expand (l:List Rn):List Cell:=l.flatMap fun x=>List.replicate x.1 x.2
def runsOk:Option Cell→List Rn→Prop
 |_,[]=>True
 |a,x::r=>1≤x.1∧a≠some x.2∧cellOk x.2=true∧runsOk (some x.2) r
def addRun (out:List Rn) (c:Cell):List Rn:=match out.getLast? with
 |some x=>if x.2=c then out.dropLast++[(x.1+1,x.2)] else out++[(1,c)]
 |none=>[(1,c)]
theorem addRun_snoc (out:List Rn) (x:Rn) (c:Cell):addRun (out++[x]) c=if x.2=c then out++[(x.1+1,x.2)] else out++[x]++[(1,c)]:=by
 unfold addRun
 rw[List.getLast?_concat,List.dropLast_concat]
theorem runs_fold:∀(r:List Cell) (out:List Rn) (k:Nat) (c:Cell),r.foldl addRun (out++[(k+1,c)])=out++runsK k (c::r)
 |[],out,k,c=>rfl
 |d::r,out,k,c=>by
  simp only[List.foldl_cons,addRun_snoc,runsK]
  by_cases h:c=d
  ·subst h
   rw[if_pos rfl,if_pos rfl]
   exact runs_fold r out (k+1) c
  ·rw[if_neg h,if_neg h,runs_fold r (out++[(k+1,c)]) 0 d]
   simp
theorem runs_all (l:List Cell):l.foldl addRun []=runsK 0 l:=by
 cases l with
 |nil=>rfl
 |cons c r=>
  have:=runs_fold r [] 0 c
  simpa [addRun]using this
theorem runsK_ok:∀(l:List Cell) (k:Nat) (a:Option Cell),(∀c∈l,cellOk c=true)→(∀c r,l=c::r→a≠some c)→runsOk a (runsK k l)∧expand (runsK k l)=(match l with|[]=>[]|c::_=>List.replicate k c++l)
 |[],k,a,_,_=>⟨trivial,rfl⟩
 |[c],k,a,h,ha=>by
  refine⟨⟨by simp,ha c [] rfl,h c (by simp),trivial⟩,?_⟩
  simp[runsK,expand,List.replicate_succ']
 |c::d::r,k,a,h,ha=>by
  simp only[runsK]
  by_cases hc:c=d
  ·subst hc
   rw[if_pos rfl]
   obtain⟨h1,h2⟩:=runsK_ok (c::r) (k+1) a (fun x hx=>h x (List.mem_cons_of_mem _ hx)) (fun x s e=>by injection e with e1 e2;subst e1;exact ha c (c::r) rfl)
   refine⟨h1,?_⟩
   rw[h2]
   simp[List.replicate_succ']
  ·rw[if_neg hc]
   obtain⟨h1,h2⟩:=runsK_ok (d::r) 0 (some c) (fun x hx=>h x (List.mem_cons_of_mem _ hx)) (fun x s e=>by injection e with e1 e2;subst e1;intro e3;injection e3 with e3;exact hc e3)
   refine⟨⟨by simp,ha c (d::r) rfl,h c (by simp),h1⟩,?_⟩
   simp only[expand,List.flatMap_cons]at h2 ⊢
   rw[h2]
   simp[List.replicate_succ']
theorem runsK_expand:∀(x:List Rn) (a:Option Cell),runsOk a x→runsK 0 (expand x)=x
 |[],_,_=>rfl
 |(n,c)::r,a,h=>by
  obtain⟨h1,h2,h3,h4⟩:=h
  have ih:=runsK_expand r _ h4
  have hne:∀d s,expand r=d::s→c≠d:=by
   intro d s e hcd
   subst hcd
   cases r with
   |nil=>cases e
   |cons y r=>
    obtain⟨g1,g2,g3,g4⟩:=h4
    have:expand (y::r)=y.2::(List.replicate (y.1-1) y.2++expand r):=by
     obtain⟨m,hm⟩:∃m,y.1=m+1:=⟨y.1-1,by omega⟩
     simp only[expand,List.flatMap_cons,hm,Nat.add_sub_cancel,List.replicate_succ];rfl
    rw[this]at e
    injection e with e1 e2
    exact g2 (by rw[e1])
  have key:∀(m k:Nat),1≤m→runsK k (List.replicate m c++expand r)=(k+m,c)::runsK 0 (expand r):=by
   intro m
   induction m with
   |zero=>intro k h;omega
   |succ m ihm=>
    intro k _
    cases m with
    |zero=>
     cases he:expand r with
     |nil=>simp[runsK]
     |cons d s=>simp[runsK,hne d s he]
    |succ m=>
     have:=ihm (k+1) (by omega)
     simp only[List.replicate_succ,List.cons_append,runsK,if_true]at this ⊢
     rw[this,show k+1+(m+1)=k+(m+1+1) by omega]
  have:=key n 0 h1
  simp only[expand,List.flatMap_cons]at this ih ⊢
  rw[this,ih]
  simp
def encRun (x:Rn):List Int:=[x.1,x.2.1.toNat,x.2.2.1.toNat,x.2.2.2.1.toNat,x.2.2.2.2.toNat].flatMap numB
def encCells (l:List Cell):List Int:=(runsK 0 l).flatMap encRun
def runOf (vs:List Int):Rn:=((vs.getD 0 0).toNat,(if vs.getD 1 0>1114111 then 0 else vs.getD 1 0,vs.getD 2 0,vs.getD 3 0,vs.getD 4 0))
def badRun (left:Nat) (last:Option Cell) (x:Rn):Bool:=x.1==0||decide (left<x.1)|| !cellOk x.2||decide (last=some x.2)
def rCells:Nat→Nat→Option Cell→Rd (List Cell)
 |_,0,_=>fun l=>.ok ([],l)
 |0,_+1,_=>fun _=>.error 6
 |f+1,n+1,last=>(rNums 5).then fun vs=>if badRun (n+1) last (runOf vs)=true then fun _=>.error 6 else
   (rCells f (n+1-(runOf vs).1) (some (runOf vs).2)).then fun cs l=>.ok (List.replicate (runOf vs).1 (runOf vs).2++cs,l)
theorem cell_nat {c:Cell} (h:cellOk c=true):32≤c.1∧c.1≤1114111∧0≤c.2.1∧c.2.1≤256∧0≤c.2.2.1∧c.2.2.1≤256∧0≤c.2.2.2∧c.2.2.2<128:=by
 unfold cellOk codeOk at h
 simp only[Bool.and_eq_true,Bool.or_eq_true,decide_eq_true_eq]at h
 omega
theorem runOf_enc {x:Rn} (h:cellOk x.2=true):runOf ([x.1,x.2.1.toNat,x.2.2.1.toNat,x.2.2.2.1.toNat,x.2.2.2.2.toNat].map fun(n:Nat)=>(n:Int))=x:=by
 obtain⟨n,c1,c2,c3,c4⟩:=x
 obtain⟨h1,h2,h3,h4,h5,h6,h7,h8⟩:=cell_nat h
 simp only at h1 h2 h3 h4 h5 h6 h7 h8
 simp only[runOf,List.map_cons,List.map_nil,List.getD_cons_zero,List.getD_cons_succ,Int.toNat_natCast,Int.toNat_of_nonneg h3,Int.toNat_of_nonneg h5,Int.toNat_of_nonneg h7,Int.toNat_of_nonneg (show 0≤c1 by omega)]
 rw[if_neg (by omega)]
theorem rCells_enc:∀(x:List Rn) (f:Nat) (a:Option Cell) (r:List Int),runsOk a x→(expand x).length≤f→(expand x).length≤2^40→rCells f (expand x).length a (x.flatMap encRun++r) = .ok (expand x,r)
 |[],f,a,r,_,_,_=>by cases f<;>rfl
 |x::xs,f,a,r,h,hf,hb=>by
  obtain⟨h1,h2,h3,h4⟩:=h
  have hl:(expand (x::xs)).length=x.1+(expand xs).length:=by simp[expand]
  obtain⟨f,rfl⟩:∃g,f=g+1:=⟨f-1,by omega⟩
  obtain⟨n,hn⟩:∃n,(expand (x::xs)).length=n+1:=⟨_,(show (expand (x::xs)).length=(expand (x::xs)).length-1+1 by omega)⟩
  rw[hn]
  simp only[rCells,List.flatMap_cons,List.append_assoc]
  have hc:=cell_nat h3
  have hr:rNums 5 (encRun x++(xs.flatMap encRun++r)) = .ok ([x.1,x.2.1.toNat,x.2.2.1.toNat,x.2.2.2.1.toNat,x.2.2.2.2.toNat].map fun(n:Nat)=>(n:Int),xs.flatMap encRun++r):=rNums_numB [x.1,x.2.1.toNat,x.2.2.1.toNat,x.2.2.2.1.toNat,x.2.2.2.2.toNat] (xs.flatMap encRun++r) (fun y hy=>by simp at hy;omega)
  rw[Rd.then_ok hr]
  simp only[runOf_enc h3]
  have hbad:badRun (n+1) a x=false:=by
   unfold badRun
   have e1:(x.1==0)=false:=by simp;omega
   have e2:decide (n+1<x.1)=false:=by simp;omega
   simp[e1,e2,h3,h2]
  rw[hbad]
  simp only[Bool.false_eq_true,if_false]
  have hnn:n+1-x.1=(expand xs).length:=by omega
  rw[hnn,Rd.then_ok (rCells_enc xs f (some x.2) r h4 (by omega) (by omega))]
  simp[expand]
theorem rCells_back:∀(f n:Nat) (a:Option Cell) (l r:List Int) (cs:List Cell),bytesIn l→rCells f n a l = .ok (cs,r)→∃x,runsOk a x∧cs=expand x∧cs.length=n∧l=x.flatMap encRun++r
 |_,0,a,l,r,cs,hl,h=>by
  simp only[rCells,Except.ok.injEq,Prod.mk.injEq]at h
  exact⟨[],trivial,h.1.symm,by rw[←h.1];rfl,h.2⟩
 |0,n+1,a,l,r,cs,hl,h=>by simp only[rCells]at h;cases h
 |f+1,n+1,a,l,r,cs,hl,h=>by
  simp only[rCells]at h
  obtain⟨p,h1,h2⟩:=Rd.then_eq_ok h
  obtain⟨ns,e1,e2,e3,e4⟩:=rNums_back (vs:=p.1) (r:=p.2) hl h1
  split at h2
  ·cases h2
  ·rename_i hbad
   obtain⟨q,h3,h4⟩:=Rd.then_eq_ok h2
   injection h4 with h4
   simp only[Prod.mk.injEq]at h4
   rw[e4]at hl
   obtain⟨x,g1,g2,g3,g4⟩:=rCells_back f _ _ p.2 q.2 q.1 (bytesIn_right hl) h3
   unfold badRun at hbad
   simp only[Bool.or_eq_true,not_or,Bool.not_eq_true,beq_eq_false_iff_ne,decide_eq_false_iff_not,Bool.not_eq_false']at hbad
   obtain⟨⟨⟨b1,b2⟩,b3⟩,b4⟩:=hbad
   have henc:encRun (runOf p.1)=ns.flatMap numB:=by
    match ns,e1 with
    |[n0,n1,n2,n3,n4],_=>
     have hc:=cell_nat b3
     rw[e2]at hc ⊢
     simp only[runOf,List.map_cons,List.map_nil,List.getD_cons_zero,List.getD_cons_succ]at hc ⊢
     unfold encRun
     have:¬(n1:Int)>1114111:=fun hh=>by rw[if_pos hh]at hc;omega
     simp only[if_neg this,Int.toNat_natCast]
   refine⟨runOf p.1::x,⟨by omega,fun e=>b4 e,b3,g1⟩,?_,?_,?_⟩
   ·rw[←h4.1,g2];simp[expand]
   ·rw[←h4.1,List.length_append,List.length_replicate,g3];omega
   ·rw[e4,g4,List.flatMap_cons,henc,←h4.2,List.append_assoc]
end Go.Ideal.Seat
set_option linter.unusedVariables false
set_option linter.unusedSimpArgs false
namespace Go.Ideal.Seat
open Go.Ideal.Plain
abbrev RnI:=Int×Cell
def rnI (x:Rn):RnI:=((x.1:Int),x.2)
theorem cellRuns_eq (l:List Cell) (h:l.length≤2^36):F_cell_Runs l=some ((runsK 0 l).map rnI):=by
 unfold F_cell_Runs
 rw[show (([]:List RnI),(0:Int))=(fun(a:List Rn) (i:Int)=>(a.map rnI,i)) [] 0 from rfl]
 rw[foldLoop (l:=l) (fun(a:List Rn) i=>(a.map rnI,i)) addRun (fun i a=>a.length≤i∧∀x∈a,x.1≤i) (fin:=fun a=>(a.map rnI,(l.length:Int),false)) (a:=[]) (by simp) (fun a i e he hi hv=>?_) (fun a hv=>by simp)]
 ·rw[runs_all];rfl
 ·obtain⟨v1,v2⟩:=hv
  have hi':(i:Int)<(l.length:Int):=by omega
  have hm:(a.length+1)*(40+1)≤most:=by unfold most;omega
  simp only[hi',decide_true,cond_true,Int.natCast_nonneg,Int.toNat_natCast,he,Option.bind_some,wsucc (show i<2^62 by omega),List.length_map]
  cases hq:a.getLast? with
  |none=>
   have:a=[]:=by simpa using hq
   subst this
   have hg0:¬(((0:Nat):Int)>0):=by simp
   have hm0:1*(40+1)≤most:=by unfold most;omega
   simp only[List.length_nil,hg0,decide_false,Bool.false_beq,Bool.not_true,cond_false,Option.bind_some,List.length_cons,Nat.zero_add,hm0,decide_true,cond_true,addRun,List.getLast?_nil]
   refine⟨rfl,by simp,fun x hx=>?_⟩
   simp only[List.mem_singleton]at hx
   subst hx;simp
  |some x=>
   have hxm:=List.mem_of_getLast? hq
   have hpos:0<a.length:=List.length_pos_of_mem hxm
   have hpos':((a.length:Nat):Int)>0:=by omega
   have hg:a[a.length-1]? = some x:=by rw[←hq,List.getLast?_eq_getElem?]
   have hg2:(a.map rnI)[a.length-1]? = some (rnI x):=by rw[List.getElem?_map,hg];rfl
   have hi1:IntKind.i64.wrap ((a.length:Int)-1)=((a.length-1:Nat):Int):=by rw[w64 (by omega) (by omega)];omega
   have hlt:a.length-1<a.length:=by omega
   have hxi:=v2 x hxm
   have hw:IntKind.wrap .i64 ((x.1:Int)+1)=((x.1+1:Nat):Int):=wsucc (by omega)
   have hset:(a.map rnI).set (a.length-1) ((((x.1+1:Nat):Int)),x.2)=(a.dropLast++[(x.1+1,x.2)]).map rnI:=by
    rw[←set_last hq,List.map_set];rfl
   have hce:((x.2.1==e.1)&&((x.2.2.1==e.2.1)&&((x.2.2.2.1==e.2.2.1)&&((x.2.2.2.2==e.2.2.2)&&true))))=decide (x.2=e):=cellEq x.2 e
   simp only[hpos',decide_true,beq_self_eq_true,cond_true,hi1,Int.natCast_nonneg,Int.toNat_natCast,hlt,hg2,Option.bind_some,rnI,hce,addRun,hq]
   by_cases hc:x.2=e
   ·simp only[hc,decide_true,cond_true,if_true]
    rw[hc]at hset
    rw[hw,hset]
    refine⟨rfl,by simp;omega,fun y hy=>?_⟩
    simp only[List.mem_append,List.mem_singleton]at hy
    rcases hy with hy|hy
    ·have:=v2 y (List.dropLast_subset _ hy);omega
    ·subst hy;simp;omega
   ·simp only[hc,decide_false,cond_false,List.length_cons,List.length_nil,Nat.zero_add,hm,decide_true,cond_true,if_false]
    refine⟨by simp[rnI],by simp;omega,fun y hy=>?_⟩
    simp only[List.mem_append,List.mem_singleton]at hy
    rcases hy with hy|hy
    ·have:=v2 y hy;omega
    ·subst hy;simp
theorem encRun_len {x:Rn} (h:cellOk x.2=true) (hn:x.1≤2^40):(encRun x).length≤45:=by
 have hc:=cell_nat h
 unfold encRun
 have a1:=numB_len (n:=x.1) (by omega)
 have a2:=numB_len (n:=x.2.1.toNat) (by omega)
 have a3:=numB_len (n:=x.2.2.1.toNat) (by omega)
 have a4:=numB_len (n:=x.2.2.2.1.toNat) (by omega)
 have a5:=numB_len (n:=x.2.2.2.2.toNat) (by omega)
 simp only[List.flatMap_cons,List.flatMap_nil,List.length_append,List.length_nil]
 omega
theorem runs_len:∀{x:List Rn} {a:Option Cell},runsOk a x→x.length≤(expand x).length∧∀y∈x,y.1≤(expand x).length∧cellOk y.2=true
 |[],_,_=>by simp[expand]
 |x::r,a,h=>by
  obtain⟨h1,_,h3,h4⟩:=h
  obtain⟨i1,i2⟩:=runs_len h4
  have hl:(expand (x::r)).length=x.1+(expand r).length:=by simp[expand]
  refine⟨by rw[hl,List.length_cons];omega,fun y hy=>?_⟩
  rcases List.mem_cons.1 hy with rfl|hy
  ·exact⟨by omega,h3⟩
  ·have:=i2 y hy;exact⟨by omega,this.2⟩
theorem runs_cells {l:List Cell} (h:∀c∈l,cellOk c=true) (a:Option Cell) (ha:∀c r,l=c::r→a≠some c):runsOk a (runsK 0 l)∧expand (runsK 0 l)=l:=by
 obtain⟨h1,h2⟩:=runsK_ok l 0 a h ha
 refine⟨h1,?_⟩
 rw[h2]
 cases l<;>simp
theorem run5 {b:List Int} {x:Rn} (h:cellOk x.2=true) (hn:x.1≤2^40) (hb:b.length≤2^38):
 ((O_codec_Writer_Number ((b,0),(rnI x).1)).bind fun r138=>((O_codec_Writer_Number (r138,(IntKind.wrap .i64 ((rnI x).2.1)))).bind fun r139=>((O_codec_Writer_Number (r139,(rnI x).2.2.1)).bind fun r140=>((O_codec_Writer_Number (r140,(rnI x).2.2.2.1)).bind fun r141=>((O_codec_Writer_Number (r141,(rnI x).2.2.2.2)).bind fun r142=>some r142)))))=some (b++encRun x,0):=by
 have hc:=cell_nat h
 obtain⟨n,c1,c2,c3,c4⟩:=x
 simp only[rnI]at hc hn ⊢
 obtain⟨m1,rfl⟩:=Int.eq_ofNat_of_zero_le (show 0≤c1 by omega)
 obtain⟨m2,rfl⟩:=Int.eq_ofNat_of_zero_le hc.2.2.1
 obtain⟨m3,rfl⟩:=Int.eq_ofNat_of_zero_le hc.2.2.2.2.1
 obtain⟨m4,rfl⟩:=Int.eq_ofNat_of_zero_le hc.2.2.2.2.2.2.1
 have a1:=numB_len (n:=n) (by omega)
 have a2:=numB_len (n:=m1) (by omega)
 have a3:=numB_len (n:=m2) (by omega)
 have a4:=numB_len (n:=m3) (by omega)
 rw[wNum_eq b n (by omega) (by omega),w64 (by omega) (by omega)]
 simp only[Option.bind_some]
 rw[wNum_eq _ m1 (by omega) (by simp;omega)]
 simp only[Option.bind_some]
 rw[wNum_eq _ m2 (by omega) (by simp;omega)]
 simp only[Option.bind_some]
 rw[wNum_eq _ m3 (by omega) (by simp;omega)]
 simp only[Option.bind_some]
 rw[wNum_eq _ m4 (by omega) (by simp;omega)]
 simp only[Option.bind_some,encRun,List.flatMap_cons,List.flatMap_nil,Int.toNat_natCast,List.append_assoc,List.append_nil]
theorem foldl_app {E:Type} (g:E→List Int):∀(l:List E) (b:List Int),l.foldl (fun o e=>o++g e) b=b++l.flatMap g
 |[],b=>by simp
 |e::l,b=>by simp[foldl_app g l]
theorem cellWrite_eq (b:List Int) (l:List Cell) (h:∀c∈l,cellOk c=true) (hl:l.length≤2^30) (hb:b.length≤2^37):O_cell_Write ((b,0),l)=some (b++encCells l,0):=by
 unfold O_cell_Write
 obtain⟨r1,r2⟩:=runs_cells h none (by simp)
 obtain⟨r3,r4⟩:=runs_len r1
 rw[r2]at r3 r4
 rw[countLoop l.length (fun(_:Unit) i=>(b,(0:Int),i)) (fun _ _=>()) (fun _ _=>True) (fin:=fun _=>Sum.inr (b,(0:Int),(l.length:Int),false)) (a:=()) trivial (fun _ i hi _=>?_) (fun _ _=>by simp)]
 ·simp only[Option.bind_some,cellRuns_eq l (by omega),List.length_map]
  rw[foldLoop (l:=runsK 0 l) (fun(o:List Int) i=>(o,(0:Int),i)) (fun o x=>o++encRun x) (fun i o=>o.length≤b.length+45*i) (fin:=fun o=>(o,0,((runsK 0 l).length:Int),false)) (by simp) (fun o i x he hi hv=>?_) (fun o hv=>by simp)]
  ·simp only[Option.bind_some,foldl_app];rfl
  ·have hi':(i:Int)<((runsK 0 l).length:Int):=by omega
   obtain⟨x1,x2⟩:=r4 x (List.mem_of_getElem? he)
   have hlen:=encRun_len x2 (by omega)
   have hg:((runsK 0 l).map rnI)[i]? = some (rnI x):=by rw[List.getElem?_map,he];rfl
   have h5:=run5 (b:=o) x2 (by omega) (by omega)
   refine⟨?_,by rw[List.length_append];omega⟩
   simp only[hi',decide_true,cond_true,Int.natCast_nonneg,Int.toNat_natCast,hg,Option.bind_some,wsucc (show i<2^62 by omega)]
   have hh:∀(O:Option (List Int×Int)) (G:List Int×Int→Option ((List Int×Int×Int)⊕(List Int×Int×Int×Bool))),O=some (o++encRun x,0)→(O.bind G)=G (o++encRun x,0):=fun O G e=>by rw[e];rfl
   have h5':=congrArg (fun O=>O.bind fun(r142:List Int×Int)=>(some (Sum.inl (r142.1,(r142.2,((i+1:Nat):Int)))):Option ((List Int×Int×Int)⊕(List Int×Int×Int×Bool)))) h5
   simp only[Option.bind_assoc,Option.bind_some]at h5'
   exact h5'
 ·have hi':(i:Int)<(l.length:Int):=by omega
  have hg:=List.getElem?_eq_getElem hi
  have hc:=h _ (List.getElem_mem hi)
  simp only[hi',decide_true,cond_true,Int.natCast_nonneg,Int.toNat_natCast,hg,Option.bind_some,cellRight_eq,hc,Bool.not_true,cond_false,wsucc (show i<2^62 by omega),and_self]
end Go.Ideal.Seat
