/- Signs as bytes: plain facts. -/
import Derived.Test.YtofcecmdebcmpaaJc
import Derived.Test.YtofcecmdebcmpaaSn
set_option linter.unusedVariables false
set_option linter.unusedSimpArgs false
namespace Go.Ideal.Plain
def encB (r:Int):List UInt8:=(Utf8.encode r).data.toList
def codeOk (r:Int):Bool:=(decide (0≤r)&&decide (r<55296))||(decide (57344≤r)&&decide (r≤1114111))
end Go.Ideal.Plain
set_option linter.unusedVariables false
set_option linter.unusedSimpArgs false
namespace Go.Ideal.Plain
theorem w64 {x:Int} (h1:-9223372036854775808≤x) (h2:x≤9223372036854775807):IntKind.wrap .i64 x=x:=Go.IntWalk.i64_in _ ⟨h1,h2⟩
section
variable {S X A E:Type}
theorem foldLoop {l:List E} (mk:A→Int→S) (g:A→E→A) (inv:Nat→A→Prop) {fin:A→X} {F:S→Option (S⊕X)} {a:A} (h0:inv 0 a)
 (h1:∀a i e,l[i]? = some e→i<l.length→inv i a→F (mk a i)=some (.inl (mk (g a e) ((i+1:Nat):Int)))∧inv (i+1) (g a e))
 (h2:∀a,inv l.length a→F (mk a l.length)=some (.inr (fin a))):iterL F (mk a 0)=some (fin (l.foldl g a)):=by
 rw[iter_run (l:=l) (mk:=mk) (step:=stepS g) (fin:=fun a=>some (fin a)) inv (fun a i e he hv=>?_) (fun a i e a' he hv hs=>?_) (fun a hv=>?_) h0,runL_fold]
 ·rw[(h1 a i e he (getE_bound he) hv).1];rfl
 ·simp only[stepS,Option.some.injEq,Sum.inl.injEq]at hs
  rw[←hs];exact(h1 a i e he (getE_bound he) hv).2
 ·rw[h2 a hv];rfl
theorem allLoop {X:Type} {l:List E} (p:E→Bool) {F:Int→Option (Int⊕(Bool⊕X))} {z:X} (h1:∀(i:Nat) e,l[i]? = some e→F i=some (if p e=true then .inl ((i+1:Nat):Int) else .inr (.inl false)))
 (h2:F (l.length:Int)=some (.inr (.inr z))):iterL F 0=some (if l.all p=true then .inr z else .inl false):=by
 rw[iter_run (l:=l) (mk:=fun(_:Unit) i=>i) (step:=fun _ _ e=>if p e=true then some (.inl ()) else some (.inr (.inl false))) (fin:=fun _=>some (.inr z)) (fun _ _=>True) ?_ (fun _ _ _ _ _ _ _=>trivial) ?_ trivial]
 ·have key:∀(r:List E) (i:Nat),runL (A:=Unit) (X:=Bool⊕X) (fun _ _ e=>if p e=true then some (.inl ()) else some (.inr (.inl false))) (fun _=>some (.inr z)) i () r=some (if r.all p=true then .inr z else .inl false):=by
   intro r
   induction r with
   |nil=>intro i;rfl
   |cons c r ih=>
    intro i
    simp only[runL]
    by_cases hc:p c=true
    ·have:(c::r).all p=r.all p:=by rw[List.all_cons,hc];rfl
     rw[if_pos hc,this]
     exact ih (i+1)
    ·have:(c::r).all p=false:=by rw[List.all_cons,(Bool.not_eq_true _).mp hc];rfl
     rw[if_neg hc,this];rfl
  exact key l 0
 ·intro _ i c hc _
  rw[h1 i c hc]
  by_cases hk:p c=true
  ·rw[if_pos hk,if_pos hk];rfl
  ·rw[if_neg hk,if_neg hk];rfl
 ·intro _ _;rw[h2];rfl
end
end Go.Ideal.Plain
set_option linter.unusedVariables false
set_option linter.unusedSimpArgs false
namespace Go.Ideal.Seat
open Go.Ideal.Plain
abbrev Cell:=Int×Int×Int×Int
end Go.Ideal.Seat
set_option linter.unusedVariables false
set_option linter.unusedSimpArgs false
namespace Go.Ideal.Seat
open Go.Ideal.Plain
end Go.Ideal.Seat
set_option linter.unusedVariables false
set_option linter.unusedSimpArgs false
namespace Go.Ideal.Plain
inductive Signs:List UInt8→Prop
 |nil:Signs []
 |cons {c:Int} {r:List UInt8} (hc:codeOk c=true) (h:Signs r):Signs (encB c++r)
end Go.Ideal.Plain
set_option linter.unusedVariables false
set_option linter.unusedSimpArgs false
namespace Go.Ideal.Seat
open Go.Ideal.Plain
end Go.Ideal.Seat
set_option linter.unusedVariables false
set_option linter.unusedSimpArgs false
namespace Go.Ideal.Seat
open Go.Ideal.Plain
def slice (l:List UInt8) (i n:Nat):List UInt8:=(l.drop i).take n
end Go.Ideal.Seat
set_option linter.unusedVariables false
set_option linter.unusedSimpArgs false
namespace Go.Ideal.Plain
end Go.Ideal.Plain
set_option linter.unusedVariables false
set_option linter.unusedSimpArgs false
namespace Go.Ideal.Seat
open Go.Ideal.Plain
end Go.Ideal.Seat
set_option linter.unusedVariables false
set_option linter.unusedSimpArgs false
namespace Go.Ideal.Seat
open Go.Ideal.Plain
end Go.Ideal.Seat
set_option linter.unusedVariables false
set_option linter.unusedSimpArgs false
namespace Go.Ideal.Seat
open Go.Ideal.Plain
abbrev Grd:=Int×Int×List Cell
def sizeOk (r c:Int):Bool:=decide (1≤r∧r≤60∧1≤c∧c≤132)
end Go.Ideal.Seat
set_option linter.unusedVariables false
set_option linter.unusedSimpArgs false
namespace Go.Ideal.Seat
open Go.Ideal.Plain
end Go.Ideal.Seat
set_option linter.unusedVariables false
set_option linter.unusedSimpArgs false
namespace Go.Ideal.Seat
open Go.Ideal.Plain
def blankC:Cell:=(32,0,0,0)
def grid0 (r c:Int):Grd:=(r,c,List.replicate (r*c).toNat blankC)
def base (g:Grd) (r c:Int):Grd:=if g.1=r∧g.2.1=c then (r,c,g.2.2) else if sizeOk r c=true then grid0 r c else (0,0,[])
end Go.Ideal.Seat
set_option linter.unusedVariables false
set_option linter.unusedSimpArgs false
namespace Go.Ideal.Seat
open Go.Ideal.Plain
end Go.Ideal.Seat
set_option linter.unusedVariables false
set_option linter.unusedSimpArgs false
namespace Go.Ideal.Seat
open Go.Ideal.Plain
end Go.Ideal.Seat
set_option linter.unusedVariables false
set_option linter.unusedSimpArgs false
namespace Go.Ideal.Seat
open Go.Ideal.Plain
end Go.Ideal.Seat
set_option linter.unusedVariables false
set_option linter.unusedSimpArgs false
namespace Go.Ideal.Seat
open Go.Ideal.Plain
theorem allIdx {E:Type} {l:List E} (p:E→Bool) {F:Int→Option (Int⊕(Int⊕(Int×Bool)))} {z:Int×Bool} (h1:∀(i:Nat) e,l[i]? = some e→F i=some (if p e=true then .inl ((i+1:Nat):Int) else .inr (.inl (i:Int))))
 (h2:F (l.length:Int)=some (.inr (.inr z))):iterL F 0=some (if l.all p=true then .inr z else .inl ((l.findIdx (fun e=>!p e):Nat):Int)):=by
 have key:∀(n i:Nat),i+n=l.length→iterL F (i:Int)=some (if (l.drop i).all p=true then .inr z else .inl ((i+(l.drop i).findIdx (fun e=>!p e):Nat):Int)):=by
  intro n
  induction n with
  |zero=>
   intro i hi
   have:i=l.length:=by omega
   subst this
   rw[iterL_inr h2];simp
  |succ n ih=>
   intro i hi
   have hlt:i<l.length:=by omega
   have hg:=List.getElem?_eq_getElem hlt
   have hf:=h1 i _ hg
   rw[List.drop_eq_getElem_cons hlt,List.all_cons,List.findIdx_cons]
   cases hp:p l[i] with
   |true=>
    rw[hp,if_pos rfl]at hf
    rw[iterL_inl hf,Bool.true_and,ih (i+1) (by omega)]
    simp only[Bool.not_true,cond_false]
    congr 2
    rw[show i+1+(l.drop (i+1)).findIdx (fun e=>!p e)=i+((l.drop (i+1)).findIdx (fun e=>!p e)+1) by omega]
   |false=>
    rw[hp,if_neg (by simp)]at hf
    rw[iterL_inr hf];simp
 have:=key l.length 0 (by omega)
 simpa using this
end Go.Ideal.Seat
set_option linter.unusedVariables false
set_option linter.unusedSimpArgs false
namespace Go.Ideal.Seat
open Go.Ideal.Plain
theorem foldl_snoc {E:Type} (l r:List E):l.foldl (fun a e=>a++[e]) r=r++l:=by
 induction l generalizing r with
 |nil=>simp
 |cons e l ih=>simp[ih]
end Go.Ideal.Seat
set_option linter.unusedVariables false
set_option linter.unusedSimpArgs false
namespace Go.Ideal.Seat
open Go.Ideal.Plain
end Go.Ideal.Seat
set_option linter.unusedVariables false
set_option linter.unusedSimpArgs false
namespace Go.Ideal.Seat
open Go.Ideal.Plain
end Go.Ideal.Seat
set_option linter.unusedVariables false
set_option linter.unusedSimpArgs false
namespace Go.Ideal.Plain
section
variable {S X Y:Type}
end
end Go.Ideal.Plain
set_option linter.unusedVariables false
set_option linter.unusedSimpArgs false
namespace Go.Ideal.Seat
open Go.Ideal.Plain
def bytesIn (l:List Int):Prop:=(∀x∈l,0≤x∧x<256)∧l.length≤2^36
end Go.Ideal.Seat
set_option linter.unusedVariables false
set_option linter.unusedSimpArgs false
namespace Go.Ideal.Seat
open Go.Ideal.Plain
abbrev Rd (α:Type):=List Int→Except Int (α×List Int)
def Rd.then {α β:Type} (m:Rd α) (f:α→Rd β):Rd β:=fun l=>match m l with
 |.ok p=>f p.1 p.2
 |.error e=>.error e
structure Runs {α:Type} (O:List Int×Int→Option ((List Int×Int)×α)) (m:Rd α):Prop where
 ok:∀b,bytesIn b→∀p,m b = .ok p→O (b,0)=some ((p.2,0),p.1)
 error:∀b,bytesIn b→∀e,m b = .error e→e≠0∧∃b' v,O (b,0)=some ((b',e),v)
 bad:∀b e,e≠0→∃v,O (b,e)=some ((b,e),v)
structure RefR (b:List Int) {α:Type} (F:Int→Option (α×Int×Int)) (m:Rd α):Prop where
 ok:∀k:Nat,k≤b.length→∀p,m (b.drop k) = .ok p→∃j:Nat,j≤b.length∧p.2=b.drop j∧F k=some (p.1,(j:Int),0)
 error:∀k:Nat,k≤b.length→∀e,m (b.drop k) = .error e→e≠0∧∃v j,F k=some (v,j,e)
end Go.Ideal.Seat
set_option linter.unusedVariables false
set_option linter.unusedSimpArgs false
namespace Go.Ideal.Seat
open Go.Ideal.Plain
end Go.Ideal.Seat
set_option linter.unusedVariables false
set_option linter.unusedSimpArgs false
namespace Go.Ideal.Seat
open Go.Ideal.Plain
end Go.Ideal.Seat
set_option linter.unusedVariables false
set_option linter.unusedSimpArgs false
namespace Go.Ideal.Seat
open Go.Ideal.Plain
end Go.Ideal.Seat
