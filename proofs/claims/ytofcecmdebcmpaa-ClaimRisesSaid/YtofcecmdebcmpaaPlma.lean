/- Signs as bytes: plain facts. -/
import Derived.Test.YtofcecmdebcmpaaJc
import Derived.Test.YtofcecmdebcmpaaSm
set_option linter.unusedVariables false
set_option linter.unusedSimpArgs false
namespace Go.Ideal.Plain
def encB (r:Int):List UInt8:=(Utf8.encode r).data.toList
def codeOk (r:Int):Bool:=(decide (0≤r)&&decide (r<55296))||(decide (57344≤r)&&decide (r≤1114111))
end Go.Ideal.Plain
set_option linter.unusedVariables false
set_option linter.unusedSimpArgs false
namespace Go.Ideal.Plain
theorem w64 {x:Int} (h1:-9223372036854775808≤x) (h2:x≤9223372036854775807):IntKind.wrap .i64 x=x:=Go.IntWalk.i64_in _ ⟨h1,h2⟩
section
variable {S X A E:Type}
end
end Go.Ideal.Plain
set_option linter.unusedVariables false
set_option linter.unusedSimpArgs false
namespace Go.Ideal.Seat
open Go.Ideal.Plain
abbrev Cell:=Int×Int×Int×Int
end Go.Ideal.Seat
set_option linter.unusedVariables false
set_option linter.unusedSimpArgs false
namespace Go.Ideal.Seat
open Go.Ideal.Plain
end Go.Ideal.Seat
set_option linter.unusedVariables false
set_option linter.unusedSimpArgs false
namespace Go.Ideal.Plain
inductive Signs:List UInt8→Prop
 |nil:Signs []
 |cons {c:Int} {r:List UInt8} (hc:codeOk c=true) (h:Signs r):Signs (encB c++r)
end Go.Ideal.Plain
set_option linter.unusedVariables false
set_option linter.unusedSimpArgs false
namespace Go.Ideal.Seat
open Go.Ideal.Plain
end Go.Ideal.Seat
set_option linter.unusedVariables false
set_option linter.unusedSimpArgs false
namespace Go.Ideal.Seat
open Go.Ideal.Plain
def slice (l:List UInt8) (i n:Nat):List UInt8:=(l.drop i).take n
end Go.Ideal.Seat
set_option linter.unusedVariables false
set_option linter.unusedSimpArgs false
namespace Go.Ideal.Plain
end Go.Ideal.Plain
set_option linter.unusedVariables false
set_option linter.unusedSimpArgs false
namespace Go.Ideal.Seat
open Go.Ideal.Plain
end Go.Ideal.Seat
set_option linter.unusedVariables false
set_option linter.unusedSimpArgs false
namespace Go.Ideal.Seat
open Go.Ideal.Plain
end Go.Ideal.Seat
set_option linter.unusedVariables false
set_option linter.unusedSimpArgs false
namespace Go.Ideal.Seat
open Go.Ideal.Plain
abbrev Grd:=Int×Int×List Cell
def sizeOk (r c:Int):Bool:=decide (1≤r∧r≤60∧1≤c∧c≤132)
end Go.Ideal.Seat
set_option linter.unusedVariables false
set_option linter.unusedSimpArgs false
namespace Go.Ideal.Seat
open Go.Ideal.Plain
end Go.Ideal.Seat
set_option linter.unusedVariables false
set_option linter.unusedSimpArgs false
namespace Go.Ideal.Seat
open Go.Ideal.Plain
def blankC:Cell:=(32,0,0,0)
def grid0 (r c:Int):Grd:=(r,c,List.replicate (r*c).toNat blankC)
def base (g:Grd) (r c:Int):Grd:=if g.1=r∧g.2.1=c then (r,c,g.2.2) else if sizeOk r c=true then grid0 r c else (0,0,[])
end Go.Ideal.Seat
set_option linter.unusedVariables false
set_option linter.unusedSimpArgs false
namespace Go.Ideal.Seat
open Go.Ideal.Plain
end Go.Ideal.Seat
set_option linter.unusedVariables false
set_option linter.unusedSimpArgs false
namespace Go.Ideal.Seat
open Go.Ideal.Plain
end Go.Ideal.Seat
set_option linter.unusedVariables false
set_option linter.unusedSimpArgs false
namespace Go.Ideal.Seat
open Go.Ideal.Plain
end Go.Ideal.Seat
set_option linter.unusedVariables false
set_option linter.unusedSimpArgs false
namespace Go.Ideal.Seat
open Go.Ideal.Plain
theorem allIdx {E:Type} {l:List E} (p:E→Bool) {F:Int→Option (Int⊕(Int⊕(Int×Bool)))} {z:Int×Bool} (h1:∀(i:Nat) e,l[i]? = some e→F i=some (if p e=true then .inl ((i+1:Nat):Int) else .inr (.inl (i:Int))))
 (h2:F (l.length:Int)=some (.inr (.inr z))):iterL F 0=some (if l.all p=true then .inr z else .inl ((l.findIdx (fun e=>!p e):Nat):Int)):=by
 have key:∀(n i:Nat),i+n=l.length→iterL F (i:Int)=some (if (l.drop i).all p=true then .inr z else .inl ((i+(l.drop i).findIdx (fun e=>!p e):Nat):Int)):=by
  intro n
  induction n with
  |zero=>
   intro i hi
   have:i=l.length:=by omega
   subst this
   rw[iterL_inr h2];simp
  |succ n ih=>
   intro i hi
   have hlt:i<l.length:=by omega
   have hg:=List.getElem?_eq_getElem hlt
   have hf:=h1 i _ hg
   rw[List.drop_eq_getElem_cons hlt,List.all_cons,List.findIdx_cons]
   cases hp:p l[i] with
   |true=>
    rw[hp,if_pos rfl]at hf
    rw[iterL_inl hf,Bool.true_and,ih (i+1) (by omega)]
    simp only[Bool.not_true,cond_false]
    congr 2
    rw[show i+1+(l.drop (i+1)).findIdx (fun e=>!p e)=i+((l.drop (i+1)).findIdx (fun e=>!p e)+1) by omega]
   |false=>
    rw[hp,if_neg (by simp)]at hf
    rw[iterL_inr hf];simp
 have:=key l.length 0 (by omega)
 simpa using this
end Go.Ideal.Seat
set_option linter.unusedVariables false
set_option linter.unusedSimpArgs false
namespace Go.Ideal.Seat
open Go.Ideal.Plain
end Go.Ideal.Seat
set_option linter.unusedVariables false
set_option linter.unusedSimpArgs false
namespace Go.Ideal.Seat
open Go.Ideal.Plain
end Go.Ideal.Seat
set_option linter.unusedVariables false
set_option linter.unusedSimpArgs false
namespace Go.Ideal.Seat
open Go.Ideal.Plain
end Go.Ideal.Seat
set_option linter.unusedVariables false
set_option linter.unusedSimpArgs false
namespace Go.Ideal.Plain
section
variable {S X Y:Type}
end
end Go.Ideal.Plain
set_option linter.unusedVariables false
set_option linter.unusedSimpArgs false
namespace Go.Ideal.Seat
open Go.Ideal.Plain
def bytesIn (l:List Int):Prop:=(∀x∈l,0≤x∧x<256)∧l.length≤2^36
end Go.Ideal.Seat
set_option linter.unusedVariables false
set_option linter.unusedSimpArgs false
namespace Go.Ideal.Seat
open Go.Ideal.Plain
abbrev Rd (α:Type):=List Int→Except Int (α×List Int)
def Rd.then {α β:Type} (m:Rd α) (f:α→Rd β):Rd β:=fun l=>match m l with
 |.ok p=>f p.1 p.2
 |.error e=>.error e
structure Runs {α:Type} (O:List Int×Int→Option ((List Int×Int)×α)) (m:Rd α):Prop where
 ok:∀b,bytesIn b→∀p,m b = .ok p→O (b,0)=some ((p.2,0),p.1)
 error:∀b,bytesIn b→∀e,m b = .error e→e≠0∧∃b' v,O (b,0)=some ((b',e),v)
 bad:∀b e,e≠0→∃v,O (b,e)=some ((b,e),v)
structure RefR (b:List Int) {α:Type} (F:Int→Option (α×Int×Int)) (m:Rd α):Prop where
 ok:∀k:Nat,k≤b.length→∀p,m (b.drop k) = .ok p→∃j:Nat,j≤b.length∧p.2=b.drop j∧F k=some (p.1,(j:Int),0)
 error:∀k:Nat,k≤b.length→∀e,m (b.drop k) = .error e→e≠0∧∃v j,F k=some (v,j,e)
end Go.Ideal.Seat
set_option linter.unusedVariables false
set_option linter.unusedSimpArgs false
namespace Go.Ideal.Seat
open Go.Ideal.Plain
end Go.Ideal.Seat
set_option linter.unusedVariables false
set_option linter.unusedSimpArgs false
namespace Go.Ideal.Seat
open Go.Ideal.Plain
end Go.Ideal.Seat
set_option linter.unusedVariables false
set_option linter.unusedSimpArgs false
namespace Go.Ideal.Seat
open Go.Ideal.Plain
end Go.Ideal.Seat
