/- Signs as bytes: plain facts. -/
import Derived.Test.YthhcpaffhbmoaaaJc
import Derived.Test.YthhcpaffhbmoaaaSf
set_option linter.unusedVariables false
set_option linter.unusedSimpArgs false
namespace Go.Ideal.Plain
end Go.Ideal.Plain
set_option linter.unusedVariables false
set_option linter.unusedSimpArgs false
namespace Go.Ideal.Plain
section
variable {S X A E:Type}
end
end Go.Ideal.Plain
set_option linter.unusedVariables false
set_option linter.unusedSimpArgs false
namespace Go.Ideal.Seat
open Go.Ideal.Plain
abbrev Cell:=Int×Int×Int×Int
end Go.Ideal.Seat
set_option linter.unusedVariables false
set_option linter.unusedSimpArgs false
namespace Go.Ideal.Seat
open Go.Ideal.Plain
end Go.Ideal.Seat
set_option linter.unusedVariables false
set_option linter.unusedSimpArgs false
namespace Go.Ideal.Plain
end Go.Ideal.Plain
set_option linter.unusedVariables false
set_option linter.unusedSimpArgs false
namespace Go.Ideal.Seat
open Go.Ideal.Plain
end Go.Ideal.Seat
set_option linter.unusedVariables false
set_option linter.unusedSimpArgs false
namespace Go.Ideal.Seat
open Go.Ideal.Plain
def slice (l:List UInt8) (i n:Nat):List UInt8:=(l.drop i).take n
end Go.Ideal.Seat
set_option linter.unusedVariables false
set_option linter.unusedSimpArgs false
namespace Go.Ideal.Plain
end Go.Ideal.Plain
set_option linter.unusedVariables false
set_option linter.unusedSimpArgs false
namespace Go.Ideal.Seat
open Go.Ideal.Plain
end Go.Ideal.Seat
set_option linter.unusedVariables false
set_option linter.unusedSimpArgs false
namespace Go.Ideal.Seat
open Go.Ideal.Plain
end Go.Ideal.Seat
set_option linter.unusedVariables false
set_option linter.unusedSimpArgs false
namespace Go.Ideal.Seat
open Go.Ideal.Plain
abbrev Grd:=Int×Int×List Cell
def sizeOk (r c:Int):Bool:=decide (1≤r∧r≤60∧1≤c∧c≤132)
end Go.Ideal.Seat
set_option linter.unusedVariables false
set_option linter.unusedSimpArgs false
namespace Go.Ideal.Seat
open Go.Ideal.Plain
end Go.Ideal.Seat
set_option linter.unusedVariables false
set_option linter.unusedSimpArgs false
namespace Go.Ideal.Seat
open Go.Ideal.Plain
def blankC:Cell:=(32,0,0,0)
def grid0 (r c:Int):Grd:=(r,c,List.replicate (r*c).toNat blankC)
def base (g:Grd) (r c:Int):Grd:=if g.1=r∧g.2.1=c then (r,c,g.2.2) else if sizeOk r c=true then grid0 r c else (0,0,[])
end Go.Ideal.Seat
set_option linter.unusedVariables false
set_option linter.unusedSimpArgs false
namespace Go.Ideal.Seat
open Go.Ideal.Plain
end Go.Ideal.Seat
set_option linter.unusedVariables false
set_option linter.unusedSimpArgs false
namespace Go.Ideal.Seat
open Go.Ideal.Plain
end Go.Ideal.Seat
set_option linter.unusedVariables false
set_option linter.unusedSimpArgs false
namespace Go.Ideal.Seat
open Go.Ideal.Plain
end Go.Ideal.Seat
set_option linter.unusedVariables false
set_option linter.unusedSimpArgs false
namespace Go.Ideal.Seat
open Go.Ideal.Plain
end Go.Ideal.Seat
set_option linter.unusedVariables false
set_option linter.unusedSimpArgs false
namespace Go.Ideal.Seat
open Go.Ideal.Plain
end Go.Ideal.Seat
set_option linter.unusedVariables false
set_option linter.unusedSimpArgs false
namespace Go.Ideal.Seat
open Go.Ideal.Plain
end Go.Ideal.Seat
set_option linter.unusedVariables false
set_option linter.unusedSimpArgs false
namespace Go.Ideal.Seat
open Go.Ideal.Plain
end Go.Ideal.Seat
set_option linter.unusedVariables false
set_option linter.unusedSimpArgs false
namespace Go.Ideal.Plain
section
variable {S X Y:Type}
end
end Go.Ideal.Plain
set_option linter.unusedVariables false
set_option linter.unusedSimpArgs false
namespace Go.Ideal.Seat
open Go.Ideal.Plain
def bytesIn (l:List Int):Prop:=(∀x∈l,0≤x∧x<256)∧l.length≤2^36
end Go.Ideal.Seat
set_option linter.unusedVariables false
set_option linter.unusedSimpArgs false
namespace Go.Ideal.Seat
open Go.Ideal.Plain
abbrev Rd (α:Type):=List Int→Except Int (α×List Int)
def Rd.then {α β:Type} (m:Rd α) (f:α→Rd β):Rd β:=fun l=>match m l with
 |.ok p=>f p.1 p.2
 |.error e=>.error e
structure Runs {α:Type} (O:List Int×Int→Option ((List Int×Int)×α)) (m:Rd α):Prop where
 ok:∀b,bytesIn b→∀p,m b = .ok p→O (b,0)=some ((p.2,0),p.1)
 error:∀b,bytesIn b→∀e,m b = .error e→e≠0∧∃b' v,O (b,0)=some ((b',e),v)
 bad:∀b e,e≠0→∃v,O (b,e)=some ((b,e),v)
structure RefR (b:List Int) {α:Type} (F:Int→Option (α×Int×Int)) (m:Rd α):Prop where
 ok:∀k:Nat,k≤b.length→∀p,m (b.drop k) = .ok p→∃j:Nat,j≤b.length∧p.2=b.drop j∧F k=some (p.1,(j:Int),0)
 error:∀k:Nat,k≤b.length→∀e,m (b.drop k) = .error e→e≠0∧∃v j,F k=some (v,j,e)
end Go.Ideal.Seat
set_option linter.unusedVariables false
set_option linter.unusedSimpArgs false
namespace Go.Ideal.Seat
open Go.Ideal.Plain
end Go.Ideal.Seat
set_option linter.unusedVariables false
set_option linter.unusedSimpArgs false
namespace Go.Ideal.Seat
open Go.Ideal.Plain
end Go.Ideal.Seat
set_option linter.unusedVariables false
set_option linter.unusedSimpArgs false
namespace Go.Ideal.Seat
open Go.Ideal.Plain
end Go.Ideal.Seat
