/- Any bytes are just the packet that the document says, or none, and what is wrong first is told; so is what they begin with. No conditions. -/
import Derived.Test.YtiiibbnififbpaaRows
import Derived.ProofKit
import Derived.WalkKit
import Derived.Test.YtiiibbnififbpaaJc
import Derived.Test.YtiiibbnififbpaaPlbb
set_option linter.unusedVariables false
set_option maxRecDepth 100000
namespace Go.Proofs.Ytiiibbnififbpaa
open Go.Ideal
theorem own:ownKnob Try.prog.godebug=none:=by kernel_rfl
theorem laidOut:laidOutB Try.prog=true:=by kernel_rfl
def tyOk (P:Program) (t:TypeId):Bool:=pJ P 20 t&&((P.cellsOf t==1||qC P t)&&(P.readableRec t&&decide (t<P.types.size)))
theorem tyOk_ok {P:Program} {t:TypeId} (h:tyOk P t=true):(pJ P 20 t=true∧(P.cellsOf t=1∨qC P t=true))∧(P.readableRec t=true∧t<P.types.size):=by
 simp only[tyOk,Bool.and_eq_true,Bool.or_eq_true,beq_iff_eq,decide_eq_true_eq]at h
 exact⟨⟨h.1,h.2.1⟩,h.2.2⟩
theorem lifted (os:Os) (started:os.Started) (H:Type) (enc:TypeId×Value→H):
 ReturnsInHanded {} Try.checked os 5 .any (Rows.packetReadsSpec.pre6 enc Try.prog Try.f5 Rows.packetReadsRow.domain false) (Rows.packetReadsSpec.post enc Try.prog Try.f5 false true false false):=by
 refine returnsInHanded_of_change (C:=Try.checked) own started (by kernel_rfl) Try.func5
  (ChangeSpec.witness6 (enc:=enc) (C:=Try.checked) false ⟨#[],#[.slice none 0 0],[]⟩ 8 (by kernel_rfl) (by kernel_rfl) (by kernel_rfl) (by kernel_rfl)) ?_
 intro W base args ds gs before hval hW hcnd _
 exact Tp (P:=Try.prog) Seat.links (m:=20) (tb:=4) laidOut (fun t ht=>tyOk_ok (List.all_eq_true.1 (show Try.f5.params.toList.all (tyOk Try.prog)=true by kernel_rfl) t ht)) (by kernel_rfl) Try.underlying4 rfl
  (fun ds hds=>by
    match ds,hds with
    |[_],_=>rfl) (law_of (m:=20) Seat.o5 rfl (by kernel_rfl) (fun x hx=>⟨true,Seat.reads_law x hx.1.2,fun p iv h=>bool_res h rfl⟩)) hval hW
theorem holds:Rows.PacketReadsSaid:=
 OpenClaim.holds_of_wide 5 Try.f5 rfl rfl rfl rfl rfl rfl rfl ⟨rfl,rfl,rfl,rfl,rfl⟩ rfl rfl rfl rfl rfl (by kernel_rfl) Try.func5 (by kernel_rfl)
  (of_decide_eq_true (by kernel_rfl)) (by unfold Func.isWrapper;first|(rw[if_pos (by decide +kernel)];kernel_rfl)|(rw[if_neg (by decide +kernel)];exact⟨rfl,rfl⟩))
  (fun os started H enc _=>lifted os started H enc)
#print axioms holds
end Go.Proofs.Ytiiibbnififbpaa
