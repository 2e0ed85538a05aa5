/- PROVED: for every input of its row the law returns true, and its arguments read as before (no further condition). -/
import Derived.Test.YtpcjmcpghhmidaaAm9
import Derived.Test.YtpcjmcpghhmidaaAm6
set_option linter.unusedVariables false
set_option linter.unusedSimpArgs false
set_option linter.unnecessarySimpa false
set_option linter.unusedSectionVars false
/- SipShorts: the row. -/
namespace Go.Proofs.Ytpcjmcpghhmidaa
open Go.RowKit Go.Am

set_option maxRecDepth 100000 in
theorem sipShorts_lifted (os : Os) (started : os.Started) (H : Type) (enc : TypeId × Value → H) :
    ReturnsInHanded {} Try.checked os 12 .any (Rows.sipShortsSpec.pre6 enc Try.prog Try.f12 Rows.sipShortsRow.domain false) (Rows.sipShortsSpec.post enc Try.prog Try.f12 false true false false) := by
  refine returnsInHanded_of_change_sized (C := Try.checked) Try.own started (by kernel_rfl) Try.func12
    (ChangeSpec.witness6 (enc := enc) (C := Try.checked) false ⟨#[], #[.agg (#[.string ⟨#[]⟩, .int .u64 0] ++ Array.replicate 32 (.int .u8 0) ++ #[.string ⟨#[]⟩, .int .i64 0])], []⟩ 8 (by kernel_rfl) (by kernel_rfl) (by kernel_rfl) (by kernel_rfl)) ?_
  intro W base args ds gs before hval hW _ hsz _
  exact law_row (tb := 4) (J := fun k x => bedrocklaw03_SipShorts k x.1) Try.laidOut Try.func12 (c := Func.code Try.f12) (by kernel_rfl) (ts := bedrocklaw03_SipShorts.tin) (by kernel_rfl) bedrocklaw03_SipShorts.sem_ok rfl (fun ds h => by obtain ⟨a, rfl⟩ := len1 h; exact ⟨rfl, rfl, rfl⟩) (by kernel_rfl) (by kernel_rfl)
    (fun x hd h => ⟨_, sipShorts_true h.1.1 (wf_u64 h.1.2.1) h.1.2.2.1.1 h.1.2.2.2.1 _⟩) hval hW hsz

theorem sipShorts_holds : Rows.SipShortsSaid :=
  OpenClaim.holds_of_wide 12 Try.f12 rfl rfl rfl rfl rfl rfl rfl ⟨rfl, rfl, rfl, rfl, rfl⟩ rfl rfl rfl rfl rfl (by kernel_rfl) Try.func12 (by kernel_rfl)
    (of_decide_eq_true (by kernel_rfl)) (by unfold Func.isWrapper; first | (rw [if_pos (by decide +kernel)]; kernel_rfl) | (rw [if_neg (by decide +kernel)]; exact ⟨rfl, rfl⟩))
    (fun os started H enc _ => sipShorts_lifted os started H enc)
end Go.Proofs.Ytpcjmcpghhmidaa
