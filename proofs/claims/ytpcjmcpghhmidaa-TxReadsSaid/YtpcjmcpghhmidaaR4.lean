/- PROVED: for every input of its row the law returns true, and its arguments read as before (no further condition). -/
import Derived.Test.YtpcjmcpghhmidaaAm10
import Derived.Test.YtpcjmcpghhmidaaAm6
set_option linter.unusedVariables false
set_option linter.unusedSimpArgs false
set_option linter.unnecessarySimpa false
set_option linter.unusedSectionVars false
/- TxReads: the row. -/
namespace Go.Proofs.Ytpcjmcpghhmidaa
open Go.RowKit Go.Am

set_option maxRecDepth 100000 in
theorem txReads_lifted (os : Os) (started : os.Started) (H : Type) (enc : TypeId × Value → H) :
    ReturnsInHanded {} Try.checked os 4 .any (Rows.txReadsSpec.pre6 enc Try.prog Try.f4 Rows.txReadsRow.domain false) (Rows.txReadsSpec.post enc Try.prog Try.f4 false true false false) := by
  refine returnsInHanded_of_change_sized (C := Try.checked) Try.own started (by kernel_rfl) Try.func4
    (ChangeSpec.witness6 (enc := enc) (C := Try.checked) false ⟨#[], #[.string ⟨#[]⟩, .int .i64 0], []⟩ 8 (by kernel_rfl) (by kernel_rfl) (by kernel_rfl) (by kernel_rfl)) ?_
  intro W base args ds gs before hval hW _ hsz _
  exact law_row (tb := 4) (J := fun k x => bedrocklaw10_TxReads k x.1 x.2.1) Try.laidOut Try.func4 (c := Func.code Try.f4) (by kernel_rfl) (ts := bedrocklaw10_TxReads.tin) (by kernel_rfl) bedrocklaw10_TxReads.sem_ok rfl (fun ds h => by obtain ⟨a, b, rfl⟩ := len2 h; exact ⟨rfl, rfl, rfl⟩) (by kernel_rfl) (by kernel_rfl)
    (fun x hd h => ⟨_, txReads_true h.1 _⟩) hval hW hsz

theorem txReads_holds : Rows.TxReadsSaid :=
  OpenClaim.holds_of_wide 4 Try.f4 rfl rfl rfl rfl rfl rfl rfl ⟨rfl, rfl, rfl, rfl, rfl⟩ rfl rfl rfl rfl rfl (by kernel_rfl) Try.func4 (by kernel_rfl)
    (of_decide_eq_true (by kernel_rfl)) (by unfold Func.isWrapper; first | (rw [if_pos (by decide +kernel)]; kernel_rfl) | (rw [if_neg (by decide +kernel)]; exact ⟨rfl, rfl⟩))
    (fun os started H enc _ => txReads_lifted os started H enc)
end Go.Proofs.Ytpcjmcpghhmidaa
