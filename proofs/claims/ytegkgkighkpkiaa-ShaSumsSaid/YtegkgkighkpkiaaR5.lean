/- PROVED: for every input of its row the law returns true, and its arguments read as before (no further condition). -/
import Derived.Test.YtegkgkighkpkiaaAm7
import Derived.Test.YtegkgkighkpkiaaAm5
set_option linter.unusedVariables false
set_option linter.unusedSimpArgs false
set_option linter.unnecessarySimpa false
set_option linter.unusedSectionVars false
/- ShaSums: the row. -/
namespace Go.Proofs.Ytegkgkighkpkiaa
open Go.RowKit Go.Am

set_option maxRecDepth 100000 in
theorem shaSums_lifted (os : Os) (started : os.Started) (H : Type) (enc : TypeId × Value → H) :
    ReturnsInHanded {} Try.checked os 5 .any (Rows.shaSumsSpec.pre6 enc Try.prog Try.f5 Rows.shaSumsRow.domain false) (Rows.shaSumsSpec.post enc Try.prog Try.f5 false true false false) := by
  refine returnsInHanded_of_change_sized (C := Try.checked) Try.own started (by kernel_rfl) Try.func5
    (ChangeSpec.witness6 (enc := enc) (C := Try.checked) false ⟨#[], #[.string ⟨#[]⟩, .int .u64 0], []⟩ 8 (by kernel_rfl) (by kernel_rfl) (by kernel_rfl) (by kernel_rfl)) ?_
  intro W base args ds gs before hval hW _ hsz _
  exact law_row (tb := 4) (J := fun k x => bedrocklaw02_ShaSums k x.1 x.2.1) Try.laidOut Try.func5 (c := Func.code Try.f5) (by kernel_rfl) (ts := bedrocklaw02_ShaSums.tin) (by kernel_rfl) bedrocklaw02_ShaSums.sem_ok rfl (fun ds h => by obtain ⟨a, b, rfl⟩ := len2 h; exact ⟨rfl, rfl, rfl⟩) (by kernel_rfl) (by kernel_rfl)
    (fun x hd h => ⟨_, shaSums_true h.1 _⟩) hval hW hsz

theorem shaSums_holds : Rows.ShaSumsSaid :=
  OpenClaim.holds_of_wide 5 Try.f5 rfl rfl rfl rfl rfl rfl rfl ⟨rfl, rfl, rfl, rfl, rfl⟩ rfl rfl rfl rfl rfl (by kernel_rfl) Try.func5 (by kernel_rfl)
    (of_decide_eq_true (by kernel_rfl)) (by unfold Func.isWrapper; first | (rw [if_pos (by decide +kernel)]; kernel_rfl) | (rw [if_neg (by decide +kernel)]; exact ⟨rfl, rfl⟩))
    (fun os started H enc _ => shaSums_lifted os started H enc)
end Go.Proofs.Ytegkgkighkpkiaa
