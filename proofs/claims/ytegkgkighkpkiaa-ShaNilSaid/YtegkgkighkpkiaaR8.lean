/- PROVED: for every input of its row the law returns true, and its arguments read as before (no further condition). -/
import Derived.Test.YtegkgkighkpkiaaAm7
import Derived.Test.YtegkgkighkpkiaaAm5
set_option linter.unusedVariables false
set_option linter.unusedSimpArgs false
set_option linter.unnecessarySimpa false
set_option linter.unusedSectionVars false
/- ShaNil: the row. -/
namespace Go.Proofs.Ytegkgkighkpkiaa
open Go.RowKit Go.Am

set_option maxRecDepth 100000 in
theorem shaNil_lifted (os : Os) (started : os.Started) (H : Type) (enc : TypeId × Value → H) :
    ReturnsInHanded {} Try.checked os 8 .any (Rows.shaNilSpec.pre6 enc Try.prog Try.f8 Rows.shaNilRow.domain false) (Rows.shaNilSpec.post enc Try.prog Try.f8 false true false false) := by
  refine returnsInHanded_of_change_sized (C := Try.checked) Try.own started (by kernel_rfl) Try.func8
    (ChangeSpec.witness6 (enc := enc) (C := Try.checked) false ⟨#[], #[.string ⟨#[]⟩], []⟩ 8 (by kernel_rfl) (by kernel_rfl) (by kernel_rfl) (by kernel_rfl)) ?_
  intro W base args ds gs before hval hW _ hsz _
  exact law_row (tb := 4) (J := fun k x => bedrocklaw02_ShaNil k x.1) Try.laidOut Try.func8 (c := Func.code Try.f8) (by kernel_rfl) (ts := bedrocklaw02_ShaNil.tin) (by kernel_rfl) bedrocklaw02_ShaNil.sem_ok rfl (fun ds h => by obtain ⟨a, rfl⟩ := len1 h; exact ⟨rfl, rfl, rfl⟩) (by kernel_rfl) (by kernel_rfl)
    (fun x hd h => ⟨_, shaNil_true _⟩) hval hW hsz

theorem shaNil_holds : Rows.ShaNilSaid :=
  OpenClaim.holds_of_wide 8 Try.f8 rfl rfl rfl rfl rfl rfl rfl ⟨rfl, rfl, rfl, rfl, rfl⟩ rfl rfl rfl rfl rfl (by kernel_rfl) Try.func8 (by kernel_rfl)
    (of_decide_eq_true (by kernel_rfl)) (by unfold Func.isWrapper; first | (rw [if_pos (by decide +kernel)]; kernel_rfl) | (rw [if_neg (by decide +kernel)]; exact ⟨rfl, rfl⟩))
    (fun os started H enc _ => shaNil_lifted os started H enc)
end Go.Proofs.Ytegkgkighkpkiaa
