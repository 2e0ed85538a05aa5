/- PROVED: for every input of its row the law returns true, and its arguments read as before (no further condition). -/
import Derived.Test.YtegkgkighkpkiaaAm11
import Derived.Test.YtegkgkighkpkiaaAm5
set_option linter.unusedVariables false
set_option linter.unusedSimpArgs false
set_option linter.unnecessarySimpa false
set_option linter.unusedSectionVars false
/- ShaTexts: the row. -/
namespace Go.Proofs.Ytegkgkighkpkiaa
open Go.RowKit Go.Am

theorem wf_byte2 {n : Int} (h : (Lit.int .u8 n).wf = true) : 0 ≤ n ∧ n < 256 := by
  have := wf_u8 h
  omega

set_option maxRecDepth 100000 in
theorem shaTexts_lifted (os : Os) (started : os.Started) (H : Type) (enc : TypeId × Value → H) :
    ReturnsInHanded {} Try.checked os 11 .any (Rows.shaTextsSpec.pre6 enc Try.prog Try.f11 Rows.shaTextsRow.domain false) (Rows.shaTextsSpec.post enc Try.prog Try.f11 false true false false) := by
  refine returnsInHanded_of_change_sized (C := Try.checked) Try.own started (by kernel_rfl) Try.func11
    (ChangeSpec.witness6 (enc := enc) (C := Try.checked) false ⟨#[], #[.agg (Array.replicate 32 (.int .u8 0)), .agg (Array.replicate 32 (.int .u8 0)), .string ⟨#[]⟩], []⟩ 8 (by kernel_rfl) (by kernel_rfl) (by kernel_rfl) (by kernel_rfl)) ?_
  intro W base args ds gs before hval hW _ hsz _
  exact law_row (tb := 4) (J := fun k x => bedrocklaw02_ShaTexts k x.1 x.2.1 x.2.2.1) Try.laidOut Try.func11 (c := Func.code Try.f11) (by kernel_rfl) (ts := bedrocklaw02_ShaTexts.tin) (by kernel_rfl) bedrocklaw02_ShaTexts.sem_ok rfl (fun ds h => by obtain ⟨a, b, c, rfl⟩ := len3 h; exact ⟨rfl, rfl, rfl⟩) (by kernel_rfl) (by kernel_rfl)
    (fun x hd h => ⟨_, shaTexts_true h.1.1 h.2.1.1 (all_getD (p := fun x => 0 ≤ x ∧ x < 256) fun i hi => wf_byte2 (h.1.2 i (by have := h.1.1; omega))) (all_getD (p := fun x => 0 ≤ x ∧ x < 256) fun i hi => wf_byte2 (h.2.1.2 i (by have := h.2.1.1; omega))) h.2.2.1⟩) hval hW hsz

theorem shaTexts_holds : Rows.ShaTextsSaid :=
  OpenClaim.holds_of_wide 11 Try.f11 rfl rfl rfl rfl rfl rfl rfl ⟨rfl, rfl, rfl, rfl, rfl⟩ rfl rfl rfl rfl rfl (by kernel_rfl) Try.func11 (by kernel_rfl)
    (of_decide_eq_true (by kernel_rfl)) (by unfold Func.isWrapper; first | (rw [if_pos (by decide +kernel)]; kernel_rfl) | (rw [if_neg (by decide +kernel)]; exact ⟨rfl, rfl⟩))
    (fun os started H enc _ => shaTexts_lifted os started H enc)
end Go.Proofs.Ytegkgkighkpkiaa
