/- PROVED: for every input of its row the law returns true, and its arguments read as before (no further condition). -/
import Derived.Test.YtefnfbhgjfkijaaGreatAm13
import Derived.Test.YtefnfbhgjfkijaaGreatAm9
set_option linter.unusedVariables false
set_option linter.unusedSimpArgs false
set_option linter.unnecessarySimpa false
set_option linter.unusedSectionVars false
namespace Go.Proofs.YtefnfbhgjfkijaaGreat
open Go.RowKit Go.Am
set_option maxRecDepth 100000 in
theorem validNil_lifted (os : Os) (started : os.Started) (H : Type) (enc : TypeId × Value → H) :
  ReturnsInHanded {} Tryz.checked os 3 .any (Rows.validNilSpec.pre6 enc Tryz.prog Tryz.f3 Rows.validNilRow.domain false) (Rows.validNilSpec.post enc Tryz.prog Tryz.f3 false true false false) := by
 refine returnsInHanded_of_change_sized (C := Tryz.checked) Tryz.own started (by kernel_rfl) Tryz.func3
  (ChangeSpec.witness6 (enc := enc) (C := Tryz.checked) false ⟨#[], #[.agg ((#[.int .u32 0] ++ Array.replicate 64 (.int .u8 0)) ++ #[.int .u32 0, .int .u32 0, .int .u32 0, .slice none 0 0]), .int .i64 0], []⟩ 8 (by kernel_rfl) (by kernel_rfl) (by kernel_rfl) (by kernel_rfl)) ?_
 intro W base args ds gs before hval hW _ hsz _
 exact Qbx (tb := 4) (J := fun k x => QA k x.1 x.2.1) Tryz.laidOut Tryz.func3 (c := Func.code Tryz.f3) (by kernel_rfl) (ts := QA.tin) (by kernel_rfl) QA.sem_ok rfl (fun ds h => by obtain ⟨a, b, rfl⟩ := len2 h; exact ⟨rfl, rfl, rfl⟩) (by kernel_rfl) (by kernel_rfl)
  (fun x hd h => ⟨_, Q7y _ _⟩) hval hW hsz
theorem validNil_holds : Rows.ValidNilSaid :=
 OpenClaim.holds_of_wide 3 Tryz.f3 rfl rfl rfl rfl rfl rfl rfl ⟨rfl, rfl, rfl, rfl, rfl⟩ rfl rfl rfl rfl rfl (by kernel_rfl) Tryz.func3 (by kernel_rfl)
  (of_decide_eq_true (by kernel_rfl)) (by unfold Func.isWrapper; first | (rw [if_pos (by decide +kernel)]; kernel_rfl) | (rw [if_neg (by decide +kernel)]; exact ⟨rfl, rfl⟩))
  (fun os started H enc _ => validNil_lifted os started H enc)
end Go.Proofs.YtefnfbhgjfkijaaGreat
