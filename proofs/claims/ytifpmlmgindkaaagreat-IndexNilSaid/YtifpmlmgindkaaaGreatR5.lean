/- PROVED: for every input of its row the law returns true, and its arguments read as before (no further condition). -/
import Derived.Test.YtifpmlmgindkaaaGreatAm13
import Derived.Test.YtifpmlmgindkaaaGreatAm9
set_option linter.unusedVariables false
set_option linter.unusedSimpArgs false
set_option linter.unnecessarySimpa false
set_option linter.unusedSectionVars false
namespace Go.Proofs.YtifpmlmgindkaaaGreat
open Go.RowKit Go.Am
set_option maxRecDepth 100000 in
theorem indexNil_lifted (os : Os) (started : os.Started) (H : Type) (enc : TypeId × Value → H) :
  ReturnsInHanded {} Tryz.checked os 5 .any (Rows.indexNilSpec.pre6 enc Tryz.prog Tryz.f5 Rows.indexNilRow.domain false) (Rows.indexNilSpec.post enc Tryz.prog Tryz.f5 false true false false) := by
 refine returnsInHanded_of_change_sized (C := Tryz.checked) Tryz.own started (by kernel_rfl) Tryz.func5
  (ChangeSpec.witness6 (enc := enc) (C := Tryz.checked) false ⟨#[], #[.agg ((#[.int .u32 0] ++ Array.replicate 64 (.int .u8 0)) ++ #[.int .u32 0, .int .u32 0, .int .u32 0, .int .i64 0, .int .i64 0, .int .i64 0, .int .i64 0, .int .i64 0])], []⟩ 8 (by kernel_rfl) (by kernel_rfl) (by kernel_rfl) (by kernel_rfl)) ?_
 intro W base args ds gs before hval hW _ hsz _
 exact QbS (tb := 4) (J := fun k x => QI k x.1) Tryz.laidOut Tryz.func5 (c := Func.code Tryz.f5) (by kernel_rfl) (ts := QI.tin) (by kernel_rfl) QI.sem_ok rfl (fun ds h => by obtain ⟨a, rfl⟩ := len1 h; exact ⟨rfl, rfl, rfl⟩) (by kernel_rfl) (by kernel_rfl)
  (fun x hd h => ⟨_, Q7G _⟩) hval hW hsz
theorem indexNil_holds : Rows.IndexNilSaid :=
 OpenClaim.holds_of_wide 5 Tryz.f5 rfl rfl rfl rfl rfl rfl rfl ⟨rfl, rfl, rfl, rfl, rfl⟩ rfl rfl rfl rfl rfl (by kernel_rfl) Tryz.func5 (by kernel_rfl)
  (of_decide_eq_true (by kernel_rfl)) (by unfold Func.isWrapper; first | (rw [if_pos (by decide +kernel)]; kernel_rfl) | (rw [if_neg (by decide +kernel)]; exact ⟨rfl, rfl⟩))
  (fun os started H enc _ => indexNil_lifted os started H enc)
end Go.Proofs.YtifpmlmgindkaaaGreat
