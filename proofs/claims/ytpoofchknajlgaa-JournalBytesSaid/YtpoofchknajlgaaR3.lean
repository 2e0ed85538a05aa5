/- PROVED: for every input of its row the law returns true, and its arguments read as before (no further condition). -/
import Derived.Test.YtpoofchknajlgaaAm13
import Derived.Test.YtpoofchknajlgaaAm8
set_option linter.unusedVariables false
set_option linter.unusedSimpArgs false
set_option linter.unnecessarySimpa false
set_option linter.unusedSectionVars false
namespace Go.Proofs.Ytpoofchknajlgaa
open Go.RowKit Go.Am
set_option maxRecDepth 100000 in
theorem journalBytes_lifted (os : Os) (started : os.Started) (H : Type) (enc : TypeId × Value → H) :
  ReturnsInHanded {} Try.checked os 3 .any (Rows.journalBytesSpec.pre6 enc Try.prog Try.f3 Rows.journalBytesRow.domain false) (Rows.journalBytesSpec.post enc Try.prog Try.f3 false true false false) := by
 refine returnsInHanded_of_change_sized (C := Try.checked) Try.own started (by kernel_rfl) Try.func3
  (ChangeSpec.witness6 (enc := enc) (C := Try.checked) false ⟨#[], #[.int .u64 0, .int .u64 0, .string ⟨#[]⟩], []⟩ 8 (by kernel_rfl) (by kernel_rfl) (by kernel_rfl) (by kernel_rfl)) ?_
 intro W base args ds gs before hval hW _ hsz _
 exact QcO (tb := 4) (J := fun k x => Q5 k x.1 x.2.1 x.2.2.1) Try.laidOut Try.func3 (c := Func.code Try.f3) (by kernel_rfl) (ts := Q5.tin) (by kernel_rfl) Q5.sem_ok rfl (fun ds h => by obtain ⟨a, b, c, rfl⟩ := len3 h; exact ⟨rfl, rfl, rfl⟩) (by kernel_rfl) (by kernel_rfl)
  (fun x hd h => ⟨_, Q5V (k := 140737488355328) (by decide) Qd8 (Qc5 h.1) (Qc5 h.2.1) _ h.2.2.1⟩) hval hW hsz
theorem journalBytes_holds : Rows.JournalBytesSaid :=
 OpenClaim.holds_of_wide 3 Try.f3 rfl rfl rfl rfl rfl rfl rfl ⟨rfl, rfl, rfl, rfl, rfl⟩ rfl rfl rfl rfl rfl (by kernel_rfl) Try.func3 (by kernel_rfl)
  (of_decide_eq_true (by kernel_rfl)) (by unfold Func.isWrapper; first | (rw [if_pos (by decide +kernel)]; kernel_rfl) | (rw [if_neg (by decide +kernel)]; exact ⟨rfl, rfl⟩))
  (fun os started H enc _ => journalBytes_lifted os started H enc)
end Go.Proofs.Ytpoofchknajlgaa
