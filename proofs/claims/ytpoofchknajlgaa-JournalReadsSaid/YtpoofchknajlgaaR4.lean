/- PROVED: for every input of its row the law returns true, and its arguments read as before (no further condition). -/
import Derived.Test.YtpoofchknajlgaaAm13
import Derived.Test.YtpoofchknajlgaaAm8
set_option linter.unusedVariables false
set_option linter.unusedSimpArgs false
set_option linter.unnecessarySimpa false
set_option linter.unusedSectionVars false
namespace Go.Proofs.Ytpoofchknajlgaa
open Go.RowKit Go.Am
set_option maxRecDepth 100000 in
theorem journalReads_lifted (os : Os) (started : os.Started) (H : Type) (enc : TypeId × Value → H) :
  ReturnsInHanded {} Try.checked os 4 .any (Rows.journalReadsSpec.pre6 enc Try.prog Try.f4 Rows.journalReadsRow.domain false) (Rows.journalReadsSpec.post enc Try.prog Try.f4 false true false false) := by
 refine returnsInHanded_of_change_sized (C := Try.checked) Try.own started (by kernel_rfl) Try.func4
  (ChangeSpec.witness6 (enc := enc) (C := Try.checked) false ⟨#[], #[.string ⟨#[]⟩], []⟩ 8 (by kernel_rfl) (by kernel_rfl) (by kernel_rfl) (by kernel_rfl)) ?_
 intro W base args ds gs before hval hW _ hsz _
 exact Qdp (tb := 4) (J := fun k x => Qx k x.1) Try.laidOut Try.func4 (c := Func.code Try.f4) (by kernel_rfl) (ts := Qx.tin) (by kernel_rfl) Qx.sem_ok rfl (fun ds h => by obtain ⟨a, rfl⟩ := len1 h; exact ⟨rfl, rfl, rfl⟩) (by kernel_rfl) (by kernel_rfl)
  (fun x hd h => ⟨_, Q5J (k := 140737488355328) (by decide) Qdl h.1 (Nat.lt_of_le_of_lt h.1 (by decide))⟩) hval hW hsz
theorem journalReads_holds : Rows.JournalReadsSaid :=
 OpenClaim.holds_of_wide 4 Try.f4 rfl rfl rfl rfl rfl rfl rfl ⟨rfl, rfl, rfl, rfl, rfl⟩ rfl rfl rfl rfl rfl (by kernel_rfl) Try.func4 (by kernel_rfl)
  (of_decide_eq_true (by kernel_rfl)) (by unfold Func.isWrapper; first | (rw [if_pos (by decide +kernel)]; kernel_rfl) | (rw [if_neg (by decide +kernel)]; exact ⟨rfl, rfl⟩))
  (fun os started H enc _ => journalReads_lifted os started H enc)
end Go.Proofs.Ytpoofchknajlgaa
