/- PROVED: for every input of its row the law returns true, and its arguments read as before (no further condition). -/
import Derived.Test.YtpcjmcpghhmidaaAm10
import Derived.Test.YtpcjmcpghhmidaaAm7
set_option linter.unusedVariables false
set_option linter.unusedSimpArgs false
set_option linter.unnecessarySimpa false
set_option linter.unusedSectionVars false
/- SipDigests: the row. -/
namespace Go.Proofs.Ytpcjmcpghhmidaa
open Go.RowKit Go.Am

set_option maxRecDepth 100000 in
theorem sipDigests_lifted (os : Os) (started : os.Started) (H : Type) (enc : TypeId × Value → H) :
    ReturnsInHanded {} Try.checked os 3 .any (Rows.sipDigestsSpec.pre6 enc Try.prog Try.f3 Rows.sipDigestsRow.domain false) (Rows.sipDigestsSpec.post enc Try.prog Try.f3 false true false false) := by
  refine returnsInHanded_of_change_sized (C := Try.checked) Try.own started (by kernel_rfl) Try.func3
    (ChangeSpec.witness6 (enc := enc) (C := Try.checked) false ⟨#[], #[.agg #[.int .u64 0, .int .u64 0, .string ⟨#[]⟩, .int .u64 0, .int .u64 0, .int .u64 0, .int .u64 0, .int .i64 0]], []⟩ 8 (by kernel_rfl) (by kernel_rfl) (by kernel_rfl) (by kernel_rfl)) ?_
  intro W base args ds gs before hval hW _ hsz _
  exact law_row (tb := 4) (J := fun k x => bedrocklaw03_SipDigests k x.1) Try.laidOut Try.func3 (c := Func.code Try.f3) (by kernel_rfl) (ts := bedrocklaw03_SipDigests.tin) (by kernel_rfl) bedrocklaw03_SipDigests.sem_ok rfl (fun ds h => by obtain ⟨a, rfl⟩ := len1 h; exact ⟨rfl, rfl, rfl⟩) (by kernel_rfl) (by kernel_rfl)
    (fun x hd h => by
      have hv : W4 x.1.2.2.1 := by
        obtain ⟨hl, hr⟩ := h.1.2.2.1
        generalize x.1.2.2.1 = v at hl hr
        match v, hl, hr with
        | [a, b, c, d], _, hr => exact ⟨a, b, c, d, rfl, wf_u64 (hr 0 (by omega)), wf_u64 (hr 1 (by omega)), wf_u64 (hr 2 (by omega)), wf_u64 (hr 3 (by omega))⟩
      exact ⟨_, sipDigests_main rfl h.1.2.1 hv⟩) hval hW hsz

theorem sipDigests_holds : Rows.SipDigestsSaid :=
  OpenClaim.holds_of_wide 3 Try.f3 rfl rfl rfl rfl rfl rfl rfl ⟨rfl, rfl, rfl, rfl, rfl⟩ rfl rfl rfl rfl rfl (by kernel_rfl) Try.func3 (by kernel_rfl)
    (of_decide_eq_true (by kernel_rfl)) (by unfold Func.isWrapper; first | (rw [if_pos (by decide +kernel)]; kernel_rfl) | (rw [if_neg (by decide +kernel)]; exact ⟨rfl, rfl⟩))
    (fun os started H enc _ => sipDigests_lifted os started H enc)
end Go.Proofs.Ytpcjmcpghhmidaa
