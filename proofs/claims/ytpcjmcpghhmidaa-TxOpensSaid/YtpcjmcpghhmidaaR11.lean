/- PROVED: for every input of its row the law returns true, and its arguments read as before (no further condition). -/
import Derived.Test.YtpcjmcpghhmidaaAm11
import Derived.Test.YtpcjmcpghhmidaaAm6
set_option linter.unusedVariables false
set_option linter.unusedSimpArgs false
set_option linter.unnecessarySimpa false
set_option linter.unusedSectionVars false
/- TxOpens: the row. -/
namespace Go.Proofs.Ytpcjmcpghhmidaa
open Go.RowKit Go.Am

set_option maxRecDepth 100000 in
theorem txOpens_lifted (os : Os) (started : os.Started) (H : Type) (enc : TypeId × Value → H) :
    ReturnsInHanded {} Try.checked os 11 .any (Rows.txOpensSpec.pre6 enc Try.prog Try.f11 Rows.txOpensRow.domain false) (Rows.txOpensSpec.post enc Try.prog Try.f11 false true false false) := by
  refine returnsInHanded_of_change_sized (C := Try.checked) Try.own started (by kernel_rfl) Try.func11
    (ChangeSpec.witness6 (enc := enc) (C := Try.checked) false ⟨#[], #[.string ⟨#[]⟩, .agg #[.int .u32 0, .slice none 0 0, .slice none 0 0, .int .u32 0], .agg #[.string ⟨#[]⟩, .int .i64 0, .int .i64 0, .int .u32 0]], []⟩ 8 (by kernel_rfl) (by kernel_rfl) (by kernel_rfl) (by kernel_rfl)) ?_
  intro W base args ds gs before hval hW _ hsz _
  exact law_row (tb := 4) (J := fun k x => bedrocklaw10_TxOpens k x.1 x.2.1 x.2.2.1) Try.laidOut Try.func11 (c := Func.code Try.f11) (by kernel_rfl) (ts := bedrocklaw10_TxOpens.tin) (by kernel_rfl) bedrocklaw10_TxOpens.sem_ok rfl (fun ds h => by obtain ⟨a, b, c, rfl⟩ := len3 h; exact ⟨rfl, rfl, rfl⟩) (by kernel_rfl) (by kernel_rfl)
    (fun x hd h => by
      have hl := sndLens_ok (ts := [(.pair .str (.pair (.int .i64) (.pair (.int .i64) (.pair (.int .u32) .unit))))]) (by kernel_rfl) hd hsz
      have hN : reachBytes = 140737488351232 := rfl
      rw [hN] at hl
      obtain ⟨key, t, ⟨lock, n, hh, tm, u⟩, u'⟩ := x
      exact ⟨_, txOpens_true h.1 (txOK_of (by decide) h.2.1) (by have := hl.1; dsimp only at this; omega) (by have := hl.2; dsimp only at this; omega) (wf_i64 h.2.2.1.2.2.1) (u32_wf h.2.2.1.2.2.2.1)⟩) hval hW hsz

theorem txOpens_holds : Rows.TxOpensSaid :=
  OpenClaim.holds_of_wide 11 Try.f11 rfl rfl rfl rfl rfl rfl rfl ⟨rfl, rfl, rfl, rfl, rfl⟩ rfl rfl rfl rfl rfl (by kernel_rfl) Try.func11 (by kernel_rfl)
    (of_decide_eq_true (by kernel_rfl)) (by unfold Func.isWrapper; first | (rw [if_pos (by decide +kernel)]; kernel_rfl) | (rw [if_neg (by decide +kernel)]; exact ⟨rfl, rfl⟩))
    (fun os started H enc _ => txOpens_lifted os started H enc)
end Go.Proofs.Ytpcjmcpghhmidaa
