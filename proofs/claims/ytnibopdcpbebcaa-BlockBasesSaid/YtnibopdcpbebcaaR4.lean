/- PROVED: for every input of its row the law returns true, and its arguments read as before (no further condition). -/
import Derived.Test.YtnibopdcpbebcaaAm13
import Derived.Test.YtnibopdcpbebcaaAm7
set_option linter.unusedVariables false
set_option linter.unusedSimpArgs false
set_option linter.unnecessarySimpa false
set_option linter.unusedSectionVars false
/- BlockBases: the row. -/
namespace Go.Proofs.Ytnibopdcpbebcaa
open Go.RowKit Go.Am

set_option maxRecDepth 100000 in
theorem blockBases_lifted (os : Os) (started : os.Started) (H : Type) (enc : TypeId × Value → H) :
    ReturnsInHanded {} Try.checked os 4 .any (Rows.blockBasesSpec.pre6 enc Try.prog Try.f4 Rows.blockBasesRow.domain false) (Rows.blockBasesSpec.post enc Try.prog Try.f4 false true false false) := by
  refine returnsInHanded_of_change_sized (C := Try.checked) Try.own started (by kernel_rfl) Try.func4
    (ChangeSpec.witness6 (enc := enc) (C := Try.checked) false ⟨#[], #[.agg #[.int .i64 0, .string ⟨#[]⟩, .slice none 0 0, .int .u32 0, .slice none 0 0, .slice none 0 0, .int .u32 0]], []⟩ 8 (by kernel_rfl) (by kernel_rfl) (by kernel_rfl) (by kernel_rfl)) ?_
  intro W base args ds gs before hval hW _ hsz _
  exact law_row (tb := 4) (J := fun k x => bedrocklaw11_BlockBases k x.1) Try.laidOut Try.func4 (c := Func.code Try.f4) (by kernel_rfl) (ts := bedrocklaw11_BlockBases.tin) (by kernel_rfl) bedrocklaw11_BlockBases.sem_ok rfl (fun ds h => by obtain ⟨a, rfl⟩ := len1 h; exact ⟨rfl, rfl, rfl⟩) (by kernel_rfl) (by kernel_rfl)
    (fun x hd h => by
      have hl := basLens_ok (ts := []) (by kernel_rfl) hd hsz
      have hN : reachBytes = 140737488351232 := rfl
      rw [hN] at hl
      obtain ⟨⟨hh, s, outs, t, u⟩, u'⟩ := x
      dsimp only at hl
      have hk : (t.2.1.getD 0 dIn).2.1.size ≤ 140737488351232 := by
        rcases Nat.lt_or_ge 0 t.2.1.length with g | g
        · exact ((h.1.2.2.2.1.2.1).2 0 g).2.1
        · rw [List.getD_eq_getElem?_getD, List.getElem?_eq_none (by omega)]; exact Nat.zero_le _
      exact ⟨_, blockBases_main rfl awake11 (wf_i64 h.1.1) h.1.2.1 (by omega) (by omega) (by omega) hk⟩) hval hW hsz

theorem blockBases_holds : Rows.BlockBasesSaid :=
  OpenClaim.holds_of_wide 4 Try.f4 rfl rfl rfl rfl rfl rfl rfl ⟨rfl, rfl, rfl, rfl, rfl⟩ rfl rfl rfl rfl rfl (by kernel_rfl) Try.func4 (by kernel_rfl)
    (of_decide_eq_true (by kernel_rfl)) (by unfold Func.isWrapper; first | (rw [if_pos (by decide +kernel)]; kernel_rfl) | (rw [if_neg (by decide +kernel)]; exact ⟨rfl, rfl⟩))
    (fun os started H enc _ => blockBases_lifted os started H enc)
end Go.Proofs.Ytnibopdcpbebcaa
