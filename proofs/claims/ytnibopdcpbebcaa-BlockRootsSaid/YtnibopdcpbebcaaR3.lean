/- PROVED: for every input of its row the law returns true, and its arguments read as before (no further condition). -/
import Derived.Test.YtnibopdcpbebcaaAm13
import Derived.Test.YtnibopdcpbebcaaAm7
set_option linter.unusedVariables false
set_option linter.unusedSimpArgs false
set_option linter.unnecessarySimpa false
set_option linter.unusedSectionVars false
/- BlockRoots: the row. -/
namespace Go.Proofs.Ytnibopdcpbebcaa
open Go.RowKit Go.Am

set_option maxRecDepth 100000 in
theorem blockRoots_lifted (os : Os) (started : os.Started) (H : Type) (enc : TypeId × Value → H) :
    ReturnsInHanded {} Try.checked os 3 .any (Rows.blockRootsSpec.pre6 enc Try.prog Try.f3 Rows.blockRootsRow.domain false) (Rows.blockRootsSpec.post enc Try.prog Try.f3 false true false false) := by
  refine returnsInHanded_of_change_sized (C := Try.checked) Try.own started (by kernel_rfl) Try.func3
    (ChangeSpec.witness6 (enc := enc) (C := Try.checked) false ⟨#[], #[.agg ((#[.int .u32 0] ++ Array.replicate 64 (.int .u8 0)) ++ #[.int .u32 0, .int .u32 0, .int .u32 0, .slice none 0 0]), .bool false], []⟩ 8 (by kernel_rfl) (by kernel_rfl) (by kernel_rfl) (by kernel_rfl)) ?_
  intro W base args ds gs before hval hW _ hsz _
  exact law_row (tb := 4) (J := fun k x => bedrocklaw11_BlockRoots k x.1 x.2.1) Try.laidOut Try.func3 (c := Func.code Try.f3) (by kernel_rfl) (ts := bedrocklaw11_BlockRoots.tin) (by kernel_rfl) bedrocklaw11_BlockRoots.sem_ok rfl (fun ds h => by obtain ⟨a, b, rfl⟩ := len2 h; exact ⟨rfl, rfl, rfl⟩) (by kernel_rfl) (by kernel_rfl)
    (fun x hd h => by
      have hl := blkLens_ok (ts := [.bool]) (by kernel_rfl) hd hsz
      have hN : reachBytes = 140737488351232 := rfl
      rw [hN] at hl
      exact ⟨_, blockRoots_main rfl awake11 (txsOK_of (by decide) h.1.2.1 hl.2) (by have := hl.1; omega) _⟩) hval hW hsz

theorem blockRoots_holds : Rows.BlockRootsSaid :=
  OpenClaim.holds_of_wide 3 Try.f3 rfl rfl rfl rfl rfl rfl rfl ⟨rfl, rfl, rfl, rfl, rfl⟩ rfl rfl rfl rfl rfl (by kernel_rfl) Try.func3 (by kernel_rfl)
    (of_decide_eq_true (by kernel_rfl)) (by unfold Func.isWrapper; first | (rw [if_pos (by decide +kernel)]; kernel_rfl) | (rw [if_neg (by decide +kernel)]; exact ⟨rfl, rfl⟩))
    (fun os started H enc _ => blockRoots_lifted os started H enc)
end Go.Proofs.Ytnibopdcpbebcaa
