/- PROVED: for every input of its row the law returns true, and its arguments read as before (no further condition). -/
import Derived.Test.YtkcoljbmhmbmbaaGreatAm14
import Derived.Test.YtkcoljbmhmbmbaaGreatAm10
set_option linter.unusedVariables false
set_option linter.unusedSimpArgs false
set_option linter.unnecessarySimpa false
set_option linter.unusedSectionVars false
namespace Go.Proofs.YtkcoljbmhmbmbaaGreat
open Go.RowKit Go.Am
set_option maxRecDepth 100000 in
theorem poolNil_lifted (os : Os) (started : os.Started) (H : Type) (enc : TypeId × Value → H) :
  ReturnsInHanded {} Tryz.checked os 3 .any (Rows.poolNilSpec.pre6 enc Tryz.prog Tryz.f3 Rows.poolNilRow.domain false) (Rows.poolNilSpec.post enc Tryz.prog Tryz.f3 false true false false) := by
 refine returnsInHanded_of_change_sized (C := Tryz.checked) Tryz.own started (by kernel_rfl) Tryz.func3
  (ChangeSpec.witness6 (enc := enc) (C := Tryz.checked) false ⟨#[], #[.agg #[.int .u32 0, .slice none 0 0, .slice none 0 0, .int .u32 0], .agg ((#[.int .u32 0] ++ Array.replicate 64 (.int .u8 0)) ++ #[.int .u32 0, .int .u32 0, .int .u32 0, .slice none 0 0]), .agg (Array.replicate 32 (.int .u8 0) ++ #[.int .u32 0])], []⟩ 8 (by kernel_rfl) (by kernel_rfl) (by kernel_rfl) (by kernel_rfl)) ?_
 intro W base args ds gs before hval hW _ hsz _
 exact Qd4 (tb := 4) (J := fun k x => Qq k x.1 x.2.1 x.2.2.1) Tryz.laidOut Tryz.func3 (c := Func.code Tryz.f3) (by kernel_rfl) (ts := Qq.tin) (by kernel_rfl) Qq.sem_ok rfl (fun ds h => by obtain ⟨a, b, c, rfl⟩ := len3 h; exact ⟨rfl, rfl, rfl⟩) (by kernel_rfl) (by kernel_rfl)
  (fun x hd h => ⟨_, Q92 _ _ _⟩) hval hW hsz
theorem poolNil_holds : Rows.PoolNilSaid :=
 OpenClaim.holds_of_wide 3 Tryz.f3 rfl rfl rfl rfl rfl rfl rfl ⟨rfl, rfl, rfl, rfl, rfl⟩ rfl rfl rfl rfl rfl (by kernel_rfl) Tryz.func3 (by kernel_rfl)
  (of_decide_eq_true (by kernel_rfl)) (by unfold Func.isWrapper; first | (rw [if_pos (by decide +kernel)]; kernel_rfl) | (rw [if_neg (by decide +kernel)]; exact ⟨rfl, rfl⟩))
  (fun os started H enc _ => poolNil_lifted os started H enc)
end Go.Proofs.YtkcoljbmhmbmbaaGreat
