/- PROVED: for every input of its row the law returns true, and its arguments read as before (no further condition). -/
import Derived.Test.YtifpmlmgindkaaaGreatAm13
import Derived.Test.YtifpmlmgindkaaaGreatAm9
set_option linter.unusedVariables false
set_option linter.unusedSimpArgs false
set_option linter.unnecessarySimpa false
set_option linter.unusedSectionVars false
namespace Go.Proofs.YtifpmlmgindkaaaGreat
open Go.RowKit Go.Am
set_option maxRecDepth 100000 in
theorem indexBytes_lifted (os : Os) (started : os.Started) (H : Type) (enc : TypeId × Value → H) :
  ReturnsInHanded {} Tryz.checked os 3 .any (Rows.indexBytesSpec.pre6 enc Tryz.prog Tryz.f3 Rows.indexBytesRow.domain false) (Rows.indexBytesSpec.post enc Tryz.prog Tryz.f3 false true false false) := by
 refine returnsInHanded_of_change_sized (C := Tryz.checked) Tryz.own started (by kernel_rfl) Tryz.func3
  (ChangeSpec.witness6 (enc := enc) (C := Tryz.checked) false ⟨#[], #[.agg ((#[.int .u32 0] ++ Array.replicate 64 (.int .u8 0)) ++ #[.int .u32 0, .int .u32 0, .int .u32 0, .int .i64 0, .int .i64 0, .int .i64 0, .int .i64 0, .int .i64 0]), .string ⟨#[]⟩], []⟩ 8 (by kernel_rfl) (by kernel_rfl) (by kernel_rfl) (by kernel_rfl)) ?_
 intro W base args ds gs before hval hW _ hsz _
 exact Qce (tb := 4) (J := fun k x => Q4 k x.1 x.2.1) Tryz.laidOut Tryz.func3 (c := Func.code Tryz.f3) (by kernel_rfl) (ts := Q4.tin) (by kernel_rfl) Q4.sem_ok rfl (fun ds h => by obtain ⟨a, b, rfl⟩ := len2 h; exact ⟨rfl, rfl, rfl⟩) (by kernel_rfl) (by kernel_rfl)
  (fun x hd h => by
   have hN : reachBytes = 140737488351232 := rfl
   rw [hN] at h
   obtain ⟨e, s, u⟩ := x
   have g := h.1.1
   exact ⟨_, Q6E (k := 140737488355328) (by decide) (e := e) ⟨Q8x (N := 140737488351232) g.1, Qaw g.2.1, Qaw g.2.2.1, Q8x (N := 140737488351232) g.2.2.2.1, Q8x (N := 140737488351232) g.2.2.2.2.1, Q8x (N := 140737488351232) g.2.2.2.2.2.1⟩ h.2.1⟩) hval hW hsz
theorem indexBytes_holds : Rows.IndexBytesSaid :=
 OpenClaim.holds_of_wide 3 Tryz.f3 rfl rfl rfl rfl rfl rfl rfl ⟨rfl, rfl, rfl, rfl, rfl⟩ rfl rfl rfl rfl rfl (by kernel_rfl) Tryz.func3 (by kernel_rfl)
  (of_decide_eq_true (by kernel_rfl)) (by unfold Func.isWrapper; first | (rw [if_pos (by decide +kernel)]; kernel_rfl) | (rw [if_neg (by decide +kernel)]; exact ⟨rfl, rfl⟩))
  (fun os started H enc _ => indexBytes_lifted os started H enc)
end Go.Proofs.YtifpmlmgindkaaaGreat
