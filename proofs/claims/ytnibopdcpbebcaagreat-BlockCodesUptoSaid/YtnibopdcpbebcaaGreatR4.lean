/- PROVED: for every input of its row the law returns true, and its arguments read as before (no further condition). -/
import Derived.Test.YtnibopdcpbebcaaGreatAm18
import Derived.Test.YtnibopdcpbebcaaGreatAm7
set_option linter.unusedVariables false
set_option linter.unusedSimpArgs false
set_option linter.unnecessarySimpa false
set_option linter.unusedSectionVars false
namespace Go.Proofs.YtnibopdcpbebcaaGreat
open Go.RowKit Go.Am
theorem Qbf {H : Type} : Bulk (H := H) Rows.uptoBulk Rows.uptoBulkAll where
 pos d := by cases d with
  | lit l => cases l <;> simp [Rows.uptoBulk]
  | _ => simp [Rows.uptoBulk]
 nil := rfl
 cons _ _ := rfl
 str _ := by simp [Rows.uptoBulk]
 sl _ _ := by simp [Rows.uptoBulk]
 agg _ := by simp [Rows.uptoBulk]
set_option maxRecDepth 100000 in
theorem blockCodes_lifted (os : Os) (started : os.Started) (H : Type) (enc : TypeId × Value → H) (F : Stop.Interp) :
  ReturnsInHanded {} Tryz.checked os 4 .any ((Rows.OpenSpec.upto Rows.blockCodesSpec).pre6 enc Tryz.prog Tryz.f4 Rows.blockCodesUptoRow.domain false) (((Rows.OpenSpec.upto Rows.blockCodesSpec).at F).post enc Tryz.prog Tryz.f4 false true false false) := by
 refine returnsInHanded_of_cond_sized (C := Tryz.checked) (s := Rows.OpenSpec.upto Rows.blockCodesSpec) (k := Rows.uptoSmall) rfl Tryz.own started (by kernel_rfl) Tryz.func4
  (OpenSpec.witness (enc := enc) (C := Tryz.checked) (s := Rows.OpenSpec.upto Rows.blockCodesSpec) (k := Rows.uptoSmall) rfl false ⟨#[], #[.agg ((#[.int .u32 0] ++ Array.replicate 64 (.int .u8 0)) ++ #[.int .u32 0, .int .u32 0, .int .u32 0, .slice none 0 0]), .string ⟨#[]⟩], []⟩ 8 (by kernel_rfl) (by kernel_rfl) (by kernel_rfl)
   (x := ([.agg [.agg [.lit (.int .u32 0), .agg (List.replicate 32 (.lit (.int .u8 0))), .agg (List.replicate 32 (.lit (.int .u8 0))), .lit (.int .u32 0), .lit (.int .u32 0), .lit (.int .u32 0)], .nil], .lit (.string [])], [], [])) (by kernel_rfl) rfl (by kernel_rfl)) ?_
 intro W base args ds gs before hval hW _ hk hsz _
 have hb : Rows.uptoBulkAll (ds ++ gs) ≤ 1048576 := of_decide_eq_true hk
 have hgs : gs = [] := by
  obtain ⟨p, q, hA, hV, _⟩ := hW
  exact (ChangeShapes.trodVars_none hV).1
 subst hgs
 rw [List.append_nil] at hb
 exact Qfh (s := (Rows.OpenSpec.upto Rows.blockCodesSpec).at F) (tb := 4) (J := fun k x => Q2 k x.1 x.2.1) Tryz.laidOut Tryz.func4 (c := Func.code Tryz.f4) (by kernel_rfl) (ts := Q2.tin) (by kernel_rfl) Q2.sem_ok rfl (fun ds h => by obtain ⟨a, b, rfl⟩ := len2 h; exact ⟨rfl, rfl, rfl⟩) (by kernel_rfl) (by kernel_rfl)
  (fun x hd h => by
   have hb2 := Nat.le_trans (QbY Qbf hd) hb
   have hb3 : bulk QeF x.1 + (bulk .str x.2.1 + 0) ≤ 1048576 := hb2
   exact ⟨_, Q8q rfl Qfa (Qee (by decide) h.1 (by omega)) h.2.1⟩) hval hW hsz
theorem blockCodes_holds : Rows.BlockCodesUptoSaid :=
 OpenClaim.holds_of_cond 4 Tryz.f4 rfl rfl rfl rfl rfl rfl rfl ⟨rfl, rfl, rfl, rfl, rfl⟩ rfl rfl rfl rfl rfl (by kernel_rfl) Tryz.func4 (by kernel_rfl)
  (of_decide_eq_true (by kernel_rfl)) (by unfold Func.isWrapper; first | (rw [if_pos (by decide +kernel)]; kernel_rfl) | (rw [if_neg (by decide +kernel)]; exact ⟨rfl, rfl⟩))
  (fun os started H enc _ F => blockCodes_lifted os started H enc F)
end Go.Proofs.YtnibopdcpbebcaaGreat
