/- PROVED: for every input of its row the law returns true, and its arguments read as before (no further condition). -/
import Derived.Test.YtpcjmcpghhmidaaAm9
import Derived.Test.YtpcjmcpghhmidaaAm6
set_option linter.unusedVariables false
set_option linter.unusedSimpArgs false
set_option linter.unnecessarySimpa false
set_option linter.unusedSectionVars false
/- SipFeeds: the row. -/
namespace Go.Proofs.Ytpcjmcpghhmidaa
open Go.RowKit Go.Am

theorem strs_sum : ∀ l : List ByteArray, (l.map fun s => s.size + 1).sum = (l.map ByteArray.size).sum + l.length
  | [] => rfl
  | s :: l => by
    have ih := strs_sum l
    simp only [List.map_cons, List.sum_cons, List.length_cons, ih]
    omega

theorem uptoBulk_is {H : Type} : Bulk (H := H) Rows.uptoBulk Rows.uptoBulkAll where
  pos d := by cases d with
    | lit l => cases l <;> simp [Rows.uptoBulk]
    | _ => simp [Rows.uptoBulk]
  nil := rfl
  cons _ _ := rfl
  str _ := by simp [Rows.uptoBulk]
  sl _ _ := by simp [Rows.uptoBulk]
  agg _ := by simp [Rows.uptoBulk]

set_option maxRecDepth 100000 in
theorem sipFeeds_lifted (os : Os) (started : os.Started) (H : Type) (enc : TypeId × Value → H) (F : Stop.Interp) :
    ReturnsInHanded {} Try.checked os 5 .any ((Rows.OpenSpec.upto Rows.sipFeedsSpec).pre6 enc Try.prog Try.f5 Rows.sipFeedsUptoRow.domain false) (((Rows.OpenSpec.upto Rows.sipFeedsSpec).at F).post enc Try.prog Try.f5 false true false false) := by
  refine returnsInHanded_of_cond_sized (C := Try.checked) (s := Rows.OpenSpec.upto Rows.sipFeedsSpec) (k := Rows.uptoSmall) rfl Try.own started (by kernel_rfl) Try.func5
    (OpenSpec.witness (enc := enc) (C := Try.checked) (s := Rows.OpenSpec.upto Rows.sipFeedsSpec) (k := Rows.uptoSmall) rfl false ⟨#[], #[.agg #[.int .u64 0, .int .u64 0], .slice none 0 0], []⟩ 8 (by kernel_rfl) (by kernel_rfl) (by kernel_rfl)
      (x := ([.agg [.lit (.int .u64 0), .lit (.int .u64 0)], .nil], [], [])) (by kernel_rfl) rfl (by kernel_rfl)) ?_
  intro W base args ds gs before hval hW _ hk hsz _
  have hb : Rows.uptoBulkAll (ds ++ gs) ≤ 1048576 := of_decide_eq_true hk
  have hgs : gs = [] := by
    obtain ⟨p, q, hA, hV, _⟩ := hW
    exact (ChangeShapes.trodVars_none hV).1
  subst hgs
  rw [List.append_nil] at hb
  exact law_row (s := (Rows.OpenSpec.upto Rows.sipFeedsSpec).at F) (tb := 4) (J := fun k x => bedrocklaw03_SipFeeds k x.1 x.2.1) Try.laidOut Try.func5 (c := Func.code Try.f5) (by kernel_rfl) (ts := bedrocklaw03_SipFeeds.tin) (by kernel_rfl) bedrocklaw03_SipFeeds.sem_ok rfl (fun ds h => by obtain ⟨a, b, rfl⟩ := len2 h; exact ⟨rfl, rfl, rfl⟩) (by kernel_rfl) (by kernel_rfl)
    (fun x hd h => by
      have hb2 := Nat.le_trans (bulk_all uptoBulk_is hd) hb
      simp only [bedrocklaw03_SipFeeds.tin, bulkAll, bulk] at hb2
      rw [strs_sum] at hb2
      exact ⟨_, sipFeeds_true _ _ _ (by omega) (by omega)⟩) hval hW hsz

theorem sipFeeds_holds : Rows.SipFeedsUptoSaid :=
  OpenClaim.holds_of_cond 5 Try.f5 rfl rfl rfl rfl rfl rfl rfl ⟨rfl, rfl, rfl, rfl, rfl⟩ rfl rfl rfl rfl rfl (by kernel_rfl) Try.func5 (by kernel_rfl)
    (of_decide_eq_true (by kernel_rfl)) (by unfold Func.isWrapper; first | (rw [if_pos (by decide +kernel)]; kernel_rfl) | (rw [if_neg (by decide +kernel)]; exact ⟨rfl, rfl⟩))
    (fun os started H enc _ F => sipFeeds_lifted os started H enc F)
end Go.Proofs.Ytpcjmcpghhmidaa
