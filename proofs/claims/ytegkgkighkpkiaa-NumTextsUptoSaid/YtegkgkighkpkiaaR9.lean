/- PROVED: for every input of its row the law returns true, and its arguments read as before (no further condition). -/
import Derived.Test.YtegkgkighkpkiaaAm9
import Derived.Test.YtegkgkighkpkiaaAm5
set_option linter.unusedVariables false
set_option linter.unusedSimpArgs false
set_option linter.unnecessarySimpa false
set_option linter.unusedSectionVars false
/- NumTexts: the row. -/
namespace Go.Proofs.Ytegkgkighkpkiaa
open Go.RowKit Go.Am

theorem wf_byte {n : Int} (h : (Lit.int .u8 n).wf = true) : 0 ≤ n ∧ n < 256 := by
  have := wf_u8 h
  omega

theorem uptoBulk_is {H : Type} : Bulk (H := H) Rows.uptoBulk Rows.uptoBulkAll where
  pos d := by cases d with
    | lit l => cases l <;> simp [Rows.uptoBulk]
    | _ => simp [Rows.uptoBulk]
  nil := rfl
  cons _ _ := rfl
  str _ := by simp [Rows.uptoBulk]
  sl _ _ := by simp [Rows.uptoBulk]
  agg _ := by simp [Rows.uptoBulk]

set_option maxRecDepth 100000 in
theorem numTexts_lifted (os : Os) (started : os.Started) (H : Type) (enc : TypeId × Value → H) (F : Stop.Interp) :
    ReturnsInHanded {} Try.checked os 9 .any ((Rows.OpenSpec.upto Rows.numTextsSpec).pre6 enc Try.prog Try.f9 Rows.numTextsUptoRow.domain false) (((Rows.OpenSpec.upto Rows.numTextsSpec).at F).post enc Try.prog Try.f9 false true false false) := by
  refine returnsInHanded_of_cond_sized (C := Try.checked) (s := Rows.OpenSpec.upto Rows.numTextsSpec) (k := Rows.uptoSmall) rfl Try.own started (by kernel_rfl) Try.func9
    (OpenSpec.witness (enc := enc) (C := Try.checked) (s := Rows.OpenSpec.upto Rows.numTextsSpec) (k := Rows.uptoSmall) rfl false ⟨#[], #[.string ⟨#[]⟩, .agg (Array.replicate 32 (.int .u8 0)), .agg (Array.replicate 32 (.int .u8 0))], []⟩ 8 (by kernel_rfl) (by kernel_rfl) (by kernel_rfl)
      (x := ([.lit (.string []), .agg (List.replicate 32 (.lit (.int .u8 0))), .agg (List.replicate 32 (.lit (.int .u8 0)))], [], [])) (by kernel_rfl) rfl (by kernel_rfl)) ?_
  intro W base args ds gs before hval hW _ hk hsz _
  have hb : Rows.uptoBulkAll (ds ++ gs) ≤ 1048576 := of_decide_eq_true hk
  have hgs : gs = [] := by
    obtain ⟨p, q, hA, hV, _⟩ := hW
    exact (ChangeShapes.trodVars_none hV).1
  subst hgs
  rw [List.append_nil] at hb
  exact law_row (s := (Rows.OpenSpec.upto Rows.numTextsSpec).at F) (tb := 4) (J := fun k x => bedrocklaw01_NumTexts k x.1 x.2.1 x.2.2.1) Try.laidOut Try.func9 (c := Func.code Try.f9) (by kernel_rfl) (ts := bedrocklaw01_NumTexts.tin) (by kernel_rfl) bedrocklaw01_NumTexts.sem_ok rfl (fun ds h => by obtain ⟨a, b, c, rfl⟩ := len3 h; exact ⟨rfl, rfl, rfl⟩) (by kernel_rfl) (by kernel_rfl)
    (fun x hd h => by
      have hb2 := Nat.le_trans (bulk_all uptoBulk_is hd) hb
      simp only [bedrocklaw01_NumTexts.tin, bulkAll, bulk] at hb2
      exact ⟨_, numTexts_true (by omega) h.2.1.1 h.2.2.1.1 (all_getD (p := fun x => 0 ≤ x ∧ x < 256) fun i hi => wf_byte (h.2.1.2 i (by have := h.2.1.1; omega))) (all_getD (p := fun x => 0 ≤ x ∧ x < 256) fun i hi => wf_byte (h.2.2.1.2 i (by have := h.2.2.1.1; omega)))⟩) hval hW hsz

theorem numTexts_holds : Rows.NumTextsUptoSaid :=
  OpenClaim.holds_of_cond 9 Try.f9 rfl rfl rfl rfl rfl rfl rfl ⟨rfl, rfl, rfl, rfl, rfl⟩ rfl rfl rfl rfl rfl (by kernel_rfl) Try.func9 (by kernel_rfl)
    (of_decide_eq_true (by kernel_rfl)) (by unfold Func.isWrapper; first | (rw [if_pos (by decide +kernel)]; kernel_rfl) | (rw [if_neg (by decide +kernel)]; exact ⟨rfl, rfl⟩))
    (fun os started H enc _ F => numTexts_lifted os started H enc F)
end Go.Proofs.Ytegkgkighkpkiaa
