/- PROVED: for every input of its row the law returns true, and its arguments read as before (no further condition). -/
import Derived.Test.YtpcjmcpghhmidaaAm12
import Derived.Test.YtpcjmcpghhmidaaAm6
set_option linter.unusedVariables false
set_option linter.unusedSimpArgs false
set_option linter.unnecessarySimpa false
set_option linter.unusedSectionVars false
/- TxPoints: the row. -/
namespace Go.Proofs.Ytpcjmcpghhmidaa
open Go.RowKit Go.Am

theorem sum_ge {α : Type} (f : α → Nat) (h : ∀ x, 1 ≤ f x) : ∀ l : List α, l.length ≤ (l.map f).sum
  | [] => Nat.le_refl _
  | x :: l => by
    have ih := sum_ge f h l
    have := h x
    simp only [List.map_cons, List.sum_cons, List.length_cons]
    omega
theorem tx_lens {t : TTx} {N : Nat} (h : bulk txTy t ≤ N) : t.2.1.length ≤ N ∧ t.2.2.1.length ≤ N := by
  have h' : 1 + (((t.2.1.map (bulk inTy)).sum + 1) + (((t.2.2.1.map (bulk outTy)).sum + 1) + (1 + 0))) ≤ N := h
  have b1 := sum_ge (bulk inTy) (fun x => by simp only [inTy, bulk]; omega) t.2.1
  have b2 := sum_ge (bulk outTy) (fun x => by simp only [outTy, bulk]; omega) t.2.2.1
  constructor <;> omega

theorem uptoBulk_is {H : Type} : Bulk (H := H) Rows.uptoBulk Rows.uptoBulkAll where
  pos d := by cases d with
    | lit l => cases l <;> simp [Rows.uptoBulk]
    | _ => simp [Rows.uptoBulk]
  nil := rfl
  cons _ _ := rfl
  str _ := by simp [Rows.uptoBulk]
  sl _ _ := by simp [Rows.uptoBulk]
  agg _ := by simp [Rows.uptoBulk]

set_option maxRecDepth 100000 in
theorem txPoints_lifted (os : Os) (started : os.Started) (H : Type) (enc : TypeId × Value → H) (F : Stop.Interp) :
    ReturnsInHanded {} Try.checked os 9 .any ((Rows.OpenSpec.upto Rows.txPointsSpec).pre6 enc Try.prog Try.f9 Rows.txPointsUptoRow.domain false) (((Rows.OpenSpec.upto Rows.txPointsSpec).at F).post enc Try.prog Try.f9 false true false false) := by
  refine returnsInHanded_of_cond_sized (C := Try.checked) (s := Rows.OpenSpec.upto Rows.txPointsSpec) (k := Rows.uptoSmall) rfl Try.own started (by kernel_rfl) Try.func9
    (OpenSpec.witness (enc := enc) (C := Try.checked) (s := Rows.OpenSpec.upto Rows.txPointsSpec) (k := Rows.uptoSmall) rfl false ⟨#[], #[.agg #[.int .u32 0, .slice none 0 0, .slice none 0 0, .int .u32 0], .agg #[.int .u32 0, .slice none 0 0, .slice none 0 0, .int .u32 0], .agg (Array.replicate 32 (.int .u8 0))], []⟩ 8 (by kernel_rfl) (by kernel_rfl) (by kernel_rfl)
      (x := ([.agg [.lit (.int .u32 0), .nil, .nil, .lit (.int .u32 0)], .agg [.lit (.int .u32 0), .nil, .nil, .lit (.int .u32 0)], .agg (List.replicate 32 (.lit (.int .u8 0)))], [], [])) (by kernel_rfl) rfl (by kernel_rfl)) ?_
  intro W base args ds gs before hval hW _ hk hsz _
  have hb : Rows.uptoBulkAll (ds ++ gs) ≤ 1048576 := of_decide_eq_true hk
  have hgs : gs = [] := by
    obtain ⟨p, q, hA, hV, _⟩ := hW
    exact (ChangeShapes.trodVars_none hV).1
  subst hgs
  rw [List.append_nil] at hb
  exact law_row (s := (Rows.OpenSpec.upto Rows.txPointsSpec).at F) (tb := 4) (J := fun k x => bedrocklaw10_TxPoints k x.1 x.2.1 x.2.2.1) Try.laidOut Try.func9 (c := Func.code Try.f9) (by kernel_rfl) (ts := bedrocklaw10_TxPoints.tin) (by kernel_rfl) bedrocklaw10_TxPoints.sem_ok rfl (fun ds h => by obtain ⟨a, b, c, rfl⟩ := len3 h; exact ⟨rfl, rfl, rfl⟩) (by kernel_rfl) (by kernel_rfl)
    (fun x hd h => by
      have hb2 := Nat.le_trans (bulk_all uptoBulk_is hd) hb
      have hb3 : bulk txTy x.1 + (bulk txTy x.2.1 + (bulk (.arr 32 (.int .u8)) x.2.2.1 + 0)) ≤ 1048576 := hb2
      have h1 := tx_lens (t := x.1) (Nat.le_trans (Nat.le_add_right _ _) hb3)
      have h2 := tx_lens (t := x.2.1) (N := 1048576) (by omega)
      exact ⟨_, txPoints_true h1.1 h1.2 h2.1 h2.2 _⟩) hval hW hsz

theorem txPoints_holds : Rows.TxPointsUptoSaid :=
  OpenClaim.holds_of_cond 9 Try.f9 rfl rfl rfl rfl rfl rfl rfl ⟨rfl, rfl, rfl, rfl, rfl⟩ rfl rfl rfl rfl rfl (by kernel_rfl) Try.func9 (by kernel_rfl)
    (of_decide_eq_true (by kernel_rfl)) (by unfold Func.isWrapper; first | (rw [if_pos (by decide +kernel)]; kernel_rfl) | (rw [if_neg (by decide +kernel)]; exact ⟨rfl, rfl⟩))
    (fun os started H enc _ F => txPoints_lifted os started H enc F)
end Go.Proofs.Ytpcjmcpghhmidaa
