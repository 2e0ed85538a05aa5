/- PROVED: for every input of its row the law returns true, and its arguments read as before (no further condition). -/
import Derived.Test.YtegkgkighkpkiaaAm11
import Derived.Test.YtegkgkighkpkiaaAm6
set_option linter.unusedVariables false
set_option linter.unusedSimpArgs false
set_option linter.unnecessarySimpa false
set_option linter.unusedSectionVars false
/- NumWrites: the row. -/
namespace Go.Proofs.Ytegkgkighkpkiaa
open Go.RowKit Go.Am

theorem bulk_getD {α : Type} (f : α → Nat) (d : α) : ∀ (l : List α) (i : Nat), i < l.length → f (l.getD i d) ≤ (l.map f).sum
  | [], i, h => absurd h (Nat.not_lt_zero i)
  | x :: l, 0, _ => by simp
  | x :: l, i + 1, h => by
    have ih := bulk_getD f d l i (by simpa using h)
    simp only [List.getD_cons_succ, List.map_cons, List.sum_cons]
    omega
theorem sum_ge {α : Type} (f : α → Nat) (hf : ∀ x, 1 ≤ f x) : ∀ l : List α, l.length ≤ (l.map f).sum
  | [] => Nat.le_refl _
  | x :: l => by
    have ih := sum_ge f hf l
    have := hf x
    simp only [List.length_cons, List.map_cons, List.sum_cons]
    omega

theorem bulk_one (t : Ty) (d : t.den) (xs : List t.den) (i : Nat) (hi : i < xs.length) {n : Nat} (h : bulk (.sl t) xs ≤ n) : bulk t (xs.getD i d) ≤ n := by
  have := bulk_getD (bulk t) d xs i hi
  simp only [bulk] at h
  omega

theorem uptoBulk_is {H : Type} : Bulk (H := H) Rows.uptoBulk Rows.uptoBulkAll where
  pos d := by cases d with
    | lit l => cases l <;> simp [Rows.uptoBulk]
    | _ => simp [Rows.uptoBulk]
  nil := rfl
  cons _ _ := rfl
  str _ := by simp [Rows.uptoBulk]
  sl _ _ := by simp [Rows.uptoBulk]
  agg _ := by simp [Rows.uptoBulk]

set_option maxRecDepth 100000 in
theorem numWrites_lifted (os : Os) (started : os.Started) (H : Type) (enc : TypeId × Value → H) (F : Stop.Interp) :
    ReturnsInHanded {} Try.checked os 12 .any ((Rows.OpenSpec.upto Rows.numWritesSpec).pre6 enc Try.prog Try.f12 Rows.numWritesUptoRow.domain false) (((Rows.OpenSpec.upto Rows.numWritesSpec).at F).post enc Try.prog Try.f12 false true false false) := by
  refine returnsInHanded_of_cond_sized (C := Try.checked) (s := Rows.OpenSpec.upto Rows.numWritesSpec) (k := Rows.uptoSmall) rfl Try.own started (by kernel_rfl) Try.func12
    (OpenSpec.witness (enc := enc) (C := Try.checked) (s := Rows.OpenSpec.upto Rows.numWritesSpec) (k := Rows.uptoSmall) rfl false ⟨#[], #[.slice none 0 0], []⟩ 8 (by kernel_rfl) (by kernel_rfl) (by kernel_rfl)
      (x := ([.nil], [], [])) (by kernel_rfl) rfl (by kernel_rfl)) ?_
  intro W base args ds gs before hval hW _ hk hsz _
  have hb : Rows.uptoBulkAll (ds ++ gs) ≤ 1048576 := of_decide_eq_true hk
  have hgs : gs = [] := by
    obtain ⟨p, q, hA, hV, _⟩ := hW
    exact (ChangeShapes.trodVars_none hV).1
  subst hgs
  rw [List.append_nil] at hb
  exact law_row (s := (Rows.OpenSpec.upto Rows.numWritesSpec).at F) (tb := 4) (J := fun k x => bedrocklaw01_NumWrites k x.1) Try.laidOut Try.func12 (c := Func.code Try.f12) (by kernel_rfl) (ts := bedrocklaw01_NumWrites.tin) (by kernel_rfl) bedrocklaw01_NumWrites.sem_ok rfl (fun ds h => by obtain ⟨a, rfl⟩ := len1 h; exact ⟨rfl, rfl, rfl⟩) (by kernel_rfl) (by kernel_rfl)
    (fun x hd h => by
      have hb2 : bulk (.sl _) x.1 + 0 ≤ 1048576 := Nat.le_trans (bulk_all uptoBulk_is hd) hb
      refine ⟨_, numWrites_true ?_ ?_ ?_⟩
      · simp only [bulk] at hb2
        refine Nat.le_trans (sum_ge _ ?_ _) (Nat.le_trans (Nat.le_add_right _ _) hb2)
        intro x; omega
      · intro i hi
        have := bulk_one _ act0 _ i hi hb2
        simp only [bulk] at this
        omega
      · intro i hi
        exact wf_u64 (h.1.2 i hi).2.2.1) hval hW hsz

theorem numWrites_holds : Rows.NumWritesUptoSaid :=
  OpenClaim.holds_of_cond 12 Try.f12 rfl rfl rfl rfl rfl rfl rfl ⟨rfl, rfl, rfl, rfl, rfl⟩ rfl rfl rfl rfl rfl (by kernel_rfl) Try.func12 (by kernel_rfl)
    (of_decide_eq_true (by kernel_rfl)) (by unfold Func.isWrapper; first | (rw [if_pos (by decide +kernel)]; kernel_rfl) | (rw [if_neg (by decide +kernel)]; exact ⟨rfl, rfl⟩))
    (fun os started H enc _ F => numWrites_lifted os started H enc F)
end Go.Proofs.Ytegkgkighkpkiaa
