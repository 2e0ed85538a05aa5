/- PROVED: for every input of its row the law returns true, and its arguments read as before (no further condition). -/
import Derived.Test.YtpcjmcpghhmidaaAm11
import Derived.Test.YtpcjmcpghhmidaaAm6
set_option linter.unusedVariables false
set_option linter.unusedSimpArgs false
set_option linter.unnecessarySimpa false
set_option linter.unusedSectionVars false
/- TxTells: the row. -/
namespace Go.Proofs.Ytpcjmcpghhmidaa
open Go.RowKit Go.Am

theorem ins_bulk : ∀ (l : List TIn), l.length ≤ (l.map (bulk inTy)).sum ∧ (l.map fun x => x.2.1.size).sum + l.length ≤ (l.map (bulk inTy)).sum
  | [] => ⟨Nat.le_refl _, Nat.le_refl _⟩
  | x :: l => by
    have ih := ins_bulk l
    have e : x.2.1.size + 1 ≤ bulk inTy x := by simp only [inTy, bulk]; omega
    simp only [List.map_cons, List.sum_cons, List.length_cons]
    omega
theorem outs_bulk : ∀ (l : List TOut), l.length ≤ (l.map (bulk outTy)).sum ∧ (l.map fun x => x.2.1.size).sum + l.length ≤ (l.map (bulk outTy)).sum
  | [] => ⟨Nat.le_refl _, Nat.le_refl _⟩
  | x :: l => by
    have ih := outs_bulk l
    have e : x.2.1.size + 1 ≤ bulk outTy x := by simp only [outTy, bulk]; omega
    simp only [List.map_cons, List.sum_cons, List.length_cons]
    omega
theorem flat_len {α : Type} (f : α → List Int) (g : α → Nat) (c : Nat) : ∀ (l : List α), (∀ x ∈ l, (f x).length ≤ g x + c) → ((l.map f).flatten).length ≤ (l.map g).sum + l.length * c
  | [], _ => Nat.zero_le _
  | x :: l, h => by
    have ih := flat_len f g c l fun y hy => h y (List.mem_cons_of_mem _ hy)
    have h0 := h x (List.mem_cons_self ..)
    simp only [List.map_cons, List.flatten_cons, List.length_append, List.sum_cons, List.length_cons, Nat.add_mul, Nat.one_mul]
    omega
theorem mem_getD' {α : Type} {l : List α} {x : α} (d : α) (h : x ∈ l) : ∃ i, i < l.length ∧ l.getD i d = x := by
  obtain ⟨i, hi, e⟩ := List.mem_iff_getElem.1 h
  exact ⟨i, hi, by rw [List.getD_eq_getElem?_getD, List.getElem?_eq_getElem hi, e]; rfl⟩
theorem tx_bulk {t : TTx} (ht : TxOK t) (hb : bulk txTy t ≤ 1048576) : (encL t).length ≤ 4611686018427387904 ∧ t.2.1.length ≤ 1048576 ∧ t.2.2.1.length ≤ 1048576 := by
  have b1 := ins_bulk t.2.1
  have b2 := outs_bulk t.2.2.1
  have hb' : 1 + (((t.2.1.map (bulk inTy)).sum + 1) + (((t.2.2.1.map (bulk outTy)).sum + 1) + (1 + 0))) ≤ 1048576 := hb
  have f1 := flat_len encIn (fun x => x.2.1.size) 49 t.2.1 fun x hx => by
    obtain ⟨i, hi, rfl⟩ := mem_getD' dIn hx
    have := encIn_length (ht.ins i hi)
    have := cLong_range ((t.2.1.getD i dIn).2.1.size : Int)
    omega
  have f2 := flat_len encOut (fun x => x.2.1.size) 17 t.2.2.1 fun x hx => by
    have := encOut_length x
    have := cLong_range (x.2.1.size : Int)
    omega
  have l := encL_length t
  rw [cat_all, cat_all] at l
  have c1 := cBytes_length (t.2.1.length : Int)
  have c2 := cBytes_length (t.2.2.1.length : Int)
  have c3 := cLong_range (t.2.1.length : Int)
  have c4 := cLong_range (t.2.2.1.length : Int)
  refine ⟨?_, ?_, ?_⟩ <;> omega

theorem uptoBulk_is {H : Type} : Bulk (H := H) Rows.uptoBulk Rows.uptoBulkAll where
  pos d := by cases d with
    | lit l => cases l <;> simp [Rows.uptoBulk]
    | _ => simp [Rows.uptoBulk]
  nil := rfl
  cons _ _ := rfl
  str _ := by simp [Rows.uptoBulk]
  sl _ _ := by simp [Rows.uptoBulk]
  agg _ := by simp [Rows.uptoBulk]

set_option maxRecDepth 100000 in
theorem txTells_lifted (os : Os) (started : os.Started) (H : Type) (enc : TypeId × Value → H) (F : Stop.Interp) :
    ReturnsInHanded {} Try.checked os 10 .any ((Rows.OpenSpec.upto Rows.txTellsSpec).pre6 enc Try.prog Try.f10 Rows.txTellsUptoRow.domain false) (((Rows.OpenSpec.upto Rows.txTellsSpec).at F).post enc Try.prog Try.f10 false true false false) := by
  refine returnsInHanded_of_cond_sized (C := Try.checked) (s := Rows.OpenSpec.upto Rows.txTellsSpec) (k := Rows.uptoSmall) rfl Try.own started (by kernel_rfl) Try.func10
    (OpenSpec.witness (enc := enc) (C := Try.checked) (s := Rows.OpenSpec.upto Rows.txTellsSpec) (k := Rows.uptoSmall) rfl false ⟨#[], #[.agg #[.int .u32 0, .slice none 0 0, .slice none 0 0, .int .u32 0]], []⟩ 8 (by kernel_rfl) (by kernel_rfl) (by kernel_rfl)
      (x := ([.agg [.lit (.int .u32 0), .nil, .nil, .lit (.int .u32 0)]], [], [])) (by kernel_rfl) rfl (by kernel_rfl)) ?_
  intro W base args ds gs before hval hW _ hk hsz _
  have hb : Rows.uptoBulkAll (ds ++ gs) ≤ 1048576 := of_decide_eq_true hk
  have hgs : gs = [] := by
    obtain ⟨p, q, hA, hV, _⟩ := hW
    exact (ChangeShapes.trodVars_none hV).1
  subst hgs
  rw [List.append_nil] at hb
  exact law_row (s := (Rows.OpenSpec.upto Rows.txTellsSpec).at F) (tb := 4) (J := fun k x => bedrocklaw10_TxTells k x.1) Try.laidOut Try.func10 (c := Func.code Try.f10) (by kernel_rfl) (ts := bedrocklaw10_TxTells.tin) (by kernel_rfl) bedrocklaw10_TxTells.sem_ok rfl (fun ds h => by obtain ⟨a, rfl⟩ := len1 h; exact ⟨rfl, rfl, rfl⟩) (by kernel_rfl) (by kernel_rfl)
    (fun x hd h => by
      have hb2 := Nat.le_trans (bulk_all uptoBulk_is hd) hb
      have hb3 : bulk txTy x.1 ≤ 1048576 := hb2
      have ht := txOK_of (by decide) h.1
      have := tx_bulk ht hb3
      exact ⟨_, txTells_true ht this.1 this.2.1 this.2.2⟩) hval hW hsz

theorem txTells_holds : Rows.TxTellsUptoSaid :=
  OpenClaim.holds_of_cond 10 Try.f10 rfl rfl rfl rfl rfl rfl rfl ⟨rfl, rfl, rfl, rfl, rfl⟩ rfl rfl rfl rfl rfl (by kernel_rfl) Try.func10 (by kernel_rfl)
    (of_decide_eq_true (by kernel_rfl)) (by unfold Func.isWrapper; first | (rw [if_pos (by decide +kernel)]; kernel_rfl) | (rw [if_neg (by decide +kernel)]; exact ⟨rfl, rfl⟩))
    (fun os started H enc _ F => txTells_lifted os started H enc F)
end Go.Proofs.Ytpcjmcpghhmidaa
