/- PROVED: for every input of its row the law returns true, and its arguments read as before (no further condition). -/
import Derived.Test.YtpcjmcpghhmidaaAm14
import Derived.Test.YtpcjmcpghhmidaaAm8
set_option linter.unusedVariables false
set_option linter.unusedSimpArgs false
set_option linter.unnecessarySimpa false
set_option linter.unusedSectionVars false
namespace Go.Proofs.Ytpcjmcpghhmidaa
open Go.RowKit Go.Am
def QeS (P : Program) : List TypeId → Bool
 | T0 :: _ => Qar P T0
 | _ => false
theorem Qcy {H : Type} {P : Program} {ps vs : List TypeId} (hp : QeS P ps = true) {N : Nat} {ts : List Ty} {x : dens (txTy :: ts)} {ds gs : List (DataW H)} (hd : RDa (txTy :: ts) x ds) (h : (DataW.weightsEach P (ps ++ vs) (ds ++ gs)).all (· ≤ N) = true) : x.1.2.1.length * 64 ≤ N ∧ x.1.2.2.1.length * 24 ≤ N := by
 obtain ⟨d0, r0, rfl, h0, _⟩ := hd
 match ps, hp with
 | T0 :: Ts, hp =>
  simp only [List.cons_append, DataW.weightsEach, List.all_append, Bool.and_eq_true, List.all_eq_true, decide_eq_true_eq] at h
  exact Q9q hp h0 h.1
set_option maxRecDepth 100000 in
theorem txChecks_lifted (os : Os) (started : os.Started) (H : Type) (enc : TypeId × Value → H) :
  ReturnsInHanded {} Try.checked os 8 .any (Rows.txChecksSpec.pre6 enc Try.prog Try.f8 Rows.txChecksRow.domain false) (Rows.txChecksSpec.post enc Try.prog Try.f8 false true false false) := by
 refine returnsInHanded_of_change_sized (C := Try.checked) Try.own started (by kernel_rfl) Try.func8
  (ChangeSpec.witness6 (enc := enc) (C := Try.checked) false ⟨#[], #[.agg #[.int .u32 0, .slice none 0 0, .slice none 0 0, .int .u32 0]], []⟩ 8 (by kernel_rfl) (by kernel_rfl) (by kernel_rfl) (by kernel_rfl)) ?_
 intro W base args ds gs before hval hW _ hsz _
 exact Qf8 (tb := 4) (J := fun k x => QM k x.1) Try.laidOut Try.func8 (c := Func.code Try.f8) (by kernel_rfl) (ts := QM.tin) (by kernel_rfl) QM.sem_ok rfl (fun ds h => by obtain ⟨a, rfl⟩ := len1 h; exact ⟨rfl, rfl, rfl⟩) (by kernel_rfl) (by kernel_rfl)
  (fun x hd h => by
   have hl := Qcy (ts := []) (by kernel_rfl) hd hsz
   have hN : reachBytes = 140737488351232 := rfl
   rw [hN] at hl
   exact ⟨_, Q9i (QeP (by decide) h.1) (by have := hl.1; omega) (by have := hl.2; omega)⟩) hval hW hsz
theorem txChecks_holds : Rows.TxChecksSaid :=
 OpenClaim.holds_of_wide 8 Try.f8 rfl rfl rfl rfl rfl rfl rfl ⟨rfl, rfl, rfl, rfl, rfl⟩ rfl rfl rfl rfl rfl (by kernel_rfl) Try.func8 (by kernel_rfl)
  (of_decide_eq_true (by kernel_rfl)) (by unfold Func.isWrapper; first | (rw [if_pos (by decide +kernel)]; kernel_rfl) | (rw [if_neg (by decide +kernel)]; exact ⟨rfl, rfl⟩))
  (fun os started H enc _ => txChecks_lifted os started H enc)
end Go.Proofs.Ytpcjmcpghhmidaa
