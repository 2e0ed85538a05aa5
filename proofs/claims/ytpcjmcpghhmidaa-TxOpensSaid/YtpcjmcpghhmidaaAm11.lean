/- A part of a proof: a machine of abstract values that tells what functions of the program compute, and the plain facts on them. -/
import Derived.Test.YtpcjmcpghhmidaaAm9
import Derived.KernelRfl
import Derived.Test.YtpcjmcpghhmidaaAm8
import Derived.Test.YtpcjmcpghhmidaaAm10
import Derived.Test.YtpcjmcpghhmidaaAm6
set_option linter.unusedVariables false
set_option linter.unusedSimpArgs false
set_option linter.unnecessarySimpa false
set_option linter.unusedSectionVars false
namespace Go.Am
open Go Go.Proofs
set_option maxRecDepth 100000
/-! 83 slices.Equal[[]bedrock/api.In,bedrock/api.In] -/
abbrev slices_Equal__api_In_api_In.l0.σ : Type := (List (((List Int) × (Int × Unit)) × (ByteArray × (Int × Unit)))) × (List (((List Int) × (Int × Unit)) × (ByteArray × (Int × Unit)))) × Int × Int × Unit
abbrev slices_Equal__api_In_api_In.l0.τ : Type := (Bool × Unit) ⊕ (Unit)
def slices_Equal__api_In_api_In.l0.r (k : Nat) {ρ : Type} (x : slices_Equal__api_In_api_In.l0.σ) (kn : slices_Equal__api_In_api_In.l0.σ → Option ρ) (ke : slices_Equal__api_In_api_In.l0.τ → Option ρ) : Option ρ :=
  bif (decide (x.2.2.2.1 < x.2.2.1)) then (bif (decide (((0 : Int) ≤ x.2.2.2.1) ∧ (x.2.2.2.1 < (((List.length x.1) : Nat) : Int)))) then (bif (decide (((0 : Int) ≤ x.2.2.2.1) ∧ (x.2.2.2.1 < (((List.length x.2.1) : Nat) : Int)))) then (bif (!(((decide ((List.getD x.1 (Int.toNat x.2.2.2.1) (((List.replicate 32 (0 : Int)), ((0 : Int), ())), (ByteArray.empty, ((0 : Int), ())))).1.1 = (List.getD x.2.1 (Int.toNat x.2.2.2.1) (((List.replicate 32 (0 : Int)), ((0 : Int), ())), (ByteArray.empty, ((0 : Int), ())))).1.1)) && (((List.getD x.1 (Int.toNat x.2.2.2.1) (((List.replicate 32 (0 : Int)), ((0 : Int), ())), (ByteArray.empty, ((0 : Int), ())))).1.2.1 == (List.getD x.2.1 (Int.toNat x.2.2.2.1) (((List.replicate 32 (0 : Int)), ((0 : Int), ())), (ByteArray.empty, ((0 : Int), ())))).1.2.1) && true)) && ((strEq (List.getD x.1 (Int.toNat x.2.2.2.1) (((List.replicate 32 (0 : Int)), ((0 : Int), ())), (ByteArray.empty, ((0 : Int), ())))).2.1 (List.getD x.2.1 (Int.toNat x.2.2.2.1) (((List.replicate 32 (0 : Int)), ((0 : Int), ())), (ByteArray.empty, ((0 : Int), ())))).2.1) && (((List.getD x.1 (Int.toNat x.2.2.2.1) (((List.replicate 32 (0 : Int)), ((0 : Int), ())), (ByteArray.empty, ((0 : Int), ())))).2.2.1 == (List.getD x.2.1 (Int.toNat x.2.2.2.1) (((List.replicate 32 (0 : Int)), ((0 : Int), ())), (ByteArray.empty, ((0 : Int), ())))).2.2.1) && true)))) then (ke (.inl (false, ()))) else (let v3 : Int := (IntKind.wrap IntKind.i64 (x.2.2.2.1 + (1 : Int)))
  kn (x.1, (x.2.1, (x.2.2.1, (v3, ())))))) else (none)) else (none)) else (ke (.inr ()))
def slices_Equal__api_In_api_In.l0 (k : Nat) : Nat → slices_Equal__api_In_api_In.l0.σ → Option slices_Equal__api_In_api_In.l0.τ := loopJ (slices_Equal__api_In_api_In.l0.r k)
def slices_Equal__api_In_api_In.l0.T : StT := ⟨.dat (.sl (.pair (.pair (.arr 32 (.int .u8)) (.pair (.int .u32) .unit)) (.pair .str (.pair (.int .u32) .unit)))) :: .dat (.sl (.pair (.pair (.arr 32 (.int .u8)) (.pair (.int .u32) .unit)) (.pair .str (.pair (.int .u32) .unit)))) :: us 10 ++ .dat (.int .i64) :: .dat (.int .i64) :: us 12, []⟩
def slices_Equal__api_In_api_In.l0.os : List Out := [⟨.ret, [.mask [4], .auto 0], ⟨us 4 ++ .dat .bool :: us 21, []⟩⟩, ⟨(.exit 0), [.mask [], .auto 0], ⟨us 26, []⟩⟩]
def slices_Equal__api_In_api_In.c (k : Nat) {ρ : Type} (s1 : (List (((List Int) × (Int × Unit)) × (ByteArray × (Int × Unit))))) (s2 : (List (((List Int) × (Int × Unit)) × (ByteArray × (Int × Unit))))) (K : Bool × Unit → Option ρ) : Option ρ :=
  let v0 : Int := (((List.length s1) : Nat) : Int)
  let v1 : Int := (((List.length s2) : Nat) : Int)
  bif (v0 != v1) then (K (false, ())) else (let v2 : Int := (((List.length s1) : Nat) : Int)
  (slices_Equal__api_In_api_In.l0 k k (s1, (s2, (v2, ((0 : Int), ()))))).bind fun t4 => (match t4 with | .inl t5 => (K (t5.1, ())) | .inr (t6) => (K (true, ()))))
def slices_Equal__api_In_api_In (k : Nat) (s1 : (List (((List Int) × (Int × Unit)) × (ByteArray × (Int × Unit))))) (s2 : (List (((List Int) × (Int × Unit)) × (ByteArray × (Int × Unit))))) : Option (Bool × Unit) := slices_Equal__api_In_api_In.c k s1 s2 some
def slices_Equal__api_In_api_In.tin : List Ty := [(.sl (.pair (.pair (.arr 32 (.int .u8)) (.pair (.int .u32) .unit)) (.pair .str (.pair (.int .u32) .unit)))), (.sl (.pair (.pair (.arr 32 (.int .u8)) (.pair (.int .u32) .unit)) (.pair .str (.pair (.int .u32) .unit))))]
def slices_Equal__api_In_api_In.tout : List Ty := [.bool]
def slices_Equal__api_In_api_In.sem (k : Nat) : CallSem := callPure slices_Equal__api_In_api_In.tin slices_Equal__api_In_api_In.tout fun x => slices_Equal__api_In_api_In k x.1 x.2.1
noncomputable def slices_Equal__api_In_api_In.ctx (k : Nat) : Ctx := ⟨Try.prog, gam []⟩
theorem slices_Equal__api_In_api_In.gok (k : Nat) : ∀ f, SemOK Try.prog f ((slices_Equal__api_In_api_In.ctx k).Γ f) := gam_nil
theorem slices_Equal__api_In_api_In.l0.round (k : Nat) : RoundIs (slices_Equal__api_In_api_In.ctx k) (codeAt (Func.code Try.f83) [1, 1, 0, 1, 0, 0]) (.nil) slices_Equal__api_In_api_In.l0.T [.mask [0, 1, 12, 13], .auto 0] slices_Equal__api_In_api_In.l0.os (slices_Equal__api_In_api_In.l0.r k) := by
  intro ρ x kn ke; kernel_rfl
theorem slices_Equal__api_In_api_In.l0.ok (k : Nat) : StOK 0 Try.prog (.loop (codeAt (Func.code Try.f83) [1, 1, 0, 1, 0, 0])) (pieceSem slices_Equal__api_In_api_In.l0.T slices_Equal__api_In_api_In.l0.os (slices_Equal__api_In_api_In.l0 k k)) :=
  loop_ok (C := slices_Equal__api_In_api_In.ctx k) (slices_Equal__api_In_api_In.gok k) Try.mix AnnOK.nil (by kernel_rfl) (by kernel_rfl) (by kernel_rfl) (slices_Equal__api_In_api_In.l0.round k) k
def slices_Equal__api_In_api_In.ann (k : Nat) : Ann := .node [] none (.nil) (.node [] none (.nil) (.node [] none (.node [] none (.nil) (.node [] none (.node [] (some (pieceSem slices_Equal__api_In_api_In.l0.T slices_Equal__api_In_api_In.l0.os (slices_Equal__api_In_api_In.l0 k k))) .nil .nil) (.nil))) (.nil)))
theorem slices_Equal__api_In_api_In.body (k : Nat) : BodyIs (slices_Equal__api_In_api_In.ctx k) Try.f83 (Func.code Try.f83) (slices_Equal__api_In_api_In.ann k) slices_Equal__api_In_api_In.tin slices_Equal__api_In_api_In.tout (fun x K => slices_Equal__api_In_api_In.c k x.1 x.2.1 K) := by
  intro ρ x K; kernel_rfl
theorem slices_Equal__api_In_api_In.sem_ok (k : Nat) : SemOK Try.prog 83 (slices_Equal__api_In_api_In.sem k) :=
  callPure_ok (C := slices_Equal__api_In_api_In.ctx k) (slices_Equal__api_In_api_In.gok k) Try.mix (c := Func.code Try.f83) (ann := slices_Equal__api_In_api_In.ann k) (tin := slices_Equal__api_In_api_In.tin) (tout := slices_Equal__api_In_api_In.tout) (fun x K => slices_Equal__api_In_api_In.c k x.1 x.2.1 K) Try.func83 (by kernel_rfl) (by kernel_rfl) (AnnOK.seq AnnOK.nil (AnnOK.seq AnnOK.nil (AnnOK.seq (AnnOK.seq AnnOK.nil (AnnOK.block (AnnOK.loop (by kernel_rfl) (slices_Equal__api_In_api_In.l0.ok k)))) AnnOK.nil))) (slices_Equal__api_In_api_In.body k)

/-! 84 slices.Equal[[]bedrock/api.Out,bedrock/api.Out] -/
abbrev slices_Equal__api_Out_api_Out.l0.σ : Type := (List (Int × (ByteArray × Unit))) × (List (Int × (ByteArray × Unit))) × Int × Int × Unit
abbrev slices_Equal__api_Out_api_Out.l0.τ : Type := (Bool × Unit) ⊕ (Unit)
def slices_Equal__api_Out_api_Out.l0.r (k : Nat) {ρ : Type} (x : slices_Equal__api_Out_api_Out.l0.σ) (kn : slices_Equal__api_Out_api_Out.l0.σ → Option ρ) (ke : slices_Equal__api_Out_api_Out.l0.τ → Option ρ) : Option ρ :=
  bif (decide (x.2.2.2.1 < x.2.2.1)) then (bif (decide (((0 : Int) ≤ x.2.2.2.1) ∧ (x.2.2.2.1 < (((List.length x.1) : Nat) : Int)))) then (bif (decide (((0 : Int) ≤ x.2.2.2.1) ∧ (x.2.2.2.1 < (((List.length x.2.1) : Nat) : Int)))) then (bif (!(((List.getD x.1 (Int.toNat x.2.2.2.1) ((0 : Int), (ByteArray.empty, ()))).1 == (List.getD x.2.1 (Int.toNat x.2.2.2.1) ((0 : Int), (ByteArray.empty, ()))).1) && ((strEq (List.getD x.1 (Int.toNat x.2.2.2.1) ((0 : Int), (ByteArray.empty, ()))).2.1 (List.getD x.2.1 (Int.toNat x.2.2.2.1) ((0 : Int), (ByteArray.empty, ()))).2.1) && true))) then (ke (.inl (false, ()))) else (let v3 : Int := (IntKind.wrap IntKind.i64 (x.2.2.2.1 + (1 : Int)))
  kn (x.1, (x.2.1, (x.2.2.1, (v3, ())))))) else (none)) else (none)) else (ke (.inr ()))
def slices_Equal__api_Out_api_Out.l0 (k : Nat) : Nat → slices_Equal__api_Out_api_Out.l0.σ → Option slices_Equal__api_Out_api_Out.l0.τ := loopJ (slices_Equal__api_Out_api_Out.l0.r k)
def slices_Equal__api_Out_api_Out.l0.T : StT := ⟨.dat (.sl (.pair (.int .u64) (.pair .str .unit))) :: .dat (.sl (.pair (.int .u64) (.pair .str .unit))) :: us 10 ++ .dat (.int .i64) :: .dat (.int .i64) :: us 12, []⟩
def slices_Equal__api_Out_api_Out.l0.os : List Out := [⟨.ret, [.mask [4], .auto 0], ⟨us 4 ++ .dat .bool :: us 21, []⟩⟩, ⟨(.exit 0), [.mask [], .auto 0], ⟨us 26, []⟩⟩]
def slices_Equal__api_Out_api_Out.c (k : Nat) {ρ : Type} (s1 : (List (Int × (ByteArray × Unit)))) (s2 : (List (Int × (ByteArray × Unit)))) (K : Bool × Unit → Option ρ) : Option ρ :=
  let v0 : Int := (((List.length s1) : Nat) : Int)
  let v1 : Int := (((List.length s2) : Nat) : Int)
  bif (v0 != v1) then (K (false, ())) else (let v2 : Int := (((List.length s1) : Nat) : Int)
  (slices_Equal__api_Out_api_Out.l0 k k (s1, (s2, (v2, ((0 : Int), ()))))).bind fun t4 => (match t4 with | .inl t5 => (K (t5.1, ())) | .inr (t6) => (K (true, ()))))
def slices_Equal__api_Out_api_Out (k : Nat) (s1 : (List (Int × (ByteArray × Unit)))) (s2 : (List (Int × (ByteArray × Unit)))) : Option (Bool × Unit) := slices_Equal__api_Out_api_Out.c k s1 s2 some
def slices_Equal__api_Out_api_Out.tin : List Ty := [(.sl (.pair (.int .u64) (.pair .str .unit))), (.sl (.pair (.int .u64) (.pair .str .unit)))]
def slices_Equal__api_Out_api_Out.tout : List Ty := [.bool]
def slices_Equal__api_Out_api_Out.sem (k : Nat) : CallSem := callPure slices_Equal__api_Out_api_Out.tin slices_Equal__api_Out_api_Out.tout fun x => slices_Equal__api_Out_api_Out k x.1 x.2.1
noncomputable def slices_Equal__api_Out_api_Out.ctx (k : Nat) : Ctx := ⟨Try.prog, gam []⟩
theorem slices_Equal__api_Out_api_Out.gok (k : Nat) : ∀ f, SemOK Try.prog f ((slices_Equal__api_Out_api_Out.ctx k).Γ f) := gam_nil
theorem slices_Equal__api_Out_api_Out.l0.round (k : Nat) : RoundIs (slices_Equal__api_Out_api_Out.ctx k) (codeAt (Func.code Try.f84) [1, 1, 0, 1, 0, 0]) (.nil) slices_Equal__api_Out_api_Out.l0.T [.mask [0, 1, 12, 13], .auto 0] slices_Equal__api_Out_api_Out.l0.os (slices_Equal__api_Out_api_Out.l0.r k) := by
  intro ρ x kn ke; kernel_rfl
theorem slices_Equal__api_Out_api_Out.l0.ok (k : Nat) : StOK 0 Try.prog (.loop (codeAt (Func.code Try.f84) [1, 1, 0, 1, 0, 0])) (pieceSem slices_Equal__api_Out_api_Out.l0.T slices_Equal__api_Out_api_Out.l0.os (slices_Equal__api_Out_api_Out.l0 k k)) :=
  loop_ok (C := slices_Equal__api_Out_api_Out.ctx k) (slices_Equal__api_Out_api_Out.gok k) Try.mix AnnOK.nil (by kernel_rfl) (by kernel_rfl) (by kernel_rfl) (slices_Equal__api_Out_api_Out.l0.round k) k
def slices_Equal__api_Out_api_Out.ann (k : Nat) : Ann := .node [] none (.nil) (.node [] none (.nil) (.node [] none (.node [] none (.nil) (.node [] none (.node [] (some (pieceSem slices_Equal__api_Out_api_Out.l0.T slices_Equal__api_Out_api_Out.l0.os (slices_Equal__api_Out_api_Out.l0 k k))) .nil .nil) (.nil))) (.nil)))
theorem slices_Equal__api_Out_api_Out.body (k : Nat) : BodyIs (slices_Equal__api_Out_api_Out.ctx k) Try.f84 (Func.code Try.f84) (slices_Equal__api_Out_api_Out.ann k) slices_Equal__api_Out_api_Out.tin slices_Equal__api_Out_api_Out.tout (fun x K => slices_Equal__api_Out_api_Out.c k x.1 x.2.1 K) := by
  intro ρ x K; kernel_rfl
theorem slices_Equal__api_Out_api_Out.sem_ok (k : Nat) : SemOK Try.prog 84 (slices_Equal__api_Out_api_Out.sem k) :=
  callPure_ok (C := slices_Equal__api_Out_api_Out.ctx k) (slices_Equal__api_Out_api_Out.gok k) Try.mix (c := Func.code Try.f84) (ann := slices_Equal__api_Out_api_Out.ann k) (tin := slices_Equal__api_Out_api_Out.tin) (tout := slices_Equal__api_Out_api_Out.tout) (fun x K => slices_Equal__api_Out_api_Out.c k x.1 x.2.1 K) Try.func84 (by kernel_rfl) (by kernel_rfl) (AnnOK.seq AnnOK.nil (AnnOK.seq AnnOK.nil (AnnOK.seq (AnnOK.seq AnnOK.nil (AnnOK.block (AnnOK.loop (by kernel_rfl) (slices_Equal__api_Out_api_Out.l0.ok k)))) AnnOK.nil))) (slices_Equal__api_Out_api_Out.body k)

/-! 33 bedrock/tx.Same -/
def tx_Same.c (k : Nat) {ρ : Type} (a : (Int × ((List (((List Int) × (Int × Unit)) × (ByteArray × (Int × Unit)))) × ((List (Int × (ByteArray × Unit))) × (Int × Unit))))) (b : (Int × ((List (((List Int) × (Int × Unit)) × (ByteArray × (Int × Unit)))) × ((List (Int × (ByteArray × Unit))) × (Int × Unit))))) (K : Bool × Unit → Option ρ) : Option ρ :=
  let v0 : Int := a.1
  let v1 : Int := b.1
  bif (v0 == v1) then (let v2 : Int := a.2.2.2.1
  let v3 : Int := b.2.2.2.1
  bif (v2 == v3) then (let v4 : (List (((List Int) × (Int × Unit)) × (ByteArray × (Int × Unit)))) := a.2.1
  let v5 : (List (((List Int) × (Int × Unit)) × (ByteArray × (Int × Unit)))) := b.2.1
  (slices_Equal__api_In_api_In k v4 v5).bind fun t6 => bif t6.1 then (let v7 : (List (Int × (ByteArray × Unit))) := a.2.2.1
  let v8 : (List (Int × (ByteArray × Unit))) := b.2.2.1
  (slices_Equal__api_Out_api_Out k v7 v8).bind fun t9 => K (t9.1, ())) else (K (false, ()))) else (K (false, ()))) else (K (false, ()))
def tx_Same (k : Nat) (a : (Int × ((List (((List Int) × (Int × Unit)) × (ByteArray × (Int × Unit)))) × ((List (Int × (ByteArray × Unit))) × (Int × Unit))))) (b : (Int × ((List (((List Int) × (Int × Unit)) × (ByteArray × (Int × Unit)))) × ((List (Int × (ByteArray × Unit))) × (Int × Unit))))) : Option (Bool × Unit) := tx_Same.c k a b some
def tx_Same.tin : List Ty := [(.pair (.int .u32) (.pair (.sl (.pair (.pair (.arr 32 (.int .u8)) (.pair (.int .u32) .unit)) (.pair .str (.pair (.int .u32) .unit)))) (.pair (.sl (.pair (.int .u64) (.pair .str .unit))) (.pair (.int .u32) .unit)))), (.pair (.int .u32) (.pair (.sl (.pair (.pair (.arr 32 (.int .u8)) (.pair (.int .u32) .unit)) (.pair .str (.pair (.int .u32) .unit)))) (.pair (.sl (.pair (.int .u64) (.pair .str .unit))) (.pair (.int .u32) .unit))))]
def tx_Same.tout : List Ty := [.bool]
def tx_Same.sem (k : Nat) : CallSem := callPure tx_Same.tin tx_Same.tout fun x => tx_Same k x.1 x.2.1
noncomputable def tx_Same.ctx (k : Nat) : Ctx := ⟨Try.prog, gam [(83, (slices_Equal__api_In_api_In.sem k)), (84, (slices_Equal__api_Out_api_Out.sem k))]⟩
theorem tx_Same.gok (k : Nat) : ∀ f, SemOK Try.prog f ((tx_Same.ctx k).Γ f) := (gam_cons (slices_Equal__api_In_api_In.sem_ok k) (gam_cons (slices_Equal__api_Out_api_Out.sem_ok k) gam_nil))
def tx_Same.ann (k : Nat) : Ann := .nil
theorem tx_Same.body (k : Nat) : BodyIs (tx_Same.ctx k) Try.f33 (Func.code Try.f33) (tx_Same.ann k) tx_Same.tin tx_Same.tout (fun x K => tx_Same.c k x.1 x.2.1 K) := by
  intro ρ x K; kernel_rfl
theorem tx_Same.sem_ok (k : Nat) : SemOK Try.prog 33 (tx_Same.sem k) :=
  callPure_ok (C := tx_Same.ctx k) (tx_Same.gok k) Try.mix (c := Func.code Try.f33) (ann := tx_Same.ann k) (tin := tx_Same.tin) (tout := tx_Same.tout) (fun x K => tx_Same.c k x.1 x.2.1 K) Try.func33 (by kernel_rfl) (by kernel_rfl) AnnOK.nil (tx_Same.body k)

/-! 7 bedrock/bedrocklaw10.TxBack -/
abbrev bedrocklaw10_TxBack.p0.σ : Type := ByteArray × ByteArray × ByteArray × Int × (Int × ((List (((List Int) × (Int × Unit)) × (ByteArray × (Int × Unit)))) × ((List (Int × (ByteArray × Unit))) × (Int × Unit)))) × Unit
abbrev bedrocklaw10_TxBack.p0.τ : Type := (Bool × Unit) ⊕ (ByteArray × ByteArray × Int × (Int × ((List (((List Int) × (Int × Unit)) × (ByteArray × (Int × Unit)))) × ((List (Int × (ByteArray × Unit))) × (Int × Unit)))) × Unit)
def bedrocklaw10_TxBack.p0.r (k : Nat) {ρ : Type} (x : bedrocklaw10_TxBack.p0.σ) (K : bedrocklaw10_TxBack.p0.τ → Option ρ) : Option ρ :=
  bif (x.2.2.2.1 == (0 : Int)) then (bif (Nat.ble ((ByteArray.size x.1) + (ByteArray.size x.2.2.1)) 9223372036854775807) then (let v4 : ByteArray := (x.1 ++ x.2.2.1)
  bif (Nat.ble ((ByteArray.size v4) + (ByteArray.size x.2.1)) 9223372036854775807) then (let v5 : ByteArray := (v4 ++ x.2.1)
  let v6 : Int := (((ByteArray.size x.1) : Nat) : Int)
  (tx_Take k v5 v6).bind fun t7 => let v8 : Int := t7.2.1
  let v9 : Int := t7.2.2.1
  bif (v9 != (0 : Int)) then (K (.inl (false, ()))) else (let v10 : Int := (((ByteArray.size x.1) : Nat) : Int)
  let v11 : Int := (((ByteArray.size x.2.2.1) : Nat) : Int)
  let v12 : Int := (IntKind.wrap IntKind.i64 (v10 + v11))
  bif (v8 != v12) then (K (.inl (false, ()))) else ((tx_Same k (t7.1.1, (t7.1.2.1, (t7.1.2.2.1, (t7.1.2.2.2.1, ())))) (x.2.2.2.2.1.1, (x.2.2.2.2.1.2.1, (x.2.2.2.2.1.2.2.1, (x.2.2.2.2.1.2.2.2.1, ()))))).bind fun t13 => bif (!t13.1) then (K (.inl (false, ()))) else (K (.inr (x.2.1, (x.2.2.1, (x.2.2.2.1, ((x.2.2.2.2.1.1, (x.2.2.2.2.1.2.1, (x.2.2.2.2.1.2.2.1, (x.2.2.2.2.1.2.2.2.1, ())))), ()))))))))) else (none)) else (none)) else (K (.inr (x.2.1, (x.2.2.1, (x.2.2.2.1, ((x.2.2.2.2.1.1, (x.2.2.2.2.1.2.1, (x.2.2.2.2.1.2.2.1, (x.2.2.2.2.1.2.2.2.1, ())))), ()))))))
def bedrocklaw10_TxBack.p0 (k : Nat) (x : bedrocklaw10_TxBack.p0.σ) : Option bedrocklaw10_TxBack.p0.τ := bedrocklaw10_TxBack.p0.r k x some
def bedrocklaw10_TxBack.p0.T : StT := ⟨us 1 ++ .dat .str :: .dat .str :: .ptr 0 [] :: us 3 ++ .dat .str :: .dat (.int .i64) :: us 76, [.dat (.pair (.int .u32) (.pair (.sl (.pair (.pair (.arr 32 (.int .u8)) (.pair (.int .u32) .unit)) (.pair .str (.pair (.int .u32) .unit)))) (.pair (.sl (.pair (.int .u64) (.pair .str .unit))) (.pair (.int .u32) .unit))))]⟩
def bedrocklaw10_TxBack.p0.os : List Out := [⟨.ret, [.mask [6], .auto 0], ⟨us 6 ++ .dat .bool :: us 78, []⟩⟩, ⟨.normal, [.mask [2, 3, 7, 8], .auto 0], ⟨us 2 ++ .dat .str :: .ptr 0 [] :: us 3 ++ .dat .str :: .dat (.int .i64) :: us 76, [.dat (.pair (.int .u32) (.pair (.sl (.pair (.pair (.arr 32 (.int .u8)) (.pair (.int .u32) .unit)) (.pair .str (.pair (.int .u32) .unit)))) (.pair (.sl (.pair (.int .u64) (.pair .str .unit))) (.pair (.int .u32) .unit))))]⟩⟩]
def bedrocklaw10_TxBack.c (k : Nat) {ρ : Type} (t : (Int × ((List (((List Int) × (Int × Unit)) × (ByteArray × (Int × Unit)))) × ((List (Int × (ByteArray × Unit))) × (Int × Unit))))) (ahead : ByteArray) (s : ByteArray) (K : Bool × Unit → Option ρ) : Option ρ :=
  (bedrocklaw10_awake k ).bind fun t0 => bif (!t0.1) then (K (false, ())) else ((tx_Encode k (t.1, (t.2.1, (t.2.2.1, (t.2.2.2.1, ()))))).bind fun t1 => let v2 : ByteArray := t1.1
  let v3 : Int := t1.2.1
  (bedrocklaw10_TxBack.p0 k (ahead, (s, (v2, (v3, ((t.1, (t.2.1, (t.2.2.1, (t.2.2.2.1, ())))), ())))))).bind fun t14 => (match t14 with | .inl t15 => (K (t15.1, ())) | .inr (t16) => ((tx_Decode k t16.1).bind fun t17 => let v18 : Int := t17.2.1
  bif (v18 != (0 : Int)) then (K (true, ())) else ((tx_Encode k (t17.1.1, (t17.1.2.1, (t17.1.2.2.1, (t17.1.2.2.2.1, ()))))).bind fun t19 => let v20 : ByteArray := t19.1
  let v21 : Int := t19.2.1
  bif (v21 == (0 : Int)) then (bif (strEq v20 t16.1) then (bif (t16.2.2.1 != (0 : Int)) then (K (true, ())) else ((tx_Same k (t17.1.1, (t17.1.2.1, (t17.1.2.2.1, (t17.1.2.2.2.1, ())))) (t16.2.2.2.1.1, (t16.2.2.2.1.2.1, (t16.2.2.2.1.2.2.1, (t16.2.2.2.1.2.2.2.1, ()))))).bind fun t22 => K ((t22.1 == (strEq t16.2.1 t16.1)), ()))) else (K (false, ()))) else (K (false, ()))))))
def bedrocklaw10_TxBack (k : Nat) (t : (Int × ((List (((List Int) × (Int × Unit)) × (ByteArray × (Int × Unit)))) × ((List (Int × (ByteArray × Unit))) × (Int × Unit))))) (ahead : ByteArray) (s : ByteArray) : Option (Bool × Unit) := bedrocklaw10_TxBack.c k t ahead s some
def bedrocklaw10_TxBack.tin : List Ty := [(.pair (.int .u32) (.pair (.sl (.pair (.pair (.arr 32 (.int .u8)) (.pair (.int .u32) .unit)) (.pair .str (.pair (.int .u32) .unit)))) (.pair (.sl (.pair (.int .u64) (.pair .str .unit))) (.pair (.int .u32) .unit)))), .str, .str]
def bedrocklaw10_TxBack.tout : List Ty := [.bool]
def bedrocklaw10_TxBack.sem (k : Nat) : CallSem := callPure bedrocklaw10_TxBack.tin bedrocklaw10_TxBack.tout fun x => bedrocklaw10_TxBack k x.1 x.2.1 x.2.2.1
noncomputable def bedrocklaw10_TxBack.ctx (k : Nat) : Ctx := ⟨Try.prog, gam [(21, (bedrocklaw10_awake.sem k)), (32, (tx_Encode.sem k)), (19, (tx_Take.sem k)), (33, (tx_Same.sem k)), (24, (tx_Decode.sem k))]⟩
theorem bedrocklaw10_TxBack.gok (k : Nat) : ∀ f, SemOK Try.prog f ((bedrocklaw10_TxBack.ctx k).Γ f) := (gam_cons (bedrocklaw10_awake.sem_ok k) (gam_cons (tx_Encode.sem_ok k) (gam_cons (tx_Take.sem_ok k) (gam_cons (tx_Same.sem_ok k) (gam_cons (tx_Decode.sem_ok k) gam_nil)))))
theorem bedrocklaw10_TxBack.p0.is (k : Nat) : PieceIs (bedrocklaw10_TxBack.ctx k) (codeAt (Func.code Try.f7) [1, 1, 1, 0]) (.nil) bedrocklaw10_TxBack.p0.T bedrocklaw10_TxBack.p0.os (bedrocklaw10_TxBack.p0.r k) := by
  intro ρ x K; kernel_rfl
theorem bedrocklaw10_TxBack.p0.ok (k : Nat) : StOK 0 Try.prog (codeAt (Func.code Try.f7) [1, 1, 1, 0]) (pieceSem bedrocklaw10_TxBack.p0.T bedrocklaw10_TxBack.p0.os (bedrocklaw10_TxBack.p0 k)) :=
  piece_ok (C := bedrocklaw10_TxBack.ctx k) (T := bedrocklaw10_TxBack.p0.T) (os := bedrocklaw10_TxBack.p0.os) (bedrocklaw10_TxBack.gok k) Try.mix (fun x K => bedrocklaw10_TxBack.p0.r k x K) AnnOK.nil (by kernel_rfl) (by kernel_rfl) (bedrocklaw10_TxBack.p0.is k)
def bedrocklaw10_TxBack.ann (k : Nat) : Ann := .node [] none (.nil) (.node [] none (.nil) (.node [] none (.nil) (.node [] none (.node [.mask [1, 2, 3, 7, 8], .auto 0] (some (pieceSem bedrocklaw10_TxBack.p0.T bedrocklaw10_TxBack.p0.os (bedrocklaw10_TxBack.p0 k))) .nil .nil) (.nil))))
theorem bedrocklaw10_TxBack.body (k : Nat) : BodyIs (bedrocklaw10_TxBack.ctx k) Try.f7 (Func.code Try.f7) (bedrocklaw10_TxBack.ann k) bedrocklaw10_TxBack.tin bedrocklaw10_TxBack.tout (fun x K => bedrocklaw10_TxBack.c k x.1 x.2.1 x.2.2.1 K) := by
  intro ρ x K; kernel_rfl
theorem bedrocklaw10_TxBack.sem_ok (k : Nat) : SemOK Try.prog 7 (bedrocklaw10_TxBack.sem k) :=
  callPure_ok (C := bedrocklaw10_TxBack.ctx k) (bedrocklaw10_TxBack.gok k) Try.mix (c := Func.code Try.f7) (ann := bedrocklaw10_TxBack.ann k) (tin := bedrocklaw10_TxBack.tin) (tout := bedrocklaw10_TxBack.tout) (fun x K => bedrocklaw10_TxBack.c k x.1 x.2.1 x.2.2.1 K) Try.func7 (by kernel_rfl) (by kernel_rfl) (AnnOK.seq AnnOK.nil (AnnOK.seq AnnOK.nil (AnnOK.seq AnnOK.nil (AnnOK.seq (AnnOK.loop (by kernel_rfl) (bedrocklaw10_TxBack.p0.ok k)) AnnOK.nil)))) (bedrocklaw10_TxBack.body k)

end Go.Am
namespace Go.Am
open Go Go.Proofs
set_option maxRecDepth 100000
/-! 89 bedrock/sha.Twice -/
def sha_Twice.c (k : Nat) {ρ : Type} (s : ByteArray) (K : (List Int) × Unit → Option ρ) : Option ρ :=
  (sha_Sum k s).bind fun t0 => let v1 : ByteArray := (bytesOf (List.take 32 (List.drop 0 t0.1)))
  (sha_Sum k v1).bind fun t2 => K (t2.1, ())
def sha_Twice (k : Nat) (s : ByteArray) : Option ((List Int) × Unit) := sha_Twice.c k s some
def sha_Twice.tin : List Ty := [.str]
def sha_Twice.tout : List Ty := [(.arr 32 (.int .u8))]
def sha_Twice.sem (k : Nat) : CallSem := callPure sha_Twice.tin sha_Twice.tout fun x => sha_Twice k x.1
noncomputable def sha_Twice.ctx (k : Nat) : Ctx := ⟨Try.prog, gam [(96, (sha_Sum.sem k))]⟩
theorem sha_Twice.gok (k : Nat) : ∀ f, SemOK Try.prog f ((sha_Twice.ctx k).Γ f) := (gam_cons (sha_Sum.sem_ok k) gam_nil)
def sha_Twice.ann (k : Nat) : Ann := .nil
theorem sha_Twice.body (k : Nat) : BodyIs (sha_Twice.ctx k) Try.f89 (Func.code Try.f89) (sha_Twice.ann k) sha_Twice.tin sha_Twice.tout (fun x K => sha_Twice.c k x.1 K) := by
  intro ρ x K; kernel_rfl
theorem sha_Twice.sem_ok (k : Nat) : SemOK Try.prog 89 (sha_Twice.sem k) :=
  callPure_ok (C := sha_Twice.ctx k) (sha_Twice.gok k) Try.mix (c := Func.code Try.f89) (ann := sha_Twice.ann k) (tin := sha_Twice.tin) (tout := sha_Twice.tout) (fun x K => sha_Twice.c k x.1 K) Try.func89 (by kernel_rfl) (by kernel_rfl) AnnOK.nil (sha_Twice.body k)

/-! 44 bedrock/tx.ID -/
def tx_ID.c (k : Nat) {ρ : Type} (t : (Int × ((List (((List Int) × (Int × Unit)) × (ByteArray × (Int × Unit)))) × ((List (Int × (ByteArray × Unit))) × (Int × Unit))))) (K : (List Int) × Int × Unit → Option ρ) : Option ρ :=
  (tx_Encode k (t.1, (t.2.1, (t.2.2.1, (t.2.2.2.1, ()))))).bind fun t0 => let v1 : ByteArray := t0.1
  let v2 : Int := t0.2.1
  bif (v2 != (0 : Int)) then (let v3 : (List Int) := (List.replicate 32 (0 : Int))
  K (v3, (v2, ()))) else ((sha_Twice k v1).bind fun t4 => K (t4.1, ((0 : Int), ())))
def tx_ID (k : Nat) (t : (Int × ((List (((List Int) × (Int × Unit)) × (ByteArray × (Int × Unit)))) × ((List (Int × (ByteArray × Unit))) × (Int × Unit))))) : Option ((List Int) × Int × Unit) := tx_ID.c k t some
def tx_ID.tin : List Ty := [(.pair (.int .u32) (.pair (.sl (.pair (.pair (.arr 32 (.int .u8)) (.pair (.int .u32) .unit)) (.pair .str (.pair (.int .u32) .unit)))) (.pair (.sl (.pair (.int .u64) (.pair .str .unit))) (.pair (.int .u32) .unit))))]
def tx_ID.tout : List Ty := [(.arr 32 (.int .u8)), (.int .i64)]
def tx_ID.sem (k : Nat) : CallSem := callPure tx_ID.tin tx_ID.tout fun x => tx_ID k x.1
noncomputable def tx_ID.ctx (k : Nat) : Ctx := ⟨Try.prog, gam [(32, (tx_Encode.sem k)), (89, (sha_Twice.sem k))]⟩
theorem tx_ID.gok (k : Nat) : ∀ f, SemOK Try.prog f ((tx_ID.ctx k).Γ f) := (gam_cons (tx_Encode.sem_ok k) (gam_cons (sha_Twice.sem_ok k) gam_nil))
def tx_ID.ann (k : Nat) : Ann := .nil
theorem tx_ID.body (k : Nat) : BodyIs (tx_ID.ctx k) Try.f44 (Func.code Try.f44) (tx_ID.ann k) tx_ID.tin tx_ID.tout (fun x K => tx_ID.c k x.1 K) := by
  intro ρ x K; kernel_rfl
theorem tx_ID.sem_ok (k : Nat) : SemOK Try.prog 44 (tx_ID.sem k) :=
  callPure_ok (C := tx_ID.ctx k) (tx_ID.gok k) Try.mix (c := Func.code Try.f44) (ann := tx_ID.ann k) (tin := tx_ID.tin) (tout := tx_ID.tout) (fun x K => tx_ID.c k x.1 K) Try.func44 (by kernel_rfl) (by kernel_rfl) AnnOK.nil (tx_ID.body k)

/-! 46 bedrock/bedrockref10.Bytes -/
abbrev bedrockref10_Bytes.l0.σ : Type := ByteArray × (List ((List Int) × (Int × (ByteArray × (Int × Unit))))) × Int × Int × (Int × ((List ((List Int) × (Int × (ByteArray × (Int × Unit))))) × ((List (Int × (ByteArray × Unit))) × (Int × Unit)))) × Unit
abbrev bedrockref10_Bytes.l0.τ : Type := (ByteArray × (Int × ((List ((List Int) × (Int × (ByteArray × (Int × Unit))))) × ((List (Int × (ByteArray × Unit))) × (Int × Unit)))) × Unit)
def bedrockref10_Bytes.l0.r (k : Nat) {ρ : Type} (x : bedrockref10_Bytes.l0.σ) (kn : bedrockref10_Bytes.l0.σ → Option ρ) (ke : bedrockref10_Bytes.l0.τ → Option ρ) : Option ρ :=
  bif (decide (x.2.2.2.1 < x.2.2.1)) then (bif (decide (((0 : Int) ≤ x.2.2.2.1) ∧ (x.2.2.2.1 < (((List.length x.2.1) : Nat) : Int)))) then (let v8 : ByteArray := (bytesOf (List.take 32 (List.drop 0 (List.getD x.2.1 (Int.toNat x.2.2.2.1) ((List.replicate 32 (0 : Int)), ((0 : Int), (ByteArray.empty, ((0 : Int), ()))))).1)))
  let v9 : Int := (List.getD x.2.1 (Int.toNat x.2.2.2.1) ((List.replicate 32 (0 : Int)), ((0 : Int), (ByteArray.empty, ((0 : Int), ()))))).2.1
  (bedrockref10_lay k (IntKind.wrap IntKind.u64 v9) (4 : Int)).bind fun t10 => bif (Nat.ble ((ByteArray.size v8) + (ByteArray.size t10.1)) 9223372036854775807) then (let v11 : ByteArray := (v8 ++ t10.1)
  let v12 : ByteArray := (List.getD x.2.1 (Int.toNat x.2.2.2.1) ((List.replicate 32 (0 : Int)), ((0 : Int), (ByteArray.empty, ((0 : Int), ()))))).2.2.1
  (bedrockref10_Count k (IntKind.wrap IntKind.u64 (((ByteArray.size v12) : Nat) : Int))).bind fun t13 => bif (Nat.ble ((ByteArray.size v11) + (ByteArray.size t13.1)) 9223372036854775807) then (let v14 : ByteArray := (v11 ++ t13.1)
  let v15 : ByteArray := (List.getD x.2.1 (Int.toNat x.2.2.2.1) ((List.replicate 32 (0 : Int)), ((0 : Int), (ByteArray.empty, ((0 : Int), ()))))).2.2.1
  bif (Nat.ble ((ByteArray.size v14) + (ByteArray.size v15)) 9223372036854775807) then (let v16 : ByteArray := (v14 ++ v15)
  let v17 : Int := (List.getD x.2.1 (Int.toNat x.2.2.2.1) ((List.replicate 32 (0 : Int)), ((0 : Int), (ByteArray.empty, ((0 : Int), ()))))).2.2.2.1
  (bedrockref10_lay k (IntKind.wrap IntKind.u64 v17) (4 : Int)).bind fun t18 => bif (Nat.ble ((ByteArray.size v16) + (ByteArray.size t18.1)) 9223372036854775807) then (let v19 : ByteArray := (v16 ++ t18.1)
  bif (Nat.ble ((ByteArray.size x.1) + (ByteArray.size v19)) 9223372036854775807) then (let v20 : ByteArray := (x.1 ++ v19)
  let v21 : Int := (IntKind.wrap IntKind.i64 (x.2.2.2.1 + (1 : Int)))
  kn (v20, (x.2.1, (x.2.2.1, (v21, ((x.2.2.2.2.1.1, (x.2.2.2.2.1.2.1, (x.2.2.2.2.1.2.2.1, (x.2.2.2.2.1.2.2.2.1, ())))), ())))))) else (none)) else (none)) else (none)) else (none)) else (none)) else (none)) else (ke (x.1, ((x.2.2.2.2.1.1, (x.2.2.2.2.1.2.1, (x.2.2.2.2.1.2.2.1, (x.2.2.2.2.1.2.2.2.1, ())))), ())))
def bedrockref10_Bytes.l0 (k : Nat) : Nat → bedrockref10_Bytes.l0.σ → Option bedrockref10_Bytes.l0.τ := loopJ (bedrockref10_Bytes.l0.r k)
def bedrockref10_Bytes.l0.T : StT := ⟨us 1 ++ .ptr 0 [] :: us 1 ++ .dat .str :: us 15 ++ .dat (.sl (.pair (.arr 32 (.int .u8)) (.pair (.int .u32) (.pair .str (.pair (.int .u32) .unit))))) :: .dat (.int .i64) :: .dat (.int .i64) :: us 63, [.dat (.pair (.int .u32) (.pair (.sl (.pair (.arr 32 (.int .u8)) (.pair (.int .u32) (.pair .str (.pair (.int .u32) .unit))))) (.pair (.sl (.pair (.int .u64) (.pair .str .unit))) (.pair (.int .u32) .unit))))]⟩
def bedrockref10_Bytes.l0.os : List Out := [⟨(.exit 0), [.mask [1, 3], .auto 0], ⟨us 1 ++ .ptr 0 [] :: us 1 ++ .dat .str :: us 81, [.dat (.pair (.int .u32) (.pair (.sl (.pair (.arr 32 (.int .u8)) (.pair (.int .u32) (.pair .str (.pair (.int .u32) .unit))))) (.pair (.sl (.pair (.int .u64) (.pair .str .unit))) (.pair (.int .u32) .unit))))]⟩⟩]
abbrev bedrockref10_Bytes.l1.σ : Type := ByteArray × (List (Int × (ByteArray × Unit))) × Int × Int × (Int × ((List ((List Int) × (Int × (ByteArray × (Int × Unit))))) × ((List (Int × (ByteArray × Unit))) × (Int × Unit)))) × Unit
abbrev bedrockref10_Bytes.l1.τ : Type := (ByteArray × (Int × ((List ((List Int) × (Int × (ByteArray × (Int × Unit))))) × ((List (Int × (ByteArray × Unit))) × (Int × Unit)))) × Unit)
def bedrockref10_Bytes.l1.r (k : Nat) {ρ : Type} (x : bedrockref10_Bytes.l1.σ) (kn : bedrockref10_Bytes.l1.σ → Option ρ) (ke : bedrockref10_Bytes.l1.τ → Option ρ) : Option ρ :=
  bif (decide (x.2.2.2.1 < x.2.2.1)) then (bif (decide (((0 : Int) ≤ x.2.2.2.1) ∧ (x.2.2.2.1 < (((List.length x.2.1) : Nat) : Int)))) then (let v29 : Int := (List.getD x.2.1 (Int.toNat x.2.2.2.1) ((0 : Int), (ByteArray.empty, ()))).1
  (bedrockref10_lay k v29 (8 : Int)).bind fun t30 => let v31 : ByteArray := (List.getD x.2.1 (Int.toNat x.2.2.2.1) ((0 : Int), (ByteArray.empty, ()))).2.1
  (bedrockref10_Count k (IntKind.wrap IntKind.u64 (((ByteArray.size v31) : Nat) : Int))).bind fun t32 => bif (Nat.ble ((ByteArray.size t30.1) + (ByteArray.size t32.1)) 9223372036854775807) then (let v33 : ByteArray := (t30.1 ++ t32.1)
  let v34 : ByteArray := (List.getD x.2.1 (Int.toNat x.2.2.2.1) ((0 : Int), (ByteArray.empty, ()))).2.1
  bif (Nat.ble ((ByteArray.size v33) + (ByteArray.size v34)) 9223372036854775807) then (let v35 : ByteArray := (v33 ++ v34)
  bif (Nat.ble ((ByteArray.size x.1) + (ByteArray.size v35)) 9223372036854775807) then (let v36 : ByteArray := (x.1 ++ v35)
  let v37 : Int := (IntKind.wrap IntKind.i64 (x.2.2.2.1 + (1 : Int)))
  kn (v36, (x.2.1, (x.2.2.1, (v37, ((x.2.2.2.2.1.1, (x.2.2.2.2.1.2.1, (x.2.2.2.2.1.2.2.1, (x.2.2.2.2.1.2.2.2.1, ())))), ())))))) else (none)) else (none)) else (none)) else (none)) else (ke (x.1, ((x.2.2.2.2.1.1, (x.2.2.2.2.1.2.1, (x.2.2.2.2.1.2.2.1, (x.2.2.2.2.1.2.2.2.1, ())))), ())))
def bedrockref10_Bytes.l1 (k : Nat) : Nat → bedrockref10_Bytes.l1.σ → Option bedrockref10_Bytes.l1.τ := loopJ (bedrockref10_Bytes.l1.r k)
def bedrockref10_Bytes.l1.T : StT := ⟨us 1 ++ .ptr 0 [] :: us 1 ++ .dat .str :: us 54 ++ .dat (.sl (.pair (.int .u64) (.pair .str .unit))) :: .dat (.int .i64) :: .dat (.int .i64) :: us 24, [.dat (.pair (.int .u32) (.pair (.sl (.pair (.arr 32 (.int .u8)) (.pair (.int .u32) (.pair .str (.pair (.int .u32) .unit))))) (.pair (.sl (.pair (.int .u64) (.pair .str .unit))) (.pair (.int .u32) .unit))))]⟩
def bedrockref10_Bytes.l1.os : List Out := [⟨(.exit 2), [.mask [1, 3], .auto 0], ⟨us 1 ++ .ptr 0 [] :: us 1 ++ .dat .str :: us 81, [.dat (.pair (.int .u32) (.pair (.sl (.pair (.arr 32 (.int .u8)) (.pair (.int .u32) (.pair .str (.pair (.int .u32) .unit))))) (.pair (.sl (.pair (.int .u64) (.pair .str .unit))) (.pair (.int .u32) .unit))))]⟩⟩]
def bedrockref10_Bytes.c (k : Nat) {ρ : Type} (t : (Int × ((List ((List Int) × (Int × (ByteArray × (Int × Unit))))) × ((List (Int × (ByteArray × Unit))) × (Int × Unit))))) (K : ByteArray × Unit → Option ρ) : Option ρ :=
  let v0 : Int := t.1
  (bedrockref10_lay k (IntKind.wrap IntKind.u64 v0) (4 : Int)).bind fun t1 => let v2 : (List ((List Int) × (Int × (ByteArray × (Int × Unit))))) := t.2.1
  let v3 : Int := (((List.length v2) : Nat) : Int)
  (bedrockref10_Count k (IntKind.wrap IntKind.u64 v3)).bind fun t4 => bif (Nat.ble ((ByteArray.size t1.1) + (ByteArray.size t4.1)) 9223372036854775807) then (let v5 : ByteArray := (t1.1 ++ t4.1)
  let v6 : (List ((List Int) × (Int × (ByteArray × (Int × Unit))))) := t.2.1
  let v7 : Int := (((List.length v6) : Nat) : Int)
  (bedrockref10_Bytes.l0 k k (v5, (v6, (v7, ((0 : Int), ((t.1, (t.2.1, (t.2.2.1, (t.2.2.2.1, ())))), ())))))).bind fun t22 => let v23 : (List (Int × (ByteArray × Unit))) := t22.2.1.2.2.1
  let v24 : Int := (((List.length v23) : Nat) : Int)
  (bedrockref10_Count k (IntKind.wrap IntKind.u64 v24)).bind fun t25 => bif (Nat.ble ((ByteArray.size t22.1) + (ByteArray.size t25.1)) 9223372036854775807) then (let v26 : ByteArray := (t22.1 ++ t25.1)
  let v27 : (List (Int × (ByteArray × Unit))) := t22.2.1.2.2.1
  let v28 : Int := (((List.length v27) : Nat) : Int)
  (bedrockref10_Bytes.l1 k k (v26, (v27, (v28, ((0 : Int), ((t22.2.1.1, (t22.2.1.2.1, (t22.2.1.2.2.1, (t22.2.1.2.2.2.1, ())))), ())))))).bind fun t38 => let v39 : Int := t38.2.1.2.2.2.1
  (bedrockref10_lay k (IntKind.wrap IntKind.u64 v39) (4 : Int)).bind fun t40 => bif (Nat.ble ((ByteArray.size t38.1) + (ByteArray.size t40.1)) 9223372036854775807) then (let v41 : ByteArray := (t38.1 ++ t40.1)
  K (v41, ())) else (none)) else (none)) else (none)
def bedrockref10_Bytes (k : Nat) (t : (Int × ((List ((List Int) × (Int × (ByteArray × (Int × Unit))))) × ((List (Int × (ByteArray × Unit))) × (Int × Unit))))) : Option (ByteArray × Unit) := bedrockref10_Bytes.c k t some
def bedrockref10_Bytes.tin : List Ty := [(.pair (.int .u32) (.pair (.sl (.pair (.arr 32 (.int .u8)) (.pair (.int .u32) (.pair .str (.pair (.int .u32) .unit))))) (.pair (.sl (.pair (.int .u64) (.pair .str .unit))) (.pair (.int .u32) .unit))))]
def bedrockref10_Bytes.tout : List Ty := [.str]
def bedrockref10_Bytes.sem (k : Nat) : CallSem := callPure bedrockref10_Bytes.tin bedrockref10_Bytes.tout fun x => bedrockref10_Bytes k x.1
noncomputable def bedrockref10_Bytes.ctx (k : Nat) : Ctx := ⟨Try.prog, gam [(92, (bedrockref10_lay.sem k)), (93, (bedrockref10_Count.sem k))]⟩
theorem bedrockref10_Bytes.gok (k : Nat) : ∀ f, SemOK Try.prog f ((bedrockref10_Bytes.ctx k).Γ f) := (gam_cons (bedrockref10_lay.sem_ok k) (gam_cons (bedrockref10_Count.sem_ok k) gam_nil))
theorem bedrockref10_Bytes.l0.round (k : Nat) : RoundIs (bedrockref10_Bytes.ctx k) (codeAt (Func.code Try.f46) [1, 1, 0, 1, 0, 0]) (.nil) bedrockref10_Bytes.l0.T [.mask [1, 3, 19, 20, 21], .auto 0] bedrockref10_Bytes.l0.os (bedrockref10_Bytes.l0.r k) := by
  intro ρ x kn ke; kernel_rfl
theorem bedrockref10_Bytes.l0.ok (k : Nat) : StOK 0 Try.prog (.loop (codeAt (Func.code Try.f46) [1, 1, 0, 1, 0, 0])) (pieceSem bedrockref10_Bytes.l0.T bedrockref10_Bytes.l0.os (bedrockref10_Bytes.l0 k k)) :=
  loop_ok (C := bedrockref10_Bytes.ctx k) (bedrockref10_Bytes.gok k) Try.mix AnnOK.nil (by kernel_rfl) (by kernel_rfl) (by kernel_rfl) (bedrockref10_Bytes.l0.round k) k
theorem bedrockref10_Bytes.l1.round (k : Nat) : RoundIs (bedrockref10_Bytes.ctx k) (codeAt (Func.code Try.f46) [1, 1, 1, 1, 0, 1, 0, 0]) (.nil) bedrockref10_Bytes.l1.T [.mask [1, 3, 58, 59, 60], .auto 0] bedrockref10_Bytes.l1.os (bedrockref10_Bytes.l1.r k) := by
  intro ρ x kn ke; kernel_rfl
theorem bedrockref10_Bytes.l1.ok (k : Nat) : StOK 0 Try.prog (.loop (codeAt (Func.code Try.f46) [1, 1, 1, 1, 0, 1, 0, 0])) (pieceSem bedrockref10_Bytes.l1.T bedrockref10_Bytes.l1.os (bedrockref10_Bytes.l1 k k)) :=
  loop_ok (C := bedrockref10_Bytes.ctx k) (bedrockref10_Bytes.gok k) Try.mix AnnOK.nil (by kernel_rfl) (by kernel_rfl) (by kernel_rfl) (bedrockref10_Bytes.l1.round k) k
def bedrockref10_Bytes.ann (k : Nat) : Ann := .node [] none (.nil) (.node [] none (.nil) (.node [] none (.node [] none (.nil) (.node [] none (.node [.mask [1, 3, 19, 20, 21], .auto 0] (some (pieceSem bedrockref10_Bytes.l0.T bedrockref10_Bytes.l0.os (bedrockref10_Bytes.l0 k k))) .nil .nil) (.nil))) (.node [] none (.nil) (.node [] none (.node [] none (.nil) (.node [] none (.node [.mask [1, 3, 58, 59, 60], .auto 0] (some (pieceSem bedrockref10_Bytes.l1.T bedrockref10_Bytes.l1.os (bedrockref10_Bytes.l1 k k))) .nil .nil) (.nil))) (.nil)))))
theorem bedrockref10_Bytes.body (k : Nat) : BodyIs (bedrockref10_Bytes.ctx k) Try.f46 (Func.code Try.f46) (bedrockref10_Bytes.ann k) bedrockref10_Bytes.tin bedrockref10_Bytes.tout (fun x K => bedrockref10_Bytes.c k x.1 K) := by
  intro ρ x K; kernel_rfl
theorem bedrockref10_Bytes.sem_ok (k : Nat) : SemOK Try.prog 46 (bedrockref10_Bytes.sem k) :=
  callPure_ok (C := bedrockref10_Bytes.ctx k) (bedrockref10_Bytes.gok k) Try.mix (c := Func.code Try.f46) (ann := bedrockref10_Bytes.ann k) (tin := bedrockref10_Bytes.tin) (tout := bedrockref10_Bytes.tout) (fun x K => bedrockref10_Bytes.c k x.1 K) Try.func46 (by kernel_rfl) (by kernel_rfl) (AnnOK.seq AnnOK.nil (AnnOK.seq AnnOK.nil (AnnOK.seq (AnnOK.seq AnnOK.nil (AnnOK.block (AnnOK.loop (by kernel_rfl) (bedrockref10_Bytes.l0.ok k)))) (AnnOK.seq AnnOK.nil (AnnOK.seq (AnnOK.seq AnnOK.nil (AnnOK.block (AnnOK.loop (by kernel_rfl) (bedrockref10_Bytes.l1.ok k)))) AnnOK.nil))))) (bedrockref10_Bytes.body k)

/-! 47 bedrock/bedrockref10.Told -/
abbrev bedrockref10_Told.l0.σ : Type := (List ((List Int) × (Int × (ByteArray × (Int × Unit))))) × Int × Int × (Int × ((List ((List Int) × (Int × (ByteArray × (Int × Unit))))) × ((List (Int × (ByteArray × Unit))) × (Int × Unit)))) × Unit
abbrev bedrockref10_Told.l0.τ : Type := (Int × Unit) ⊕ ((Int × ((List ((List Int) × (Int × (ByteArray × (Int × Unit))))) × ((List (Int × (ByteArray × Unit))) × (Int × Unit)))) × Unit)
def bedrockref10_Told.l0.r (k : Nat) {ρ : Type} (x : bedrockref10_Told.l0.σ) (kn : bedrockref10_Told.l0.σ → Option ρ) (ke : bedrockref10_Told.l0.τ → Option ρ) : Option ρ :=
  bif (decide (x.2.2.1 < x.2.1)) then (bif (decide (((0 : Int) ≤ x.2.2.1) ∧ (x.2.2.1 < (((List.length x.1) : Nat) : Int)))) then (let v2 : ByteArray := (List.getD x.1 (Int.toNat x.2.2.1) ((List.replicate 32 (0 : Int)), ((0 : Int), (ByteArray.empty, ((0 : Int), ()))))).2.2.1
  bif (decide ((((ByteArray.size v2) : Nat) : Int) > (520 : Int))) then (ke (.inl ((100 : Int), ()))) else (let v3 : Int := (IntKind.wrap IntKind.i64 (x.2.2.1 + (1 : Int)))
  kn (x.1, (x.2.1, (v3, ((x.2.2.2.1.1, (x.2.2.2.1.2.1, (x.2.2.2.1.2.2.1, (x.2.2.2.1.2.2.2.1, ())))), ())))))) else (none)) else (ke (.inr ((x.2.2.2.1.1, (x.2.2.2.1.2.1, (x.2.2.2.1.2.2.1, (x.2.2.2.1.2.2.2.1, ())))), ())))
def bedrockref10_Told.l0 (k : Nat) : Nat → bedrockref10_Told.l0.σ → Option bedrockref10_Told.l0.τ := loopJ (bedrockref10_Told.l0.r k)
def bedrockref10_Told.l0.T : StT := ⟨us 1 ++ .ptr 0 [] :: us 6 ++ .dat (.sl (.pair (.arr 32 (.int .u8)) (.pair (.int .u32) (.pair .str (.pair (.int .u32) .unit))))) :: .dat (.int .i64) :: .dat (.int .i64) :: us 24, [.dat (.pair (.int .u32) (.pair (.sl (.pair (.arr 32 (.int .u8)) (.pair (.int .u32) (.pair .str (.pair (.int .u32) .unit))))) (.pair (.sl (.pair (.int .u64) (.pair .str .unit))) (.pair (.int .u32) .unit))))]⟩
def bedrockref10_Told.l0.os : List Out := [⟨.ret, [.mask [2], .auto 0], ⟨us 2 ++ .dat (.int .i64) :: us 32, []⟩⟩, ⟨(.exit 0), [.mask [1], .auto 0], ⟨us 1 ++ .ptr 0 [] :: us 33, [.dat (.pair (.int .u32) (.pair (.sl (.pair (.arr 32 (.int .u8)) (.pair (.int .u32) (.pair .str (.pair (.int .u32) .unit))))) (.pair (.sl (.pair (.int .u64) (.pair .str .unit))) (.pair (.int .u32) .unit))))]⟩⟩]
abbrev bedrockref10_Told.l1.σ : Type := (List (Int × (ByteArray × Unit))) × Int × Int × (Int × ((List ((List Int) × (Int × (ByteArray × (Int × Unit))))) × ((List (Int × (ByteArray × Unit))) × (Int × Unit)))) × Unit
abbrev bedrockref10_Told.l1.τ : Type := (Int × Unit) ⊕ ((Int × ((List ((List Int) × (Int × (ByteArray × (Int × Unit))))) × ((List (Int × (ByteArray × Unit))) × (Int × Unit)))) × Unit)
def bedrockref10_Told.l1.r (k : Nat) {ρ : Type} (x : bedrockref10_Told.l1.σ) (kn : bedrockref10_Told.l1.σ → Option ρ) (ke : bedrockref10_Told.l1.τ → Option ρ) : Option ρ :=
  bif (decide (x.2.2.1 < x.2.1)) then (bif (decide (((0 : Int) ≤ x.2.2.1) ∧ (x.2.2.1 < (((List.length x.1) : Nat) : Int)))) then (let v9 : ByteArray := (List.getD x.1 (Int.toNat x.2.2.1) ((0 : Int), (ByteArray.empty, ()))).2.1
  bif (decide ((((ByteArray.size v9) : Nat) : Int) > (520 : Int))) then (ke (.inl ((100 : Int), ()))) else (let v10 : Int := (IntKind.wrap IntKind.i64 (x.2.2.1 + (1 : Int)))
  kn (x.1, (x.2.1, (v10, ((x.2.2.2.1.1, (x.2.2.2.1.2.1, (x.2.2.2.1.2.2.1, (x.2.2.2.1.2.2.2.1, ())))), ())))))) else (none)) else (ke (.inr ((x.2.2.2.1.1, (x.2.2.2.1.2.1, (x.2.2.2.1.2.2.1, (x.2.2.2.1.2.2.2.1, ())))), ())))
def bedrockref10_Told.l1 (k : Nat) : Nat → bedrockref10_Told.l1.σ → Option bedrockref10_Told.l1.τ := loopJ (bedrockref10_Told.l1.r k)
def bedrockref10_Told.l1.T : StT := ⟨us 1 ++ .ptr 0 [] :: us 18 ++ .dat (.sl (.pair (.int .u64) (.pair .str .unit))) :: .dat (.int .i64) :: .dat (.int .i64) :: us 12, [.dat (.pair (.int .u32) (.pair (.sl (.pair (.arr 32 (.int .u8)) (.pair (.int .u32) (.pair .str (.pair (.int .u32) .unit))))) (.pair (.sl (.pair (.int .u64) (.pair .str .unit))) (.pair (.int .u32) .unit))))]⟩
def bedrockref10_Told.l1.os : List Out := [⟨.ret, [.mask [2], .auto 0], ⟨us 2 ++ .dat (.int .i64) :: us 32, []⟩⟩, ⟨(.exit 2), [.mask [1], .auto 0], ⟨us 1 ++ .ptr 0 [] :: us 33, [.dat (.pair (.int .u32) (.pair (.sl (.pair (.arr 32 (.int .u8)) (.pair (.int .u32) (.pair .str (.pair (.int .u32) .unit))))) (.pair (.sl (.pair (.int .u64) (.pair .str .unit))) (.pair (.int .u32) .unit))))]⟩⟩]
def bedrockref10_Told.c (k : Nat) {ρ : Type} (t : (Int × ((List ((List Int) × (Int × (ByteArray × (Int × Unit))))) × ((List (Int × (ByteArray × Unit))) × (Int × Unit))))) (K : Int × Unit → Option ρ) : Option ρ :=
  let v0 : (List ((List Int) × (Int × (ByteArray × (Int × Unit))))) := t.2.1
  let v1 : Int := (((List.length v0) : Nat) : Int)
  (bedrockref10_Told.l0 k k (v0, (v1, ((0 : Int), ((t.1, (t.2.1, (t.2.2.1, (t.2.2.2.1, ())))), ()))))).bind fun t4 => (match t4 with | .inl t5 => (K (t5.1, ())) | .inr (t6) => (let v7 : (List (Int × (ByteArray × Unit))) := t6.1.2.2.1
  let v8 : Int := (((List.length v7) : Nat) : Int)
  (bedrockref10_Told.l1 k k (v7, (v8, ((0 : Int), ((t6.1.1, (t6.1.2.1, (t6.1.2.2.1, (t6.1.2.2.2.1, ())))), ()))))).bind fun t11 => (match t11 with | .inl t12 => (K (t12.1, ())) | .inr (t13) => ((bedrockref10_Bytes k (t13.1.1, (t13.1.2.1, (t13.1.2.2.1, (t13.1.2.2.2.1, ()))))).bind fun t14 => let v15 : Int := (((ByteArray.size t14.1) : Nat) : Int)
  bif (decide (v15 > (4096 : Int))) then (K ((101 : Int), ())) else (K ((0 : Int), ()))))))
def bedrockref10_Told (k : Nat) (t : (Int × ((List ((List Int) × (Int × (ByteArray × (Int × Unit))))) × ((List (Int × (ByteArray × Unit))) × (Int × Unit))))) : Option (Int × Unit) := bedrockref10_Told.c k t some
def bedrockref10_Told.tin : List Ty := [(.pair (.int .u32) (.pair (.sl (.pair (.arr 32 (.int .u8)) (.pair (.int .u32) (.pair .str (.pair (.int .u32) .unit))))) (.pair (.sl (.pair (.int .u64) (.pair .str .unit))) (.pair (.int .u32) .unit))))]
def bedrockref10_Told.tout : List Ty := [(.int .i64)]
def bedrockref10_Told.sem (k : Nat) : CallSem := callPure bedrockref10_Told.tin bedrockref10_Told.tout fun x => bedrockref10_Told k x.1
noncomputable def bedrockref10_Told.ctx (k : Nat) : Ctx := ⟨Try.prog, gam [(46, (bedrockref10_Bytes.sem k))]⟩
theorem bedrockref10_Told.gok (k : Nat) : ∀ f, SemOK Try.prog f ((bedrockref10_Told.ctx k).Γ f) := (gam_cons (bedrockref10_Bytes.sem_ok k) gam_nil)
theorem bedrockref10_Told.l0.round (k : Nat) : RoundIs (bedrockref10_Told.ctx k) (codeAt (Func.code Try.f47) [1, 0, 1, 0, 0]) (.nil) bedrockref10_Told.l0.T [.mask [1, 8, 9, 10], .auto 0] bedrockref10_Told.l0.os (bedrockref10_Told.l0.r k) := by
  intro ρ x kn ke; kernel_rfl
theorem bedrockref10_Told.l0.ok (k : Nat) : StOK 0 Try.prog (.loop (codeAt (Func.code Try.f47) [1, 0, 1, 0, 0])) (pieceSem bedrockref10_Told.l0.T bedrockref10_Told.l0.os (bedrockref10_Told.l0 k k)) :=
  loop_ok (C := bedrockref10_Told.ctx k) (bedrockref10_Told.gok k) Try.mix AnnOK.nil (by kernel_rfl) (by kernel_rfl) (by kernel_rfl) (bedrockref10_Told.l0.round k) k
theorem bedrockref10_Told.l1.round (k : Nat) : RoundIs (bedrockref10_Told.ctx k) (codeAt (Func.code Try.f47) [1, 1, 0, 1, 0, 0]) (.nil) bedrockref10_Told.l1.T [.mask [1, 20, 21, 22], .auto 0] bedrockref10_Told.l1.os (bedrockref10_Told.l1.r k) := by
  intro ρ x kn ke; kernel_rfl
theorem bedrockref10_Told.l1.ok (k : Nat) : StOK 0 Try.prog (.loop (codeAt (Func.code Try.f47) [1, 1, 0, 1, 0, 0])) (pieceSem bedrockref10_Told.l1.T bedrockref10_Told.l1.os (bedrockref10_Told.l1 k k)) :=
  loop_ok (C := bedrockref10_Told.ctx k) (bedrockref10_Told.gok k) Try.mix AnnOK.nil (by kernel_rfl) (by kernel_rfl) (by kernel_rfl) (bedrockref10_Told.l1.round k) k
def bedrockref10_Told.ann (k : Nat) : Ann := .node [] none (.nil) (.node [] none (.node [] none (.nil) (.node [] none (.node [.mask [1, 8, 9, 10], .auto 0] (some (pieceSem bedrockref10_Told.l0.T bedrockref10_Told.l0.os (bedrockref10_Told.l0 k k))) .nil .nil) (.nil))) (.node [] none (.node [] none (.nil) (.node [] none (.node [.mask [1, 20, 21, 22], .auto 0] (some (pieceSem bedrockref10_Told.l1.T bedrockref10_Told.l1.os (bedrockref10_Told.l1 k k))) .nil .nil) (.nil))) (.nil)))
theorem bedrockref10_Told.body (k : Nat) : BodyIs (bedrockref10_Told.ctx k) Try.f47 (Func.code Try.f47) (bedrockref10_Told.ann k) bedrockref10_Told.tin bedrockref10_Told.tout (fun x K => bedrockref10_Told.c k x.1 K) := by
  intro ρ x K; kernel_rfl
theorem bedrockref10_Told.sem_ok (k : Nat) : SemOK Try.prog 47 (bedrockref10_Told.sem k) :=
  callPure_ok (C := bedrockref10_Told.ctx k) (bedrockref10_Told.gok k) Try.mix (c := Func.code Try.f47) (ann := bedrockref10_Told.ann k) (tin := bedrockref10_Told.tin) (tout := bedrockref10_Told.tout) (fun x K => bedrockref10_Told.c k x.1 K) Try.func47 (by kernel_rfl) (by kernel_rfl) (AnnOK.seq AnnOK.nil (AnnOK.seq (AnnOK.seq AnnOK.nil (AnnOK.block (AnnOK.loop (by kernel_rfl) (bedrockref10_Told.l0.ok k)))) (AnnOK.seq (AnnOK.seq AnnOK.nil (AnnOK.block (AnnOK.loop (by kernel_rfl) (bedrockref10_Told.l1.ok k)))) AnnOK.nil))) (bedrockref10_Told.body k)

/-! 54 bedrock/bedrockref02.Twice -/
def bedrockref02_Twice.c (k : Nat) {ρ : Type} (s : ByteArray) (K : (List Int) × Unit → Option ρ) : Option ρ :=
  (bedrockref02_Sum k s).bind fun t0 => let v1 : ByteArray := (bytesOf (List.take 32 (List.drop 0 t0.1)))
  (bedrockref02_Sum k v1).bind fun t2 => K (t2.1, ())
def bedrockref02_Twice (k : Nat) (s : ByteArray) : Option ((List Int) × Unit) := bedrockref02_Twice.c k s some
def bedrockref02_Twice.tin : List Ty := [.str]
def bedrockref02_Twice.tout : List Ty := [(.arr 32 (.int .u8))]
def bedrockref02_Twice.sem (k : Nat) : CallSem := callPure bedrockref02_Twice.tin bedrockref02_Twice.tout fun x => bedrockref02_Twice k x.1
noncomputable def bedrockref02_Twice.ctx (k : Nat) : Ctx := ⟨Try.prog, gam [(94, (bedrockref02_Sum.sem k))]⟩
theorem bedrockref02_Twice.gok (k : Nat) : ∀ f, SemOK Try.prog f ((bedrockref02_Twice.ctx k).Γ f) := (gam_cons (bedrockref02_Sum.sem_ok k) gam_nil)
def bedrockref02_Twice.ann (k : Nat) : Ann := .nil
theorem bedrockref02_Twice.body (k : Nat) : BodyIs (bedrockref02_Twice.ctx k) Try.f54 (Func.code Try.f54) (bedrockref02_Twice.ann k) bedrockref02_Twice.tin bedrockref02_Twice.tout (fun x K => bedrockref02_Twice.c k x.1 K) := by
  intro ρ x K; kernel_rfl
theorem bedrockref02_Twice.sem_ok (k : Nat) : SemOK Try.prog 54 (bedrockref02_Twice.sem k) :=
  callPure_ok (C := bedrockref02_Twice.ctx k) (bedrockref02_Twice.gok k) Try.mix (c := Func.code Try.f54) (ann := bedrockref02_Twice.ann k) (tin := bedrockref02_Twice.tin) (tout := bedrockref02_Twice.tout) (fun x K => bedrockref02_Twice.c k x.1 K) Try.func54 (by kernel_rfl) (by kernel_rfl) AnnOK.nil (bedrockref02_Twice.body k)

/-! 48 bedrock/bedrockref10.ID -/
def bedrockref10_ID.c (k : Nat) {ρ : Type} (t : (Int × ((List ((List Int) × (Int × (ByteArray × (Int × Unit))))) × ((List (Int × (ByteArray × Unit))) × (Int × Unit))))) (K : (List Int) × Bool × Unit → Option ρ) : Option ρ :=
  (bedrockref10_Told k (t.1, (t.2.1, (t.2.2.1, (t.2.2.2.1, ()))))).bind fun t0 => bif (t0.1 != (0 : Int)) then (let v1 : (List Int) := (List.replicate 32 (0 : Int))
  K (v1, (false, ()))) else ((bedrockref10_Bytes k (t.1, (t.2.1, (t.2.2.1, (t.2.2.2.1, ()))))).bind fun t2 => (bedrockref02_Twice k t2.1).bind fun t3 => K (t3.1, (true, ())))
def bedrockref10_ID (k : Nat) (t : (Int × ((List ((List Int) × (Int × (ByteArray × (Int × Unit))))) × ((List (Int × (ByteArray × Unit))) × (Int × Unit))))) : Option ((List Int) × Bool × Unit) := bedrockref10_ID.c k t some
def bedrockref10_ID.tin : List Ty := [(.pair (.int .u32) (.pair (.sl (.pair (.arr 32 (.int .u8)) (.pair (.int .u32) (.pair .str (.pair (.int .u32) .unit))))) (.pair (.sl (.pair (.int .u64) (.pair .str .unit))) (.pair (.int .u32) .unit))))]
def bedrockref10_ID.tout : List Ty := [(.arr 32 (.int .u8)), .bool]
def bedrockref10_ID.sem (k : Nat) : CallSem := callPure bedrockref10_ID.tin bedrockref10_ID.tout fun x => bedrockref10_ID k x.1
noncomputable def bedrockref10_ID.ctx (k : Nat) : Ctx := ⟨Try.prog, gam [(47, (bedrockref10_Told.sem k)), (46, (bedrockref10_Bytes.sem k)), (54, (bedrockref02_Twice.sem k))]⟩
theorem bedrockref10_ID.gok (k : Nat) : ∀ f, SemOK Try.prog f ((bedrockref10_ID.ctx k).Γ f) := (gam_cons (bedrockref10_Told.sem_ok k) (gam_cons (bedrockref10_Bytes.sem_ok k) (gam_cons (bedrockref02_Twice.sem_ok k) gam_nil)))
def bedrockref10_ID.ann (k : Nat) : Ann := .nil
theorem bedrockref10_ID.body (k : Nat) : BodyIs (bedrockref10_ID.ctx k) Try.f48 (Func.code Try.f48) (bedrockref10_ID.ann k) bedrockref10_ID.tin bedrockref10_ID.tout (fun x K => bedrockref10_ID.c k x.1 K) := by
  intro ρ x K; kernel_rfl
theorem bedrockref10_ID.sem_ok (k : Nat) : SemOK Try.prog 48 (bedrockref10_ID.sem k) :=
  callPure_ok (C := bedrockref10_ID.ctx k) (bedrockref10_ID.gok k) Try.mix (c := Func.code Try.f48) (ann := bedrockref10_ID.ann k) (tin := bedrockref10_ID.tin) (tout := bedrockref10_ID.tout) (fun x K => bedrockref10_ID.c k x.1 K) Try.func48 (by kernel_rfl) (by kernel_rfl) AnnOK.nil (bedrockref10_ID.body k)

/-! 10 bedrock/bedrocklaw10.TxTells -/
abbrev bedrocklaw10_TxTells.p0.σ : Type := ByteArray × Int × Int × (Int × ((List (((List Int) × (Int × Unit)) × (ByteArray × (Int × Unit)))) × ((List (Int × (ByteArray × Unit))) × (Int × Unit)))) × (List Int) × (Int × ((List ((List Int) × (Int × (ByteArray × (Int × Unit))))) × ((List (Int × (ByteArray × Unit))) × (Int × Unit)))) × Unit
abbrev bedrocklaw10_TxTells.p0.τ : Type := (Bool × Unit) ⊕ (ByteArray × Int × (List Int) × (Int × ((List ((List Int) × (Int × (ByteArray × (Int × Unit))))) × ((List (Int × (ByteArray × Unit))) × (Int × Unit)))) × Unit)
def bedrocklaw10_TxTells.p0.r (k : Nat) {ρ : Type} (x : bedrocklaw10_TxTells.p0.σ) (K : bedrocklaw10_TxTells.p0.τ → Option ρ) : Option ρ :=
  (bedrocklaw10_awake k ).bind fun t7 => bif (!t7.1) then (K (.inl (false, ()))) else ((tx_Size k (x.2.2.2.1.1, (x.2.2.2.1.2.1, (x.2.2.2.1.2.2.1, (x.2.2.2.1.2.2.2.1, ()))))).bind fun t8 => (bedrockref10_Bytes k (x.2.2.2.2.2.1.1, (x.2.2.2.2.2.1.2.1, (x.2.2.2.2.2.1.2.2.1, (x.2.2.2.2.2.1.2.2.2.1, ()))))).bind fun t9 => let v10 : Int := (((ByteArray.size t9.1) : Nat) : Int)
  bif (t8.1 != v10) then (K (.inl (false, ()))) else ((bedrockref10_Told k (x.2.2.2.2.2.1.1, (x.2.2.2.2.2.1.2.1, (x.2.2.2.2.2.1.2.2.1, (x.2.2.2.2.2.1.2.2.2.1, ()))))).bind fun t11 => bif (x.2.1 != t11.1) then (K (.inl (false, ()))) else (bif (x.2.2.1 != x.2.1) then (K (.inl (false, ()))) else (K (.inr (x.1, (x.2.1, (x.2.2.2.2.1, ((x.2.2.2.2.2.1.1, (x.2.2.2.2.2.1.2.1, (x.2.2.2.2.2.1.2.2.1, (x.2.2.2.2.2.1.2.2.2.1, ())))), ())))))))))
def bedrocklaw10_TxTells.p0 (k : Nat) (x : bedrocklaw10_TxTells.p0.σ) : Option bedrocklaw10_TxTells.p0.τ := bedrocklaw10_TxTells.p0.r k x some
def bedrocklaw10_TxTells.p0.T : StT := ⟨us 1 ++ .ptr 0 [] :: us 1 ++ .dat .str :: .dat (.int .i64) :: .ptr 1 [] :: .dat (.int .i64) :: .ptr 2 [] :: us 61, [.dat (.pair (.int .u32) (.pair (.sl (.pair (.pair (.arr 32 (.int .u8)) (.pair (.int .u32) .unit)) (.pair .str (.pair (.int .u32) .unit)))) (.pair (.sl (.pair (.int .u64) (.pair .str .unit))) (.pair (.int .u32) .unit)))), .dat (.arr 32 (.int .u8)), .dat (.pair (.int .u32) (.pair (.sl (.pair (.arr 32 (.int .u8)) (.pair (.int .u32) (.pair .str (.pair (.int .u32) .unit))))) (.pair (.sl (.pair (.int .u64) (.pair .str .unit))) (.pair (.int .u32) .unit))))]⟩
def bedrocklaw10_TxTells.p0.os : List Out := [⟨.ret, [.mask [2], .auto 0], ⟨us 2 ++ .dat .bool :: us 66, []⟩⟩, ⟨.normal, [.mask [3, 4, 5, 7], .auto 0], ⟨us 3 ++ .dat .str :: .dat (.int .i64) :: .ptr 0 [] :: us 1 ++ .ptr 1 [] :: us 61, [.dat (.arr 32 (.int .u8)), .dat (.pair (.int .u32) (.pair (.sl (.pair (.arr 32 (.int .u8)) (.pair (.int .u32) (.pair .str (.pair (.int .u32) .unit))))) (.pair (.sl (.pair (.int .u64) (.pair .str .unit))) (.pair (.int .u32) .unit))))]⟩⟩]
def bedrocklaw10_TxTells.c (k : Nat) {ρ : Type} (t : (Int × ((List (((List Int) × (Int × Unit)) × (ByteArray × (Int × Unit)))) × ((List (Int × (ByteArray × Unit))) × (Int × Unit))))) (K : Bool × Unit → Option ρ) : Option ρ :=
  (tx_Encode k (t.1, (t.2.1, (t.2.2.1, (t.2.2.2.1, ()))))).bind fun t0 => let v1 : ByteArray := t0.1
  let v2 : Int := t0.2.1
  (tx_ID k (t.1, (t.2.1, (t.2.2.1, (t.2.2.2.1, ()))))).bind fun t3 => let v4 : (List Int) := t3.1
  let v5 : Int := t3.2.1
  (bedrocklaw10_given k (t.1, (t.2.1, (t.2.2.1, (t.2.2.2.1, ()))))).bind fun t6 => (bedrocklaw10_TxTells.p0 k (v1, (v2, (v5, ((t.1, (t.2.1, (t.2.2.1, (t.2.2.2.1, ())))), (v4, ((t6.1.1, (t6.1.2.1, (t6.1.2.2.1, (t6.1.2.2.2.1, ())))), ()))))))).bind fun t12 => (match t12 with | .inl t13 => (K (t13.1, ())) | .inr (t14) => (bif (t14.2.1 != (0 : Int)) then (bif (strEq t14.1 (⟨(List.toArray [])⟩ : ByteArray)) then (let v15 : (List Int) := t14.2.2.1
  let v16 : (List Int) := (List.replicate 32 (0 : Int))
  K ((decide (v15 = v16)), ())) else (K (false, ()))) else ((bedrockref10_ID k (t14.2.2.2.1.1, (t14.2.2.2.1.2.1, (t14.2.2.2.1.2.2.1, (t14.2.2.2.1.2.2.2.1, ()))))).bind fun t17 => let v18 : (List Int) := t17.1
  (bedrockref10_Bytes k (t14.2.2.2.1.1, (t14.2.2.2.1.2.1, (t14.2.2.2.1.2.2.1, (t14.2.2.2.1.2.2.2.1, ()))))).bind fun t19 => bif (strEq t14.1 t19.1) then (bif t17.2.1 then (let v20 : (List Int) := t14.2.2.1
  K ((decide (v20 = v18)), ())) else (K (false, ()))) else (K (false, ())))))
def bedrocklaw10_TxTells (k : Nat) (t : (Int × ((List (((List Int) × (Int × Unit)) × (ByteArray × (Int × Unit)))) × ((List (Int × (ByteArray × Unit))) × (Int × Unit))))) : Option (Bool × Unit) := bedrocklaw10_TxTells.c k t some
def bedrocklaw10_TxTells.tin : List Ty := [(.pair (.int .u32) (.pair (.sl (.pair (.pair (.arr 32 (.int .u8)) (.pair (.int .u32) .unit)) (.pair .str (.pair (.int .u32) .unit)))) (.pair (.sl (.pair (.int .u64) (.pair .str .unit))) (.pair (.int .u32) .unit))))]
def bedrocklaw10_TxTells.tout : List Ty := [.bool]
def bedrocklaw10_TxTells.sem (k : Nat) : CallSem := callPure bedrocklaw10_TxTells.tin bedrocklaw10_TxTells.tout fun x => bedrocklaw10_TxTells k x.1
noncomputable def bedrocklaw10_TxTells.ctx (k : Nat) : Ctx := ⟨Try.prog, gam [(32, (tx_Encode.sem k)), (44, (tx_ID.sem k)), (23, (bedrocklaw10_given.sem k)), (21, (bedrocklaw10_awake.sem k)), (45, (tx_Size.sem k)), (46, (bedrockref10_Bytes.sem k)), (47, (bedrockref10_Told.sem k)), (48, (bedrockref10_ID.sem k))]⟩
theorem bedrocklaw10_TxTells.gok (k : Nat) : ∀ f, SemOK Try.prog f ((bedrocklaw10_TxTells.ctx k).Γ f) := (gam_cons (tx_Encode.sem_ok k) (gam_cons (tx_ID.sem_ok k) (gam_cons (bedrocklaw10_given.sem_ok k) (gam_cons (bedrocklaw10_awake.sem_ok k) (gam_cons (tx_Size.sem_ok k) (gam_cons (bedrockref10_Bytes.sem_ok k) (gam_cons (bedrockref10_Told.sem_ok k) (gam_cons (bedrockref10_ID.sem_ok k) gam_nil))))))))
theorem bedrocklaw10_TxTells.p0.is (k : Nat) : PieceIs (bedrocklaw10_TxTells.ctx k) (codeAt (Func.code Try.f10) [1, 1, 1, 1, 0]) (.nil) bedrocklaw10_TxTells.p0.T bedrocklaw10_TxTells.p0.os (bedrocklaw10_TxTells.p0.r k) := by
  intro ρ x K; kernel_rfl
theorem bedrocklaw10_TxTells.p0.ok (k : Nat) : StOK 0 Try.prog (codeAt (Func.code Try.f10) [1, 1, 1, 1, 0]) (pieceSem bedrocklaw10_TxTells.p0.T bedrocklaw10_TxTells.p0.os (bedrocklaw10_TxTells.p0 k)) :=
  piece_ok (C := bedrocklaw10_TxTells.ctx k) (T := bedrocklaw10_TxTells.p0.T) (os := bedrocklaw10_TxTells.p0.os) (bedrocklaw10_TxTells.gok k) Try.mix (fun x K => bedrocklaw10_TxTells.p0.r k x K) AnnOK.nil (by kernel_rfl) (by kernel_rfl) (bedrocklaw10_TxTells.p0.is k)
def bedrocklaw10_TxTells.ann (k : Nat) : Ann := .node [] none (.nil) (.node [] none (.nil) (.node [] none (.nil) (.node [] none (.nil) (.node [] none (.node [.mask [1, 3, 4, 5, 6, 7], .auto 0] (some (pieceSem bedrocklaw10_TxTells.p0.T bedrocklaw10_TxTells.p0.os (bedrocklaw10_TxTells.p0 k))) .nil .nil) (.nil)))))
theorem bedrocklaw10_TxTells.body (k : Nat) : BodyIs (bedrocklaw10_TxTells.ctx k) Try.f10 (Func.code Try.f10) (bedrocklaw10_TxTells.ann k) bedrocklaw10_TxTells.tin bedrocklaw10_TxTells.tout (fun x K => bedrocklaw10_TxTells.c k x.1 K) := by
  intro ρ x K; kernel_rfl
theorem bedrocklaw10_TxTells.sem_ok (k : Nat) : SemOK Try.prog 10 (bedrocklaw10_TxTells.sem k) :=
  callPure_ok (C := bedrocklaw10_TxTells.ctx k) (bedrocklaw10_TxTells.gok k) Try.mix (c := Func.code Try.f10) (ann := bedrocklaw10_TxTells.ann k) (tin := bedrocklaw10_TxTells.tin) (tout := bedrocklaw10_TxTells.tout) (fun x K => bedrocklaw10_TxTells.c k x.1 K) Try.func10 (by kernel_rfl) (by kernel_rfl) (AnnOK.seq AnnOK.nil (AnnOK.seq AnnOK.nil (AnnOK.seq AnnOK.nil (AnnOK.seq AnnOK.nil (AnnOK.seq (AnnOK.loop (by kernel_rfl) (bedrocklaw10_TxTells.p0.ok k)) AnnOK.nil))))) (bedrocklaw10_TxTells.body k)

end Go.Am
/- The sum of the sum. -/
namespace Go.Am
open Go

theorem sumL_length (a : List Int) : (sumL a).length = 32 := bytesBE_length _

theorem sumL_in (a : List Int) : allIn 0 255 (sumL a) := bytesBE_in _

theorem sum_bytes (a : List Int) : ofBytes (bytesOf ((((sumL a).drop 0).take 32))) = sumL a := by
  rw [List.drop_zero, List.take_of_length_le (by rw [sumL_length]; omega)]
  exact ofBytes_bytesOf fun x hx => by have := sumL_in a x hx; omega

theorem sum_size (a : List Int) : (bytesOf ((((sumL a).drop 0).take 32))).size = 32 := by
  rw [bytesOf_size]; simp [sumL_length]

theorem sha_Twice_eq {k : Nat} (hk : 128 < k) {s : ByteArray} (hs : s.size ≤ 140737488354000) (hf : s.size / 64 + 1 < k) : sha_Twice k s = some (sumL (sumL (ofBytes s)), ()) := by
  unfold sha_Twice sha_Twice.c
  rw [sha_Sum_eq hk hs hf]
  simp only [Option.bind_some]
  rw [sha_Sum_eq hk (by rw [sum_size]; omega) (by rw [sum_size]; omega), sum_bytes]
  rfl

theorem ref_Twice_eq {k : Nat} (hk : 128 < k) {s : ByteArray} (hs : s.size ≤ 140737488354000) (hf : s.size / 64 + 2 < k) : bedrockref02_Twice k s = some (sumL (sumL (ofBytes s)), ()) := by
  unfold bedrockref02_Twice bedrockref02_Twice.c
  rw [ref_Sum_eq hk hs hf]
  simp only [Option.bind_some]
  rw [ref_Sum_eq hk (by rw [sum_size]; omega) (by rw [sum_size]; omega), sum_bytes]
  rfl

end Go.Am
namespace Go.Am
open Go Go.Proofs
set_option maxRecDepth 100000
/-! 49 bedrock/tx.Lock -/
def tx_Lock.c (k : Nat) {ρ : Type} (key : ByteArray) (n : Int) (K : ByteArray × Int × Unit → Option ρ) : Option ρ :=
  bif (decide (n < (0 : Int))) then (K ((⟨(List.toArray [])⟩ : ByteArray), ((1 : Int), ()))) else (bif (decide (n > (32 : Int))) then (K ((⟨(List.toArray [])⟩ : ByteArray), ((1 : Int), ()))) else ((sha_Twice k key).bind fun t0 => bif (decide (((0 : Int) ≤ (0 : Int)) ∧ (((0 : Int) ≤ n) ∧ (n ≤ ((32 : Nat) : Int))))) then (let v1 : ByteArray := (bytesOf (List.take (Int.toNat (n - (0 : Int))) (List.drop 0 t0.1)))
  K (v1, ((0 : Int), ()))) else (none)))
def tx_Lock (k : Nat) (key : ByteArray) (n : Int) : Option (ByteArray × Int × Unit) := tx_Lock.c k key n some
def tx_Lock.tin : List Ty := [.str, (.int .i64)]
def tx_Lock.tout : List Ty := [.str, (.int .i64)]
def tx_Lock.sem (k : Nat) : CallSem := callPure tx_Lock.tin tx_Lock.tout fun x => tx_Lock k x.1 x.2.1
noncomputable def tx_Lock.ctx (k : Nat) : Ctx := ⟨Try.prog, gam [(89, (sha_Twice.sem k))]⟩
theorem tx_Lock.gok (k : Nat) : ∀ f, SemOK Try.prog f ((tx_Lock.ctx k).Γ f) := (gam_cons (sha_Twice.sem_ok k) gam_nil)
def tx_Lock.ann (k : Nat) : Ann := .nil
theorem tx_Lock.body (k : Nat) : BodyIs (tx_Lock.ctx k) Try.f49 (Func.code Try.f49) (tx_Lock.ann k) tx_Lock.tin tx_Lock.tout (fun x K => tx_Lock.c k x.1 x.2.1 K) := by
  intro ρ x K; kernel_rfl
theorem tx_Lock.sem_ok (k : Nat) : SemOK Try.prog 49 (tx_Lock.sem k) :=
  callPure_ok (C := tx_Lock.ctx k) (tx_Lock.gok k) Try.mix (c := Func.code Try.f49) (ann := tx_Lock.ann k) (tin := tx_Lock.tin) (tout := tx_Lock.tout) (fun x K => tx_Lock.c k x.1 x.2.1 K) Try.func49 (by kernel_rfl) (by kernel_rfl) AnnOK.nil (tx_Lock.body k)

/-! 50 bedrock/tx.Opens -/
def tx_Opens.c (k : Nat) {ρ : Type} (lock : ByteArray) (key : ByteArray) (K : Bool × Unit → Option ρ) : Option ρ :=
  bif (decide ((((ByteArray.size lock) : Nat) : Int) > (32 : Int))) then (K (false, ())) else ((sha_Twice k key).bind fun t0 => bif (decide (((0 : Int) ≤ (0 : Int)) ∧ (((0 : Int) ≤ (((ByteArray.size lock) : Nat) : Int)) ∧ ((((ByteArray.size lock) : Nat) : Int) ≤ ((32 : Nat) : Int))))) then (let v1 : ByteArray := (bytesOf (List.take (Int.toNat ((((ByteArray.size lock) : Nat) : Int) - (0 : Int))) (List.drop 0 t0.1)))
  K ((strEq lock v1), ())) else (none))
def tx_Opens (k : Nat) (lock : ByteArray) (key : ByteArray) : Option (Bool × Unit) := tx_Opens.c k lock key some
def tx_Opens.tin : List Ty := [.str, .str]
def tx_Opens.tout : List Ty := [.bool]
def tx_Opens.sem (k : Nat) : CallSem := callPure tx_Opens.tin tx_Opens.tout fun x => tx_Opens k x.1 x.2.1
noncomputable def tx_Opens.ctx (k : Nat) : Ctx := ⟨Try.prog, gam [(89, (sha_Twice.sem k))]⟩
theorem tx_Opens.gok (k : Nat) : ∀ f, SemOK Try.prog f ((tx_Opens.ctx k).Γ f) := (gam_cons (sha_Twice.sem_ok k) gam_nil)
def tx_Opens.ann (k : Nat) : Ann := .nil
theorem tx_Opens.body (k : Nat) : BodyIs (tx_Opens.ctx k) Try.f50 (Func.code Try.f50) (tx_Opens.ann k) tx_Opens.tin tx_Opens.tout (fun x K => tx_Opens.c k x.1 x.2.1 K) := by
  intro ρ x K; kernel_rfl
theorem tx_Opens.sem_ok (k : Nat) : SemOK Try.prog 50 (tx_Opens.sem k) :=
  callPure_ok (C := tx_Opens.ctx k) (tx_Opens.gok k) Try.mix (c := Func.code Try.f50) (ann := tx_Opens.ann k) (tin := tx_Opens.tin) (tout := tx_Opens.tout) (fun x K => tx_Opens.c k x.1 x.2.1 K) Try.func50 (by kernel_rfl) (by kernel_rfl) AnnOK.nil (tx_Opens.body k)

/-! 51 bedrock/bedrockref10.Opens -/
def bedrockref10_Opens.c (k : Nat) {ρ : Type} (lock : ByteArray) (key : ByteArray) (K : Bool × Unit → Option ρ) : Option ρ :=
  bif (strEq lock (⟨(List.toArray [])⟩ : ByteArray)) then (K (true, ())) else ((bedrockref02_Twice k key).bind fun t0 => bif (decide ((((ByteArray.size lock) : Nat) : Int) ≤ (32 : Int))) then (bif (decide (((0 : Int) ≤ (0 : Int)) ∧ (((0 : Int) ≤ (((ByteArray.size lock) : Nat) : Int)) ∧ ((((ByteArray.size lock) : Nat) : Int) ≤ ((32 : Nat) : Int))))) then (let v1 : ByteArray := (bytesOf (List.take (Int.toNat ((((ByteArray.size lock) : Nat) : Int) - (0 : Int))) (List.drop 0 t0.1)))
  K ((strEq v1 lock), ())) else (none)) else (K (false, ())))
def bedrockref10_Opens (k : Nat) (lock : ByteArray) (key : ByteArray) : Option (Bool × Unit) := bedrockref10_Opens.c k lock key some
def bedrockref10_Opens.tin : List Ty := [.str, .str]
def bedrockref10_Opens.tout : List Ty := [.bool]
def bedrockref10_Opens.sem (k : Nat) : CallSem := callPure bedrockref10_Opens.tin bedrockref10_Opens.tout fun x => bedrockref10_Opens k x.1 x.2.1
noncomputable def bedrockref10_Opens.ctx (k : Nat) : Ctx := ⟨Try.prog, gam [(54, (bedrockref02_Twice.sem k))]⟩
theorem bedrockref10_Opens.gok (k : Nat) : ∀ f, SemOK Try.prog f ((bedrockref10_Opens.ctx k).Γ f) := (gam_cons (bedrockref02_Twice.sem_ok k) gam_nil)
def bedrockref10_Opens.ann (k : Nat) : Ann := .nil
theorem bedrockref10_Opens.body (k : Nat) : BodyIs (bedrockref10_Opens.ctx k) Try.f51 (Func.code Try.f51) (bedrockref10_Opens.ann k) bedrockref10_Opens.tin bedrockref10_Opens.tout (fun x K => bedrockref10_Opens.c k x.1 x.2.1 K) := by
  intro ρ x K; kernel_rfl
theorem bedrockref10_Opens.sem_ok (k : Nat) : SemOK Try.prog 51 (bedrockref10_Opens.sem k) :=
  callPure_ok (C := bedrockref10_Opens.ctx k) (bedrockref10_Opens.gok k) Try.mix (c := Func.code Try.f51) (ann := bedrockref10_Opens.ann k) (tin := bedrockref10_Opens.tin) (tout := bedrockref10_Opens.tout) (fun x K => bedrockref10_Opens.c k x.1 x.2.1 K) Try.func51 (by kernel_rfl) (by kernel_rfl) AnnOK.nil (bedrockref10_Opens.body k)

/-! 52 bedrock/tx.Final -/
abbrev tx_Final.p0.σ : Type := Int × Int × (Int × ((List (((List Int) × (Int × Unit)) × (ByteArray × (Int × Unit)))) × ((List (Int × (ByteArray × Unit))) × (Int × Unit)))) × Unit
abbrev tx_Final.p0.τ : Type := (Int × (Int × ((List (((List Int) × (Int × Unit)) × (ByteArray × (Int × Unit)))) × ((List (Int × (ByteArray × Unit))) × (Int × Unit)))) × Unit)
def tx_Final.p0.r (k : Nat) {ρ : Type} (x : tx_Final.p0.σ) (K : tx_Final.p0.τ → Option ρ) : Option ρ :=
  let v1 : Int := x.2.2.1.2.2.2.1
  bif (decide (v1 ≥ (500000000 : Int))) then (let v2 : Int := (IntKind.wrap IntKind.u64 x.1)
  K (v2, ((x.2.2.1.1, (x.2.2.1.2.1, (x.2.2.1.2.2.1, (x.2.2.1.2.2.2.1, ())))), ()))) else (K (x.2.1, ((x.2.2.1.1, (x.2.2.1.2.1, (x.2.2.1.2.2.1, (x.2.2.1.2.2.2.1, ())))), ())))
def tx_Final.p0 (k : Nat) (x : tx_Final.p0.σ) : Option tx_Final.p0.τ := tx_Final.p0.r k x some
def tx_Final.p0.T : StT := ⟨us 2 ++ .dat (.int .u32) :: .ptr 0 [] :: us 3 ++ .dat (.int .u64) :: us 31, [.dat (.pair (.int .u32) (.pair (.sl (.pair (.pair (.arr 32 (.int .u8)) (.pair (.int .u32) .unit)) (.pair .str (.pair (.int .u32) .unit)))) (.pair (.sl (.pair (.int .u64) (.pair .str .unit))) (.pair (.int .u32) .unit))))]⟩
def tx_Final.p0.os : List Out := [⟨.normal, [.mask [3, 7], .auto 0], ⟨us 3 ++ .ptr 0 [] :: us 3 ++ .dat (.int .u64) :: us 31, [.dat (.pair (.int .u32) (.pair (.sl (.pair (.pair (.arr 32 (.int .u8)) (.pair (.int .u32) .unit)) (.pair .str (.pair (.int .u32) .unit)))) (.pair (.sl (.pair (.int .u64) (.pair .str .unit))) (.pair (.int .u32) .unit))))]⟩⟩]
abbrev tx_Final.p1.σ : Type := Int × (Int × ((List (((List Int) × (Int × Unit)) × (ByteArray × (Int × Unit)))) × ((List (Int × (ByteArray × Unit))) × (Int × Unit)))) × Unit
abbrev tx_Final.p1.τ : Type := (Bool × Unit) ⊕ ((Int × ((List (((List Int) × (Int × Unit)) × (ByteArray × (Int × Unit)))) × ((List (Int × (ByteArray × Unit))) × (Int × Unit)))) × Unit)
def tx_Final.p1.r (k : Nat) {ρ : Type} (x : tx_Final.p1.σ) (K : tx_Final.p1.τ → Option ρ) : Option ρ :=
  let v4 : Int := x.2.1.2.2.2.1
  bif (v4 == (0 : Int)) then (K (.inl (true, ()))) else (let v5 : Int := x.2.1.2.2.2.1
  bif (decide ((IntKind.wrap IntKind.u64 v5) < x.1)) then (K (.inl (true, ()))) else (K (.inr ((x.2.1.1, (x.2.1.2.1, (x.2.1.2.2.1, (x.2.1.2.2.2.1, ())))), ()))))
def tx_Final.p1 (k : Nat) (x : tx_Final.p1.σ) : Option tx_Final.p1.τ := tx_Final.p1.r k x some
def tx_Final.p1.T : StT := ⟨us 3 ++ .ptr 0 [] :: us 3 ++ .dat (.int .u64) :: us 31, [.dat (.pair (.int .u32) (.pair (.sl (.pair (.pair (.arr 32 (.int .u8)) (.pair (.int .u32) .unit)) (.pair .str (.pair (.int .u32) .unit)))) (.pair (.sl (.pair (.int .u64) (.pair .str .unit))) (.pair (.int .u32) .unit))))]⟩
def tx_Final.p1.os : List Out := [⟨.ret, [.mask [6], .auto 0], ⟨us 6 ++ .dat .bool :: us 32, []⟩⟩, ⟨.normal, [.mask [3], .auto 0], ⟨us 3 ++ .ptr 0 [] :: us 35, [.dat (.pair (.int .u32) (.pair (.sl (.pair (.pair (.arr 32 (.int .u8)) (.pair (.int .u32) .unit)) (.pair .str (.pair (.int .u32) .unit)))) (.pair (.sl (.pair (.int .u64) (.pair .str .unit))) (.pair (.int .u32) .unit))))]⟩⟩]
abbrev tx_Final.l2.σ : Type := (List (((List Int) × (Int × Unit)) × (ByteArray × (Int × Unit)))) × Int × Int × Unit
abbrev tx_Final.l2.τ : Type := (Bool × Unit) ⊕ (Unit)
def tx_Final.l2.r (k : Nat) {ρ : Type} (x : tx_Final.l2.σ) (kn : tx_Final.l2.σ → Option ρ) (ke : tx_Final.l2.τ → Option ρ) : Option ρ :=
  bif (decide (x.2.2.1 < x.2.1)) then (bif (decide (((0 : Int) ≤ x.2.2.1) ∧ (x.2.2.1 < (((List.length x.1) : Nat) : Int)))) then (let v11 : Int := (List.getD x.1 (Int.toNat x.2.2.1) (((List.replicate 32 (0 : Int)), ((0 : Int), ())), (ByteArray.empty, ((0 : Int), ())))).2.2.1
  bif (v11 != (4294967295 : Int)) then (ke (.inl (false, ()))) else (let v12 : Int := (IntKind.wrap IntKind.i64 (x.2.2.1 + (1 : Int)))
  kn (x.1, (x.2.1, (v12, ()))))) else (none)) else (ke (.inr ()))
def tx_Final.l2 (k : Nat) : Nat → tx_Final.l2.σ → Option tx_Final.l2.τ := loopJ (tx_Final.l2.r k)
def tx_Final.l2.T : StT := ⟨us 29 ++ .dat (.sl (.pair (.pair (.arr 32 (.int .u8)) (.pair (.int .u32) .unit)) (.pair .str (.pair (.int .u32) .unit)))) :: .dat (.int .i64) :: .dat (.int .i64) :: us 7, []⟩
def tx_Final.l2.os : List Out := [⟨.ret, [.mask [6], .auto 0], ⟨us 6 ++ .dat .bool :: us 32, []⟩⟩, ⟨(.exit 0), [.mask [], .auto 0], ⟨us 39, []⟩⟩]
def tx_Final.c (k : Nat) {ρ : Type} (t : (Int × ((List (((List Int) × (Int × Unit)) × (ByteArray × (Int × Unit)))) × ((List (Int × (ByteArray × Unit))) × (Int × Unit))))) (height : Int) (time : Int) (K : Bool × Unit → Option ρ) : Option ρ :=
  let v0 : Int := (if ((0 : Int) > height) then (0 : Int) else height)
  (tx_Final.p0 k (time, ((IntKind.wrap IntKind.u64 v0), ((t.1, (t.2.1, (t.2.2.1, (t.2.2.2.1, ())))), ())))).bind fun t3 => (tx_Final.p1 k (t3.1, ((t3.2.1.1, (t3.2.1.2.1, (t3.2.1.2.2.1, (t3.2.1.2.2.2.1, ())))), ()))).bind fun t6 => (match t6 with | .inl t7 => (K (t7.1, ())) | .inr (t8) => (let v9 : (List (((List Int) × (Int × Unit)) × (ByteArray × (Int × Unit)))) := t8.1.2.1
  let v10 : Int := (((List.length v9) : Nat) : Int)
  (tx_Final.l2 k k (v9, (v10, ((0 : Int), ())))).bind fun t13 => (match t13 with | .inl t14 => (K (t14.1, ())) | .inr (t15) => (K (true, ())))))
def tx_Final (k : Nat) (t : (Int × ((List (((List Int) × (Int × Unit)) × (ByteArray × (Int × Unit)))) × ((List (Int × (ByteArray × Unit))) × (Int × Unit))))) (height : Int) (time : Int) : Option (Bool × Unit) := tx_Final.c k t height time some
def tx_Final.tin : List Ty := [(.pair (.int .u32) (.pair (.sl (.pair (.pair (.arr 32 (.int .u8)) (.pair (.int .u32) .unit)) (.pair .str (.pair (.int .u32) .unit)))) (.pair (.sl (.pair (.int .u64) (.pair .str .unit))) (.pair (.int .u32) .unit)))), (.int .i64), (.int .u32)]
def tx_Final.tout : List Ty := [.bool]
def tx_Final.sem (k : Nat) : CallSem := callPure tx_Final.tin tx_Final.tout fun x => tx_Final k x.1 x.2.1 x.2.2.1
noncomputable def tx_Final.ctx (k : Nat) : Ctx := ⟨Try.prog, gam []⟩
theorem tx_Final.gok (k : Nat) : ∀ f, SemOK Try.prog f ((tx_Final.ctx k).Γ f) := gam_nil
theorem tx_Final.p0.is (k : Nat) : PieceIs (tx_Final.ctx k) (codeAt (Func.code Try.f52) [1, 1, 0]) (.nil) tx_Final.p0.T tx_Final.p0.os (tx_Final.p0.r k) := by
  intro ρ x K; kernel_rfl
theorem tx_Final.p0.ok (k : Nat) : StOK 0 Try.prog (codeAt (Func.code Try.f52) [1, 1, 0]) (pieceSem tx_Final.p0.T tx_Final.p0.os (tx_Final.p0 k)) :=
  piece_ok (C := tx_Final.ctx k) (T := tx_Final.p0.T) (os := tx_Final.p0.os) (tx_Final.gok k) Try.mix (fun x K => tx_Final.p0.r k x K) AnnOK.nil (by kernel_rfl) (by kernel_rfl) (tx_Final.p0.is k)
theorem tx_Final.p1.is (k : Nat) : PieceIs (tx_Final.ctx k) (codeAt (Func.code Try.f52) [1, 1, 1, 0]) (.nil) tx_Final.p1.T tx_Final.p1.os (tx_Final.p1.r k) := by
  intro ρ x K; kernel_rfl
theorem tx_Final.p1.ok (k : Nat) : StOK 0 Try.prog (codeAt (Func.code Try.f52) [1, 1, 1, 0]) (pieceSem tx_Final.p1.T tx_Final.p1.os (tx_Final.p1 k)) :=
  piece_ok (C := tx_Final.ctx k) (T := tx_Final.p1.T) (os := tx_Final.p1.os) (tx_Final.gok k) Try.mix (fun x K => tx_Final.p1.r k x K) AnnOK.nil (by kernel_rfl) (by kernel_rfl) (tx_Final.p1.is k)
theorem tx_Final.l2.round (k : Nat) : RoundIs (tx_Final.ctx k) (codeAt (Func.code Try.f52) [1, 1, 1, 1, 0, 1, 0, 0]) (.nil) tx_Final.l2.T [.mask [29, 30, 31], .auto 0] tx_Final.l2.os (tx_Final.l2.r k) := by
  intro ρ x kn ke; kernel_rfl
theorem tx_Final.l2.ok (k : Nat) : StOK 0 Try.prog (.loop (codeAt (Func.code Try.f52) [1, 1, 1, 1, 0, 1, 0, 0])) (pieceSem tx_Final.l2.T tx_Final.l2.os (tx_Final.l2 k k)) :=
  loop_ok (C := tx_Final.ctx k) (tx_Final.gok k) Try.mix AnnOK.nil (by kernel_rfl) (by kernel_rfl) (by kernel_rfl) (tx_Final.l2.round k) k
def tx_Final.ann (k : Nat) : Ann := .node [] none (.nil) (.node [] none (.nil) (.node [] none (.node [.mask [2, 3, 7], .auto 0] (some (pieceSem tx_Final.p0.T tx_Final.p0.os (tx_Final.p0 k))) .nil .nil) (.node [] none (.node [.mask [3, 7], .auto 0] (some (pieceSem tx_Final.p1.T tx_Final.p1.os (tx_Final.p1 k))) .nil .nil) (.node [] none (.node [] none (.nil) (.node [] none (.node [.mask [29, 30, 31], .auto 0] (some (pieceSem tx_Final.l2.T tx_Final.l2.os (tx_Final.l2 k k))) .nil .nil) (.nil))) (.nil)))))
theorem tx_Final.body (k : Nat) : BodyIs (tx_Final.ctx k) Try.f52 (Func.code Try.f52) (tx_Final.ann k) tx_Final.tin tx_Final.tout (fun x K => tx_Final.c k x.1 x.2.1 x.2.2.1 K) := by
  intro ρ x K; kernel_rfl
theorem tx_Final.sem_ok (k : Nat) : SemOK Try.prog 52 (tx_Final.sem k) :=
  callPure_ok (C := tx_Final.ctx k) (tx_Final.gok k) Try.mix (c := Func.code Try.f52) (ann := tx_Final.ann k) (tin := tx_Final.tin) (tout := tx_Final.tout) (fun x K => tx_Final.c k x.1 x.2.1 x.2.2.1 K) Try.func52 (by kernel_rfl) (by kernel_rfl) (AnnOK.seq AnnOK.nil (AnnOK.seq AnnOK.nil (AnnOK.seq (AnnOK.loop (by kernel_rfl) (tx_Final.p0.ok k)) (AnnOK.seq (AnnOK.loop (by kernel_rfl) (tx_Final.p1.ok k)) (AnnOK.seq (AnnOK.seq AnnOK.nil (AnnOK.block (AnnOK.loop (by kernel_rfl) (tx_Final.l2.ok k)))) AnnOK.nil))))) (tx_Final.body k)

/-! 53 bedrock/bedrockref10.Final -/
abbrev bedrockref10_Final.p0.σ : Type := Int × Int × (Int × ((List ((List Int) × (Int × (ByteArray × (Int × Unit))))) × ((List (Int × (ByteArray × Unit))) × (Int × Unit)))) × Unit
abbrev bedrockref10_Final.p0.τ : Type := (Bool × Unit) ⊕ ((Int × ((List ((List Int) × (Int × (ByteArray × (Int × Unit))))) × ((List (Int × (ByteArray × Unit))) × (Int × Unit)))) × Unit)
def bedrockref10_Final.p0.r (k : Nat) {ρ : Type} (x : bedrockref10_Final.p0.σ) (K : bedrockref10_Final.p0.τ → Option ρ) : Option ρ :=
  let v0 : Int := x.2.2.1.2.2.2.1
  bif (v0 == (0 : Int)) then (K (.inl (true, ()))) else (let v1 : Int := x.2.2.1.2.2.2.1
  bif (decide (v1 < (500000000 : Int))) then (let v2 : Int := x.2.2.1.2.2.2.1
  let v3 : Int := (IntKind.wrap IntKind.u64 x.1)
  bif (decide ((IntKind.wrap IntKind.u64 v2) < v3)) then (K (.inl (true, ()))) else (let v4 : Int := x.2.2.1.2.2.2.1
  bif (decide (v4 ≥ (500000000 : Int))) then (let v5 : Int := x.2.2.1.2.2.2.1
  bif (decide (v5 < x.2.1)) then (K (.inl (true, ()))) else (K (.inr ((x.2.2.1.1, (x.2.2.1.2.1, (x.2.2.1.2.2.1, (x.2.2.1.2.2.2.1, ())))), ())))) else (K (.inr ((x.2.2.1.1, (x.2.2.1.2.1, (x.2.2.1.2.2.1, (x.2.2.1.2.2.2.1, ())))), ()))))) else (let v6 : Int := x.2.2.1.2.2.2.1
  bif (decide (v6 ≥ (500000000 : Int))) then (let v7 : Int := x.2.2.1.2.2.2.1
  bif (decide (v7 < x.2.1)) then (K (.inl (true, ()))) else (K (.inr ((x.2.2.1.1, (x.2.2.1.2.1, (x.2.2.1.2.2.1, (x.2.2.1.2.2.2.1, ())))), ())))) else (K (.inr ((x.2.2.1.1, (x.2.2.1.2.1, (x.2.2.1.2.2.1, (x.2.2.1.2.2.2.1, ())))), ())))))
def bedrockref10_Final.p0 (k : Nat) (x : bedrockref10_Final.p0.σ) : Option bedrockref10_Final.p0.τ := bedrockref10_Final.p0.r k x some
def bedrockref10_Final.p0.T : StT := ⟨us 1 ++ .dat (.int .i64) :: .dat (.int .u32) :: .ptr 0 [] :: us 43, [.dat (.pair (.int .u32) (.pair (.sl (.pair (.arr 32 (.int .u8)) (.pair (.int .u32) (.pair .str (.pair (.int .u32) .unit))))) (.pair (.sl (.pair (.int .u64) (.pair .str .unit))) (.pair (.int .u32) .unit))))]⟩
def bedrockref10_Final.p0.os : List Out := [⟨.ret, [.mask [6], .auto 0], ⟨us 6 ++ .dat .bool :: us 40, []⟩⟩, ⟨.normal, [.mask [3], .auto 0], ⟨us 3 ++ .ptr 0 [] :: us 43, [.dat (.pair (.int .u32) (.pair (.sl (.pair (.arr 32 (.int .u8)) (.pair (.int .u32) (.pair .str (.pair (.int .u32) .unit))))) (.pair (.sl (.pair (.int .u64) (.pair .str .unit))) (.pair (.int .u32) .unit))))]⟩⟩]
abbrev bedrockref10_Final.l1.σ : Type := (List ((List Int) × (Int × (ByteArray × (Int × Unit))))) × Int × Int × Unit
abbrev bedrockref10_Final.l1.τ : Type := (Bool × Unit) ⊕ (Unit)
def bedrockref10_Final.l1.r (k : Nat) {ρ : Type} (x : bedrockref10_Final.l1.σ) (kn : bedrockref10_Final.l1.σ → Option ρ) (ke : bedrockref10_Final.l1.τ → Option ρ) : Option ρ :=
  bif (decide (x.2.2.1 < x.2.1)) then (bif (decide (((0 : Int) ≤ x.2.2.1) ∧ (x.2.2.1 < (((List.length x.1) : Nat) : Int)))) then (let v13 : Int := (List.getD x.1 (Int.toNat x.2.2.1) ((List.replicate 32 (0 : Int)), ((0 : Int), (ByteArray.empty, ((0 : Int), ()))))).2.2.2.1
  bif (v13 != (4294967295 : Int)) then (ke (.inl (false, ()))) else (let v14 : Int := (IntKind.wrap IntKind.i64 (x.2.2.1 + (1 : Int)))
  kn (x.1, (x.2.1, (v14, ()))))) else (none)) else (ke (.inr ()))
def bedrockref10_Final.l1 (k : Nat) : Nat → bedrockref10_Final.l1.σ → Option bedrockref10_Final.l1.τ := loopJ (bedrockref10_Final.l1.r k)
def bedrockref10_Final.l1.T : StT := ⟨us 37 ++ .dat (.sl (.pair (.arr 32 (.int .u8)) (.pair (.int .u32) (.pair .str (.pair (.int .u32) .unit))))) :: .dat (.int .i64) :: .dat (.int .i64) :: us 7, []⟩
def bedrockref10_Final.l1.os : List Out := [⟨.ret, [.mask [6], .auto 0], ⟨us 6 ++ .dat .bool :: us 40, []⟩⟩, ⟨(.exit 0), [.mask [], .auto 0], ⟨us 47, []⟩⟩]
def bedrockref10_Final.c (k : Nat) {ρ : Type} (t : (Int × ((List ((List Int) × (Int × (ByteArray × (Int × Unit))))) × ((List (Int × (ByteArray × Unit))) × (Int × Unit))))) (height : Int) (time : Int) (K : Bool × Unit → Option ρ) : Option ρ :=
  (bedrockref10_Final.p0 k (height, (time, ((t.1, (t.2.1, (t.2.2.1, (t.2.2.2.1, ())))), ())))).bind fun t8 => (match t8 with | .inl t9 => (K (t9.1, ())) | .inr (t10) => (let v11 : (List ((List Int) × (Int × (ByteArray × (Int × Unit))))) := t10.1.2.1
  let v12 : Int := (((List.length v11) : Nat) : Int)
  (bedrockref10_Final.l1 k k (v11, (v12, ((0 : Int), ())))).bind fun t15 => (match t15 with | .inl t16 => (K (t16.1, ())) | .inr (t17) => (K (true, ())))))
def bedrockref10_Final (k : Nat) (t : (Int × ((List ((List Int) × (Int × (ByteArray × (Int × Unit))))) × ((List (Int × (ByteArray × Unit))) × (Int × Unit))))) (height : Int) (time : Int) : Option (Bool × Unit) := bedrockref10_Final.c k t height time some
def bedrockref10_Final.tin : List Ty := [(.pair (.int .u32) (.pair (.sl (.pair (.arr 32 (.int .u8)) (.pair (.int .u32) (.pair .str (.pair (.int .u32) .unit))))) (.pair (.sl (.pair (.int .u64) (.pair .str .unit))) (.pair (.int .u32) .unit)))), (.int .i64), (.int .u32)]
def bedrockref10_Final.tout : List Ty := [.bool]
def bedrockref10_Final.sem (k : Nat) : CallSem := callPure bedrockref10_Final.tin bedrockref10_Final.tout fun x => bedrockref10_Final k x.1 x.2.1 x.2.2.1
noncomputable def bedrockref10_Final.ctx (k : Nat) : Ctx := ⟨Try.prog, gam []⟩
theorem bedrockref10_Final.gok (k : Nat) : ∀ f, SemOK Try.prog f ((bedrockref10_Final.ctx k).Γ f) := gam_nil
theorem bedrockref10_Final.p0.is (k : Nat) : PieceIs (bedrockref10_Final.ctx k) (codeAt (Func.code Try.f53) [1, 0]) (.nil) bedrockref10_Final.p0.T bedrockref10_Final.p0.os (bedrockref10_Final.p0.r k) := by
  intro ρ x K; kernel_rfl
theorem bedrockref10_Final.p0.ok (k : Nat) : StOK 0 Try.prog (codeAt (Func.code Try.f53) [1, 0]) (pieceSem bedrockref10_Final.p0.T bedrockref10_Final.p0.os (bedrockref10_Final.p0 k)) :=
  piece_ok (C := bedrockref10_Final.ctx k) (T := bedrockref10_Final.p0.T) (os := bedrockref10_Final.p0.os) (bedrockref10_Final.gok k) Try.mix (fun x K => bedrockref10_Final.p0.r k x K) AnnOK.nil (by kernel_rfl) (by kernel_rfl) (bedrockref10_Final.p0.is k)
theorem bedrockref10_Final.l1.round (k : Nat) : RoundIs (bedrockref10_Final.ctx k) (codeAt (Func.code Try.f53) [1, 1, 0, 1, 0, 0]) (.nil) bedrockref10_Final.l1.T [.mask [37, 38, 39], .auto 0] bedrockref10_Final.l1.os (bedrockref10_Final.l1.r k) := by
  intro ρ x kn ke; kernel_rfl
theorem bedrockref10_Final.l1.ok (k : Nat) : StOK 0 Try.prog (.loop (codeAt (Func.code Try.f53) [1, 1, 0, 1, 0, 0])) (pieceSem bedrockref10_Final.l1.T bedrockref10_Final.l1.os (bedrockref10_Final.l1 k k)) :=
  loop_ok (C := bedrockref10_Final.ctx k) (bedrockref10_Final.gok k) Try.mix AnnOK.nil (by kernel_rfl) (by kernel_rfl) (by kernel_rfl) (bedrockref10_Final.l1.round k) k
def bedrockref10_Final.ann (k : Nat) : Ann := .node [] none (.nil) (.node [] none (.node [.mask [1, 2, 3], .auto 0] (some (pieceSem bedrockref10_Final.p0.T bedrockref10_Final.p0.os (bedrockref10_Final.p0 k))) .nil .nil) (.node [] none (.node [] none (.nil) (.node [] none (.node [.mask [37, 38, 39], .auto 0] (some (pieceSem bedrockref10_Final.l1.T bedrockref10_Final.l1.os (bedrockref10_Final.l1 k k))) .nil .nil) (.nil))) (.nil)))
theorem bedrockref10_Final.body (k : Nat) : BodyIs (bedrockref10_Final.ctx k) Try.f53 (Func.code Try.f53) (bedrockref10_Final.ann k) bedrockref10_Final.tin bedrockref10_Final.tout (fun x K => bedrockref10_Final.c k x.1 x.2.1 x.2.2.1 K) := by
  intro ρ x K; kernel_rfl
theorem bedrockref10_Final.sem_ok (k : Nat) : SemOK Try.prog 53 (bedrockref10_Final.sem k) :=
  callPure_ok (C := bedrockref10_Final.ctx k) (bedrockref10_Final.gok k) Try.mix (c := Func.code Try.f53) (ann := bedrockref10_Final.ann k) (tin := bedrockref10_Final.tin) (tout := bedrockref10_Final.tout) (fun x K => bedrockref10_Final.c k x.1 x.2.1 x.2.2.1 K) Try.func53 (by kernel_rfl) (by kernel_rfl) (AnnOK.seq AnnOK.nil (AnnOK.seq (AnnOK.loop (by kernel_rfl) (bedrockref10_Final.p0.ok k)) (AnnOK.seq (AnnOK.seq AnnOK.nil (AnnOK.block (AnnOK.loop (by kernel_rfl) (bedrockref10_Final.l1.ok k)))) AnnOK.nil))) (bedrockref10_Final.body k)

/-! 11 bedrock/bedrocklaw10.TxOpens -/
abbrev bedrocklaw10_TxOpens.p0.σ : Type := ByteArray × ByteArray × ByteArray × Int × (Int × ((List (((List Int) × (Int × Unit)) × (ByteArray × (Int × Unit)))) × ((List (Int × (ByteArray × Unit))) × (Int × Unit)))) × (ByteArray × (Int × (Int × (Int × Unit)))) × Unit
abbrev bedrocklaw10_TxOpens.p0.τ : Type := (Bool × Unit) ⊕ (ByteArray × ByteArray × Int × (ByteArray × (Int × (Int × (Int × Unit)))) × Unit)
def bedrocklaw10_TxOpens.p0.r (k : Nat) {ρ : Type} (x : bedrocklaw10_TxOpens.p0.σ) (K : bedrocklaw10_TxOpens.p0.τ → Option ρ) : Option ρ :=
  (bedrocklaw10_awake k ).bind fun t5 => bif (!t5.1) then (K (.inl (false, ()))) else ((tx_Opens k x.2.1 x.1).bind fun t6 => (bedrockref10_Opens k x.2.1 x.1).bind fun t7 => bif (!(t6.1 == t7.1)) then (K (.inl (false, ()))) else (let v8 : Int := x.2.2.2.2.2.1.2.2.1
  let v9 : Int := x.2.2.2.2.2.1.2.2.2.1
  (tx_Final k (x.2.2.2.2.1.1, (x.2.2.2.2.1.2.1, (x.2.2.2.2.1.2.2.1, (x.2.2.2.2.1.2.2.2.1, ())))) v8 v9).bind fun t10 => (bedrocklaw10_given k (x.2.2.2.2.1.1, (x.2.2.2.2.1.2.1, (x.2.2.2.2.1.2.2.1, (x.2.2.2.2.1.2.2.2.1, ()))))).bind fun t11 => let v12 : Int := x.2.2.2.2.2.1.2.2.1
  let v13 : Int := (if ((0 : Int) > v12) then (0 : Int) else v12)
  let v14 : Int := x.2.2.2.2.2.1.2.2.2.1
  (bedrockref10_Final k (t11.1.1, (t11.1.2.1, (t11.1.2.2.1, (t11.1.2.2.2.1, ())))) v13 v14).bind fun t15 => bif (!(t10.1 == t15.1)) then (K (.inl (false, ()))) else (K (.inr (x.1, (x.2.2.1, (x.2.2.2.1, ((x.2.2.2.2.2.1.1, (x.2.2.2.2.2.1.2.1, (x.2.2.2.2.2.1.2.2.1, (x.2.2.2.2.2.1.2.2.2.1, ())))), ()))))))))
def bedrocklaw10_TxOpens.p0 (k : Nat) (x : bedrocklaw10_TxOpens.p0.σ) : Option bedrocklaw10_TxOpens.p0.τ := bedrocklaw10_TxOpens.p0.r k x some
def bedrocklaw10_TxOpens.p0.T : StT := ⟨.dat .str :: us 3 ++ .ptr 0 [] :: .ptr 1 [] :: us 1 ++ .dat .str :: .dat .str :: .dat (.int .i64) :: us 69, [.dat (.pair (.int .u32) (.pair (.sl (.pair (.pair (.arr 32 (.int .u8)) (.pair (.int .u32) .unit)) (.pair .str (.pair (.int .u32) .unit)))) (.pair (.sl (.pair (.int .u64) (.pair .str .unit))) (.pair (.int .u32) .unit)))), .dat (.pair .str (.pair (.int .i64) (.pair (.int .i64) (.pair (.int .u32) .unit))))]⟩
def bedrocklaw10_TxOpens.p0.os : List Out := [⟨.ret, [.mask [6], .auto 0], ⟨us 6 ++ .dat .bool :: us 72, []⟩⟩, ⟨.normal, [.mask [0, 5, 8, 9], .auto 0], ⟨.dat .str :: us 4 ++ .ptr 0 [] :: us 2 ++ .dat .str :: .dat (.int .i64) :: us 69, [.dat (.pair .str (.pair (.int .i64) (.pair (.int .i64) (.pair (.int .u32) .unit))))]⟩⟩]
abbrev bedrocklaw10_TxOpens.p1.σ : Type := ByteArray × ByteArray × Int × (ByteArray × (Int × (Int × (Int × Unit)))) × Unit
abbrev bedrocklaw10_TxOpens.p1.τ : Type := (Bool × Unit) ⊕ (ByteArray × ByteArray × Int × (ByteArray × (Int × (Int × (Int × Unit)))) × Unit)
def bedrocklaw10_TxOpens.p1.r (k : Nat) {ρ : Type} (x : bedrocklaw10_TxOpens.p1.σ) (K : bedrocklaw10_TxOpens.p1.τ → Option ρ) : Option ρ :=
  let v19 : Int := x.2.2.2.1.2.1
  bif (decide (v19 < (0 : Int))) then (bif (strEq x.2.1 (⟨(List.toArray [])⟩ : ByteArray)) then (K (.inl ((x.2.2.1 == (1 : Int)), ()))) else (K (.inl (false, ())))) else (let v20 : Int := x.2.2.2.1.2.1
  bif (decide (v20 > (32 : Int))) then (bif (strEq x.2.1 (⟨(List.toArray [])⟩ : ByteArray)) then (K (.inl ((x.2.2.1 == (1 : Int)), ()))) else (K (.inl (false, ())))) else (K (.inr (x.1, (x.2.1, (x.2.2.1, ((x.2.2.2.1.1, (x.2.2.2.1.2.1, (x.2.2.2.1.2.2.1, (x.2.2.2.1.2.2.2.1, ())))), ())))))))
def bedrocklaw10_TxOpens.p1 (k : Nat) (x : bedrocklaw10_TxOpens.p1.σ) : Option bedrocklaw10_TxOpens.p1.τ := bedrocklaw10_TxOpens.p1.r k x some
def bedrocklaw10_TxOpens.p1.T : StT := ⟨.dat .str :: us 4 ++ .ptr 0 [] :: us 2 ++ .dat .str :: .dat (.int .i64) :: us 69, [.dat (.pair .str (.pair (.int .i64) (.pair (.int .i64) (.pair (.int .u32) .unit))))]⟩
def bedrocklaw10_TxOpens.p1.os : List Out := [⟨.ret, [.mask [6], .auto 0], ⟨us 6 ++ .dat .bool :: us 72, []⟩⟩, ⟨.normal, [.mask [0, 5, 8, 9], .auto 0], ⟨.dat .str :: us 4 ++ .ptr 0 [] :: us 2 ++ .dat .str :: .dat (.int .i64) :: us 69, [.dat (.pair .str (.pair (.int .i64) (.pair (.int .i64) (.pair (.int .u32) .unit))))]⟩⟩]
def bedrocklaw10_TxOpens.c (k : Nat) {ρ : Type} (key : ByteArray) (t : (Int × ((List (((List Int) × (Int × Unit)) × (ByteArray × (Int × Unit)))) × ((List (Int × (ByteArray × Unit))) × (Int × Unit))))) (x_2 : (ByteArray × (Int × (Int × (Int × Unit))))) (K : Bool × Unit → Option ρ) : Option ρ :=
  let v0 : ByteArray := x_2.1
  let v1 : Int := x_2.2.1
  (tx_Lock k key v1).bind fun t2 => let v3 : ByteArray := t2.1
  let v4 : Int := t2.2.1
  (bedrocklaw10_TxOpens.p0 k (key, (v0, (v3, (v4, ((t.1, (t.2.1, (t.2.2.1, (t.2.2.2.1, ())))), ((x_2.1, (x_2.2.1, (x_2.2.2.1, (x_2.2.2.2.1, ())))), ()))))))).bind fun t16 => (match t16 with | .inl t17 => (K (t17.1, ())) | .inr (t18) => ((bedrocklaw10_TxOpens.p1 k (t18.1, (t18.2.1, (t18.2.2.1, ((t18.2.2.2.1.1, (t18.2.2.2.1.2.1, (t18.2.2.2.1.2.2.1, (t18.2.2.2.1.2.2.2.1, ())))), ()))))).bind fun t21 => (match t21 with | .inl t22 => (K (t22.1, ())) | .inr (t23) => ((bedrockref02_Twice k t23.1).bind fun t24 => let v25 : Int := t23.2.2.2.1.2.1
  bif (decide (((0 : Int) ≤ (0 : Int)) ∧ (((0 : Int) ≤ v25) ∧ (v25 ≤ ((32 : Nat) : Int))))) then (let v26 : ByteArray := (bytesOf (List.take (Int.toNat (v25 - (0 : Int))) (List.drop 0 t24.1)))
  bif (strEq t23.2.1 v26) then (bif (t23.2.2.1 == (0 : Int)) then ((tx_Opens k t23.2.1 t23.1).bind fun t27 => K (t27.1, ())) else (K (false, ()))) else (K (false, ()))) else (none)))))
def bedrocklaw10_TxOpens (k : Nat) (key : ByteArray) (t : (Int × ((List (((List Int) × (Int × Unit)) × (ByteArray × (Int × Unit)))) × ((List (Int × (ByteArray × Unit))) × (Int × Unit))))) (x_2 : (ByteArray × (Int × (Int × (Int × Unit))))) : Option (Bool × Unit) := bedrocklaw10_TxOpens.c k key t x_2 some
def bedrocklaw10_TxOpens.tin : List Ty := [.str, (.pair (.int .u32) (.pair (.sl (.pair (.pair (.arr 32 (.int .u8)) (.pair (.int .u32) .unit)) (.pair .str (.pair (.int .u32) .unit)))) (.pair (.sl (.pair (.int .u64) (.pair .str .unit))) (.pair (.int .u32) .unit)))), (.pair .str (.pair (.int .i64) (.pair (.int .i64) (.pair (.int .u32) .unit))))]
def bedrocklaw10_TxOpens.tout : List Ty := [.bool]
def bedrocklaw10_TxOpens.sem (k : Nat) : CallSem := callPure bedrocklaw10_TxOpens.tin bedrocklaw10_TxOpens.tout fun x => bedrocklaw10_TxOpens k x.1 x.2.1 x.2.2.1
noncomputable def bedrocklaw10_TxOpens.ctx (k : Nat) : Ctx := ⟨Try.prog, gam [(49, (tx_Lock.sem k)), (21, (bedrocklaw10_awake.sem k)), (50, (tx_Opens.sem k)), (51, (bedrockref10_Opens.sem k)), (52, (tx_Final.sem k)), (23, (bedrocklaw10_given.sem k)), (53, (bedrockref10_Final.sem k)), (54, (bedrockref02_Twice.sem k))]⟩
theorem bedrocklaw10_TxOpens.gok (k : Nat) : ∀ f, SemOK Try.prog f ((bedrocklaw10_TxOpens.ctx k).Γ f) := (gam_cons (tx_Lock.sem_ok k) (gam_cons (bedrocklaw10_awake.sem_ok k) (gam_cons (tx_Opens.sem_ok k) (gam_cons (bedrockref10_Opens.sem_ok k) (gam_cons (tx_Final.sem_ok k) (gam_cons (bedrocklaw10_given.sem_ok k) (gam_cons (bedrockref10_Final.sem_ok k) (gam_cons (bedrockref02_Twice.sem_ok k) gam_nil))))))))
theorem bedrocklaw10_TxOpens.p0.is (k : Nat) : PieceIs (bedrocklaw10_TxOpens.ctx k) (codeAt (Func.code Try.f11) [1, 1, 1, 0]) (.nil) bedrocklaw10_TxOpens.p0.T bedrocklaw10_TxOpens.p0.os (bedrocklaw10_TxOpens.p0.r k) := by
  intro ρ x K; kernel_rfl
theorem bedrocklaw10_TxOpens.p0.ok (k : Nat) : StOK 0 Try.prog (codeAt (Func.code Try.f11) [1, 1, 1, 0]) (pieceSem bedrocklaw10_TxOpens.p0.T bedrocklaw10_TxOpens.p0.os (bedrocklaw10_TxOpens.p0 k)) :=
  piece_ok (C := bedrocklaw10_TxOpens.ctx k) (T := bedrocklaw10_TxOpens.p0.T) (os := bedrocklaw10_TxOpens.p0.os) (bedrocklaw10_TxOpens.gok k) Try.mix (fun x K => bedrocklaw10_TxOpens.p0.r k x K) AnnOK.nil (by kernel_rfl) (by kernel_rfl) (bedrocklaw10_TxOpens.p0.is k)
theorem bedrocklaw10_TxOpens.p1.is (k : Nat) : PieceIs (bedrocklaw10_TxOpens.ctx k) (codeAt (Func.code Try.f11) [1, 1, 1, 1, 0]) (.nil) bedrocklaw10_TxOpens.p1.T bedrocklaw10_TxOpens.p1.os (bedrocklaw10_TxOpens.p1.r k) := by
  intro ρ x K; kernel_rfl
theorem bedrocklaw10_TxOpens.p1.ok (k : Nat) : StOK 0 Try.prog (codeAt (Func.code Try.f11) [1, 1, 1, 1, 0]) (pieceSem bedrocklaw10_TxOpens.p1.T bedrocklaw10_TxOpens.p1.os (bedrocklaw10_TxOpens.p1 k)) :=
  piece_ok (C := bedrocklaw10_TxOpens.ctx k) (T := bedrocklaw10_TxOpens.p1.T) (os := bedrocklaw10_TxOpens.p1.os) (bedrocklaw10_TxOpens.gok k) Try.mix (fun x K => bedrocklaw10_TxOpens.p1.r k x K) AnnOK.nil (by kernel_rfl) (by kernel_rfl) (bedrocklaw10_TxOpens.p1.is k)
def bedrocklaw10_TxOpens.ann (k : Nat) : Ann := .node [] none (.nil) (.node [] none (.nil) (.node [] none (.nil) (.node [] none (.node [.mask [0, 4, 5, 7, 8, 9], .auto 0] (some (pieceSem bedrocklaw10_TxOpens.p0.T bedrocklaw10_TxOpens.p0.os (bedrocklaw10_TxOpens.p0 k))) .nil .nil) (.node [] none (.node [.mask [0, 5, 8, 9], .auto 0] (some (pieceSem bedrocklaw10_TxOpens.p1.T bedrocklaw10_TxOpens.p1.os (bedrocklaw10_TxOpens.p1 k))) .nil .nil) (.nil)))))
theorem bedrocklaw10_TxOpens.body (k : Nat) : BodyIs (bedrocklaw10_TxOpens.ctx k) Try.f11 (Func.code Try.f11) (bedrocklaw10_TxOpens.ann k) bedrocklaw10_TxOpens.tin bedrocklaw10_TxOpens.tout (fun x K => bedrocklaw10_TxOpens.c k x.1 x.2.1 x.2.2.1 K) := by
  intro ρ x K; kernel_rfl
theorem bedrocklaw10_TxOpens.sem_ok (k : Nat) : SemOK Try.prog 11 (bedrocklaw10_TxOpens.sem k) :=
  callPure_ok (C := bedrocklaw10_TxOpens.ctx k) (bedrocklaw10_TxOpens.gok k) Try.mix (c := Func.code Try.f11) (ann := bedrocklaw10_TxOpens.ann k) (tin := bedrocklaw10_TxOpens.tin) (tout := bedrocklaw10_TxOpens.tout) (fun x K => bedrocklaw10_TxOpens.c k x.1 x.2.1 x.2.2.1 K) Try.func11 (by kernel_rfl) (by kernel_rfl) (AnnOK.seq AnnOK.nil (AnnOK.seq AnnOK.nil (AnnOK.seq AnnOK.nil (AnnOK.seq (AnnOK.loop (by kernel_rfl) (bedrocklaw10_TxOpens.p0.ok k)) (AnnOK.seq (AnnOK.loop (by kernel_rfl) (bedrocklaw10_TxOpens.p1.ok k)) AnnOK.nil))))) (bedrocklaw10_TxOpens.body k)

end Go.Am
/- TxOpens: the law. -/
namespace Go.Am
open Go

/-- The bytes that a key opens. -/
def lockS (key : ByteArray) : List Int := sumL (sumL (ofBytes key))
theorem lockS_length (key : ByteArray) : (lockS key).length = 32 := sumL_length _
theorem lockS_in (key : ByteArray) : bytesIn (lockS key) := fun x hx => by have := sumL_in _ x hx; omega
def opensS (lock key : ByteArray) : Bool := decide (lock.size ≤ 32 ∧ lock = bytesOf ((lockS key).take lock.size))

theorem tx_Opens_eq {k : Nat} (hk : 128 < k) {lock key : ByteArray} (h : key.size ≤ 140737488354000) (hf : key.size / 64 + 1 < k) : tx_Opens k lock key = some (opensS lock key, ()) := by
  unfold tx_Opens tx_Opens.c opensS
  by_cases c : lock.size ≤ 32
  · rw [bif_no (by omega), sha_Twice_eq hk h hf]
    simp only [Option.bind_some]
    rw [bif_yes (by omega), show ((lock.size : Int) - 0).toNat = lock.size by omega, List.drop_zero, strEq_dec]
    congr 2
    exact decide_eq_decide.2 ⟨fun h => ⟨c, h⟩, fun h => h.2⟩
  · rw [bif_yes (by omega), decide_eq_false (fun h => c h.1)]
theorem ref10_Opens_eq {k : Nat} (hk : 128 < k) {lock key : ByteArray} (h : key.size ≤ 140737488354000) (hf : key.size / 64 + 2 < k) : bedrockref10_Opens k lock key = some (opensS lock key, ()) := by
  unfold bedrockref10_Opens bedrockref10_Opens.c opensS
  by_cases c0 : lock = (⟨List.toArray []⟩ : ByteArray)
  · rw [c0, strEq_self, cond_true, decide_eq_true]
    refine ⟨by decide, ?_⟩
    have : (⟨List.toArray []⟩ : ByteArray).size = 0 := rfl
    rw [this, List.take_zero]
    rfl
  · rw [strEq_false c0, cond_false, ref_Twice_eq hk h hf]
    simp only [Option.bind_some]
    by_cases c : lock.size ≤ 32
    · rw [bif_yes (by omega), bif_yes (by omega), show ((lock.size : Int) - 0).toNat = lock.size by omega, List.drop_zero, strEq_dec]
      congr 2
      exact decide_eq_decide.2 ⟨fun h => ⟨c, h.symm⟩, fun h => h.2.symm⟩
    · rw [bif_no (by omega), decide_eq_false (fun h => c h.1)]

/-- May a transaction stand at a height and a time? -/
def finalS (t : TTx) (h tm : Int) : Bool :=
  decide (t.2.2.2.1 = 0 ∨ t.2.2.2.1 < (if t.2.2.2.1 ≥ 500000000 then tm else h)) || decide (∀ i, i < t.2.1.length → decide ((t.2.1.getD i dIn).2.2.1 = 4294967295) = true)

theorem tx_Final_eq {k : Nat} {t : TTx} (ht : TxOK t) (hk : t.2.1.length + 5 ≤ k) {h tm : Int} (hh : -9223372036854775808 ≤ h ∧ h ≤ 9223372036854775807) (htm : u32R tm) :
    tx_Final k t h tm = some (finalS t (if (0 : Int) > h then 0 else h) tm, ()) := by
  obtain ⟨v, ins, outs, T, u⟩ := t
  obtain ⟨_, hT, _, _, hni, _⟩ := ht
  dsimp only at hT hni hk
  unfold tx_Final tx_Final.c
  dsimp only
  generalize hH : (if (0 : Int) > h then 0 else h) = H
  have hH2 : 0 ≤ H ∧ H ≤ 9223372036854775807 := by rw [← hH]; split <;> omega
  have h1 := hT.1
  have h2 := hT.2
  have h3 := htm.1
  have h4 := htm.2
  rw [u64_in (n := H) (by omega)]
  have p0 : tx_Final.p0 k (tm, H, (v, ins, outs, T, ()), ()) = some ((if T ≥ 500000000 then tm else H), (v, ins, outs, T, ()), ()) := by
    unfold tx_Final.p0
    simp only [tx_Final.p0.r]
    by_cases c : T ≥ 500000000
    · rw [bif_yes c, if_pos c, u64_in (by omega)]
    · rw [bif_no c, if_neg c]
  rw [p0]
  simp only [Option.bind_some]
  generalize hA : (if T ≥ 500000000 then tm else H) = A
  have p1 : tx_Final.p1 k (A, (v, ins, outs, T, ()), ()) = some (if T = 0 ∨ T < A then .inl (true, ()) else .inr ((v, ins, outs, T, ()), ())) := by
    unfold tx_Final.p1
    simp only [tx_Final.p1.r]
    by_cases c : T = 0
    · rw [cond_true' (by simpa using c), if_pos (.inl c)]
    · rw [cond_false' (by simpa using c), u64_in (by omega)]
      by_cases c2 : T < A
      · rw [bif_yes c2, if_pos (.inr c2)]
      · rw [bif_no c2, if_neg (by omega)]
  rw [p1]
  simp only [Option.bind_some]
  unfold finalS
  dsimp only
  rw [hA]
  by_cases c : T = 0 ∨ T < A
  · rw [if_pos c, decide_eq_true c]
    rfl
  · rw [if_neg c, decide_eq_false c, Bool.false_or]
    dsimp only
    have l2 : tx_Final.l2 k k (ins, (ins.length : Int), (0 : Int), ()) = some (if ∀ i, i < ins.length → decide ((ins.getD i dIn).2.2.1 = 4294967295) = true then .inr () else .inl (false, ())) := by
      refine loop_find (r := tx_Final.l2.r k) (fun i => (ins, (ins.length : Int), (i : Int), ())) ins.length _ _ (fun i => decide ((ins.getD i dIn).2.2.1 = 4294967295)) ?_ ?_ ?_ (by omega)
      · intro i h hp kn ke
        simp only [tx_Final.l2.r]
        have hq := of_decide_eq_true hp
        rw [dIn_eq, bif_yes (by omega), bif_yes (by omega), show (i : Int).toNat = i by omega, cond_false' (by rw [hq]; rfl), i64_in (by omega)]
        rfl
      · intro i h hp kn ke
        simp only [tx_Final.l2.r]
        have hq := of_decide_eq_false hp
        rw [dIn_eq, bif_yes (by omega), bif_yes (by omega), show (i : Int).toNat = i by omega, cond_true' (by simpa using hq)]
      · intro kn ke
        simp only [tx_Final.l2.r]
        rw [bif_no (by omega)]
    rw [l2]
    simp only [Option.bind_some]
    by_cases d : ∀ i, i < ins.length → decide ((ins.getD i dIn).2.2.1 = 4294967295) = true
    · rw [if_pos d, decide_eq_true d]
    · rw [if_neg d, decide_eq_false d]

theorem gIn_getD' {l : List TIn} {i : Nat} (h : i < l.length) : (l.map gIn).getD i dR = gIn (l.getD i dIn) := by
  rw [List.getD_eq_getElem?_getD, List.getD_eq_getElem?_getD, List.getElem?_map, List.getElem?_eq_getElem h]
  rfl

theorem ref10_Final_eq {k : Nat} {t : TTx} (ht : TxOK t) (hk : t.2.1.length + 5 ≤ k) {H tm : Int} (hH2 : 0 ≤ H ∧ H ≤ 9223372036854775807) (htm : u32R tm) :
    bedrockref10_Final k (gTx t) H tm = some (finalS t H tm, ()) := by
  obtain ⟨v, ins, outs, T, u⟩ := t
  obtain ⟨_, hT, _, _, hni, _⟩ := ht
  dsimp only at hT hni hk
  unfold bedrockref10_Final bedrockref10_Final.c
  have h1 := hT.1
  have h2 := hT.2
  have h3 := htm.1
  have h4 := htm.2
  have p0 : bedrockref10_Final.p0 k (H, tm, (v, ins.map gIn, outs, T, ()), ()) = some (if T = 0 ∨ T < (if T ≥ 500000000 then tm else H) then .inl (true, ()) else .inr ((v, ins.map gIn, outs, T, ()), ())) := by
    unfold bedrockref10_Final.p0
    simp only [bedrockref10_Final.p0.r]
    by_cases c : T = 0
    · rw [cond_true' (by simpa using c), if_pos (.inl c)]
    · rw [cond_false' (by simpa using c), u64_in (n := T) (by omega), u64_in (n := H) (by omega)]
      by_cases c1 : T < 500000000
      · rw [bif_yes c1, if_neg (show ¬ T ≥ 500000000 by omega)]
        by_cases c2 : T < H
        · rw [bif_yes c2, if_pos (.inr c2)]
        · rw [bif_no c2, bif_no (by omega), if_neg (by omega)]
      · rw [bif_no c1, if_pos (show T ≥ 500000000 by omega), bif_yes (by omega)]
        by_cases c2 : T < tm
        · rw [bif_yes c2, if_pos (.inr c2)]
        · rw [bif_no c2, if_neg (by omega)]
  show (bedrockref10_Final.p0 k (H, tm, (v, ins.map gIn, outs, T, ()), ())).bind _ = _
  rw [p0]
  simp only [Option.bind_some]
  unfold finalS
  dsimp only
  by_cases c : T = 0 ∨ T < (if T ≥ 500000000 then tm else H)
  · rw [if_pos c, decide_eq_true c]
    rfl
  · rw [if_neg c, decide_eq_false c, Bool.false_or]
    dsimp only
    rw [List.length_map]
    have l2 : bedrockref10_Final.l1 k k (ins.map gIn, (ins.length : Int), (0 : Int), ()) = some (if ∀ i, i < ins.length → decide ((ins.getD i dIn).2.2.1 = 4294967295) = true then .inr () else .inl (false, ())) := by
      refine loop_find (r := bedrockref10_Final.l1.r k) (fun i => (ins.map gIn, (ins.length : Int), (i : Int), ())) ins.length _ _ (fun i => decide ((ins.getD i dIn).2.2.1 = 4294967295)) ?_ ?_ ?_ (by omega)
      · intro i h hp kn ke
        simp only [bedrockref10_Final.l1.r]
        have hq := of_decide_eq_true hp
        rw [dR_eq, bif_yes (by omega), bif_yes (by rw [List.length_map]; omega), show (i : Int).toNat = i by omega, gIn_getD' h, cond_false' (by show ((ins.getD i dIn).2.2.1 != 4294967295) = false; rw [hq]; rfl), i64_in (by omega)]
        rfl
      · intro i h hp kn ke
        simp only [bedrockref10_Final.l1.r]
        have hq := of_decide_eq_false hp
        rw [dR_eq, bif_yes (by omega), bif_yes (by rw [List.length_map]; omega), show (i : Int).toNat = i by omega, gIn_getD' h, cond_true' (by show ((ins.getD i dIn).2.2.1 != 4294967295) = true; simpa using hq)]
      · intro kn ke
        simp only [bedrockref10_Final.l1.r]
        rw [bif_no (by omega)]
    rw [l2]
    simp only [Option.bind_some]
    by_cases d : ∀ i, i < ins.length → decide ((ins.getD i dIn).2.2.1 = 4294967295) = true
    · rw [if_pos d, decide_eq_true d]
    · rw [if_neg d, decide_eq_false d]

theorem txOpens_true {key : ByteArray} (hkey : key.size ≤ 140737488351232) {t : TTx} (ht : TxOK t) (hi : t.2.1.length ≤ 2199023255552) (ho : t.2.2.1.length ≤ 5864062014805) {lock : ByteArray} {n h tm : Int}
    (hh : -9223372036854775808 ≤ h ∧ h ≤ 9223372036854775807) (htm : u32R tm) : bedrocklaw10_TxOpens (key.size + t.2.1.length + t.2.2.1.length + 10000) key t (lock, n, h, tm, ()) = some (true, ()) := by
  unfold bedrocklaw10_TxOpens bedrocklaw10_TxOpens.c
  generalize hk : key.size + t.2.1.length + t.2.2.1.length + 10000 = k
  dsimp only
  have hL := lockS_length key
  -- what Lock answers
  obtain ⟨l, e, hLock, hle⟩ : ∃ l e, tx_Lock k key n = some (l, e, ()) ∧ ((n < 0 ∨ n > 32) ∧ l = (⟨List.toArray []⟩ : ByteArray) ∧ e = 1 ∨ (0 ≤ n ∧ n ≤ 32) ∧ l = bytesOf ((lockS key).take n.toNat) ∧ e = 0) := by
    unfold tx_Lock tx_Lock.c
    by_cases c1 : n < 0
    · exact ⟨_, _, by rw [bif_yes c1], .inl ⟨.inl c1, rfl, rfl⟩⟩
    · by_cases c2 : n > 32
      · exact ⟨_, _, by rw [bif_no c1, bif_yes c2], .inl ⟨.inr c2, rfl, rfl⟩⟩
      · refine ⟨_, _, ?_, .inr ⟨⟨by omega, by omega⟩, rfl, rfl⟩⟩
        rw [bif_no c1, bif_no c2, sha_Twice_eq (by omega) (by omega) (by omega)]
        simp only [Option.bind_some]
        rw [bif_yes (by omega), show (n - 0).toNat = n.toNat by omega, List.drop_zero]
        rfl
  rw [hLock]
  simp only [Option.bind_some]
  have hp0 : bedrocklaw10_TxOpens.p0 k (key, lock, l, e, t, (lock, n, h, tm, ()), ()) = some (.inr (key, l, e, (lock, n, h, tm, ()), ())) := by
    unfold bedrocklaw10_TxOpens.p0
    simp only [bedrocklaw10_TxOpens.p0.r]
    rw [awake10 (by omega)]
    simp only [Option.bind_some, Bool.not_true, cond_false]
    rw [tx_Opens_eq (by omega) (by omega) (by omega)]
    simp only [Option.bind_some]
    rw [ref10_Opens_eq (by omega) (by omega) (by omega)]
    simp only [Option.bind_some, beq_self_eq_true, Bool.not_true, cond_false]
    show (tx_Final k t h tm).bind _ = _
    rw [tx_Final_eq ht (by omega) hh htm]
    simp only [Option.bind_some]
    show (bedrocklaw10_given k t).bind _ = _
    rw [given_eq hi ho (by omega)]
    simp only [Option.bind_some]
    show (bedrockref10_Final k (gTx t) (if (0 : Int) > h then 0 else h) tm).bind _ = _
    rw [ref10_Final_eq ht (by omega) (by split <;> omega) htm]
    simp only [Option.bind_some, beq_self_eq_true, Bool.not_true, cond_false]
  show (bedrocklaw10_TxOpens.p0 k (key, lock, l, e, t, (lock, n, h, tm, ()), ())).bind _ = _
  rw [hp0]
  simp only [Option.bind_some]
  unfold bedrocklaw10_TxOpens.p1
  simp only [bedrocklaw10_TxOpens.p1.r]
  rcases hle with ⟨hn, rfl, rfl⟩ | ⟨hn, rfl, rfl⟩
  · rw [strEq_self]
    rcases hn with hn | hn
    · rw [bif_yes hn]; rfl
    · rw [bif_no (by omega), bif_yes hn]; rfl
  · rw [bif_no (by omega), bif_no (by omega)]
    simp only [Option.bind_some]
    rw [ref_Twice_eq (by omega) (by omega) (by omega)]
    simp only [Option.bind_some]
    rw [bif_yes (by omega), show (n - 0).toNat = n.toNat by omega, List.drop_zero]
    show (bif strEq (bytesOf ((lockS key).take n.toNat)) (bytesOf ((lockS key).take n.toNat)) then _ else _) = _
    rw [strEq_self, cond_true, show ((0 : Int) == 0) = true from rfl, cond_true, tx_Opens_eq (by omega) (by omega) (by omega)]
    simp only [Option.bind_some]
    have hsz : (bytesOf ((lockS key).take n.toNat)).size = n.toNat := by rw [bytesOf_size, List.length_take]; omega
    unfold opensS
    rw [decide_eq_true ⟨by omega, by rw [hsz]⟩]
end Go.Am
/- What the rows on transactions share. -/
namespace Go.Am
open Go

abbrev inTy : Ty := .pair (.pair (.arr 32 (.int .u8)) (.pair (.int .u32) .unit)) (.pair .str (.pair (.int .u32) .unit))
abbrev outTy : Ty := .pair (.int .u64) (.pair .str .unit)
abbrev txTy : Ty := .pair (.int .u32) (.pair (.sl inTy) (.pair (.sl outTy) (.pair (.int .u32) .unit)))
theorem hash_wf {N : Nat} {l : List Int} (h : WF N (.arr 32 (.int .u8)) l) : l.length = 32 ∧ bytesIn l :=
  ⟨h.1, all_getD (p := fun x => 0 ≤ x ∧ x < 256) fun i hi => by
    have := wf_u8 (h.2 i (by have := h.1; omega))
    have e : l.getD i (Ty.zero (.int .u8)) = l.getD i 0 := rfl
    rw [e] at this
    omega⟩
theorem u32_wf {N : Nat} {x : Int} (h : WF N (.int .u32) x) : u32R x := wf_u32 h
theorem inOK_of {N : Nat} {x : TIn} (h : WF N inTy x) : InOK x := ⟨hash_wf h.1.1, u32_wf (N := N) h.1.2.1, u32_wf (N := N) h.2.2.1⟩
theorem outOK_of {N : Nat} {x : TOut} (h : WF N outTy x) : OutOK x := wf_u64 h.1
theorem txOK_of {N : Nat} (hN : N ≤ 140737488355328) {t : TTx} (h : WF N txTy t) : TxOK t where
  v := u32_wf (N := N) h.1
  tm := u32_wf (N := N) h.2.2.2.1
  ins := fun i hi => inOK_of (h.2.1.2 i hi)
  outs := fun i hi => outOK_of (h.2.2.1.2 i hi)
  nin := Nat.le_trans h.2.1.1 hN
  nout := Nat.le_trans h.2.2.1.1 hN
end Go.Am
/- What the weights say of a slice's length. -/
namespace Go.Am
open Go
variable {H : Type} {P : Program}
theorem sl_len {T e : TypeId} {N : Nat} {t : Ty} {xs : (Ty.sl t).den} {d : DataW H} (hu : P.underlying T = some (.slice e)) (hr : RD (.sl t) xs d) (hw : ∀ w ∈ d.weights P T, w ≤ N) : xs.length * P.bytesOf e ≤ N := by
  rcases hr with ⟨rfl, rfl⟩ | ⟨es, sp, rfl, h1, h2⟩
  · simp
  · simp only [DataW.weights, hu] at hw
    have h3 := hw ((es.length + sp.length) * P.bytesOf e) (by simp)
    have h4 : es.length * P.bytesOf e ≤ (es.length + sp.length) * P.bytesOf e := Nat.mul_le_mul_right _ (Nat.le_add_right _ _)
    rw [show xs.length = es.length by first | exact h1 | exact h1.symm]
    exact Nat.le_trans h4 h3
theorem tx_len {T T0 T1 T2 T3 e1 e2 : TypeId} {fs : Array Field} {N : Nat} {t : TTx} {d : DataW H} (hu : P.underlying T = some (.struct fs)) (hf : fs.toList.map (·.type) = [T0, T1, T2, T3])
    (h1 : P.underlying T1 = some (.slice e1)) (h2 : P.underlying T2 = some (.slice e2)) (hr : RD txTy t d) (hw : ∀ w ∈ d.weights P T, w ≤ N) : t.2.1.length * P.bytesOf e1 ≤ N ∧ t.2.2.1.length * P.bytesOf e2 ≤ N := by
  obtain ⟨d0, r0, rfl, _, d1, r1, hd1, hr1, d2, r2, hd2, hr2, _⟩ := hr
  cases hd1
  cases hd2
  simp only [DataW.weights, hu, hf, DataW.weightsEach, List.mem_append] at hw
  exact ⟨sl_len h1 hr1 fun w h => hw w (.inr (.inl h)), sl_len h2 hr2 fun w h => hw w (.inr (.inr (.inl h)))⟩
/-- The weights of the second of some arguments. -/
theorem each_snd {T0 T1 : TypeId} {Ts : List TypeId} {d0 d1 : DataW H} {ds gs : List (DataW H)} {ps vs : List TypeId} (hp : ps = T0 :: T1 :: Ts) {N : Nat} (h : (DataW.weightsEach P (ps ++ vs) ((d0 :: d1 :: ds) ++ gs)).all (· ≤ N) = true) : ∀ w ∈ d1.weights P T1, w ≤ N := by
  subst hp
  simp only [List.cons_append, DataW.weightsEach, List.all_append, Bool.and_eq_true, List.all_eq_true, decide_eq_true_eq] at h
  exact h.2.1
/-- Is a type a transaction's, its inputs of 64 bytes and its outputs of 24? -/
def txLens (P : Program) (T : TypeId) : Bool :=
  match P.underlying T with
  | some (.struct fs) => match fs.toList.map (·.type) with
    | [_, a, b, _] => match P.underlying a, P.underlying b with
      | some (.slice e1), some (.slice e2) => P.bytesOf e1 == 64 && P.bytesOf e2 == 24
      | _, _ => false
    | _ => false
  | _ => false
theorem txLens_ok {T : TypeId} (h : txLens P T = true) {N : Nat} {t : TTx} {d : DataW H} (hr : RD txTy t d) (hw : ∀ w ∈ d.weights P T, w ≤ N) : t.2.1.length * 64 ≤ N ∧ t.2.2.1.length * 24 ≤ N := by
  unfold txLens at h
  split at h
  · rename_i fs hu
    split at h
    · rename_i T0 a b T3 hf
      split at h
      · rename_i e1 e2 h1 h2
        simp only [Bool.and_eq_true, beq_iff_eq] at h
        have := tx_len hu hf h1 h2 hr hw
        rw [h.1, h.2] at this
        exact this
      · cases h
    · cases h
  · cases h
def sndLens (P : Program) : List TypeId → Bool
  | _ :: T1 :: _ => txLens P T1
  | _ => false
theorem sndLens_ok {ps vs : List TypeId} (hp : sndLens P ps = true) {N : Nat} {ts : List Ty} {t0 : Ty} {x : dens (t0 :: txTy :: ts)} {ds gs : List (DataW H)} (hd : RDa (t0 :: txTy :: ts) x ds) (h : (DataW.weightsEach P (ps ++ vs) (ds ++ gs)).all (· ≤ N) = true) : x.2.1.2.1.length * 64 ≤ N ∧ x.2.1.2.2.1.length * 24 ≤ N := by
  obtain ⟨d0, r0, rfl, h0, d1, r1, rfl, h1, _⟩ := hd
  match ps, hp with
  | T0 :: T1 :: Ts, hp => exact txLens_ok hp h1 (each_snd rfl h)
end Go.Am
