/- A part of a proof: a machine of abstract values that tells what functions of the program compute, and the plain facts on them. -/
import Derived.Test.YtpcjmcpghhmidaaAm11
import Derived.KernelRfl
import Derived.Lib.Bytealg
import Derived.Test.YtpcjmcpghhmidaaAm6
import Derived.Test.YtpcjmcpghhmidaaAm10
set_option linter.unusedVariables false
set_option linter.unusedSimpArgs false
set_option linter.unnecessarySimpa false
set_option linter.unusedSectionVars false
namespace Go.Am
open Go Go.Proofs
set_option maxRecDepth 100000
/-! 40 bedrock/tx.Points -/
abbrev tx_Points.l0.σ : Type := (List (((List Int) × (Int × Unit)) × (ByteArray × (Int × Unit)))) × Int × Int × (List ((List Int) × (Int × Unit))) × Unit
abbrev tx_Points.l0.τ : Type := ((List ((List Int) × (Int × Unit))) × Unit)
def tx_Points.l0.r (k : Nat) {ρ : Type} (x : tx_Points.l0.σ) (kn : tx_Points.l0.σ → Option ρ) (ke : tx_Points.l0.τ → Option ρ) : Option ρ :=
  bif (decide (x.2.2.1 < x.2.1)) then (bif (decide (((0 : Int) ≤ x.2.2.1) ∧ (x.2.2.1 < (((List.length x.1) : Nat) : Int)))) then (bif (Nat.ble (((List.length x.2.2.2.1) + (List.length (List.set (List.replicate 1 ((List.replicate 32 (0 : Int)), ((0 : Int), ()))) 0 ((List.getD x.1 (Int.toNat x.2.2.1) (((List.replicate 32 (0 : Int)), ((0 : Int), ())), (ByteArray.empty, ((0 : Int), ())))).1.1, ((List.getD x.1 (Int.toNat x.2.2.1) (((List.replicate 32 (0 : Int)), ((0 : Int), ())), (ByteArray.empty, ((0 : Int), ())))).1.2.1, ()))))) * 36) 140737488355328) then (let v2 : Int := (IntKind.wrap IntKind.i64 (x.2.2.1 + (1 : Int)))
  kn (x.1, (x.2.1, (v2, ((x.2.2.2.1 ++ (List.set (List.replicate 1 ((List.replicate 32 (0 : Int)), ((0 : Int), ()))) 0 ((List.getD x.1 (Int.toNat x.2.2.1) (((List.replicate 32 (0 : Int)), ((0 : Int), ())), (ByteArray.empty, ((0 : Int), ())))).1.1, ((List.getD x.1 (Int.toNat x.2.2.1) (((List.replicate 32 (0 : Int)), ((0 : Int), ())), (ByteArray.empty, ((0 : Int), ())))).1.2.1, ())))), ()))))) else (none)) else (none)) else (ke (x.2.2.2.1, ()))
def tx_Points.l0 (k : Nat) : Nat → tx_Points.l0.σ → Option tx_Points.l0.τ := loopJ (tx_Points.l0.r k)
def tx_Points.l0.T : StT := ⟨us 3 ++ .vsl 0 :: us 3 ++ .dat (.sl (.pair (.pair (.arr 32 (.int .u8)) (.pair (.int .u32) .unit)) (.pair .str (.pair (.int .u32) .unit)))) :: .dat (.int .i64) :: .dat (.int .i64) :: us 10, [.vec (.pair (.arr 32 (.int .u8)) (.pair (.int .u32) .unit))]⟩
def tx_Points.l0.os : List Out := [⟨(.exit 0), [.mask [3], .auto 0], ⟨us 3 ++ .vsl 0 :: us 16, [.vec (.pair (.arr 32 (.int .u8)) (.pair (.int .u32) .unit))]⟩⟩]
def tx_Points.c (k : Nat) {ρ : Type} (t : (Int × ((List (((List Int) × (Int × Unit)) × (ByteArray × (Int × Unit)))) × ((List (Int × (ByteArray × Unit))) × (Int × Unit))))) (K : (List ((List Int) × (Int × Unit))) × Unit → Option ρ) : Option ρ :=
  let v0 : (List (((List Int) × (Int × Unit)) × (ByteArray × (Int × Unit)))) := t.2.1
  let v1 : Int := (((List.length v0) : Nat) : Int)
  (tx_Points.l0 k k (v0, (v1, ((0 : Int), ([], ()))))).bind fun t3 => K (t3.1, ())
def tx_Points (k : Nat) (t : (Int × ((List (((List Int) × (Int × Unit)) × (ByteArray × (Int × Unit)))) × ((List (Int × (ByteArray × Unit))) × (Int × Unit))))) : Option ((List ((List Int) × (Int × Unit))) × Unit) := tx_Points.c k t some
def tx_Points.tin : List Ty := [(.pair (.int .u32) (.pair (.sl (.pair (.pair (.arr 32 (.int .u8)) (.pair (.int .u32) .unit)) (.pair .str (.pair (.int .u32) .unit)))) (.pair (.sl (.pair (.int .u64) (.pair .str .unit))) (.pair (.int .u32) .unit))))]
def tx_Points.tout : List Ty := [(.sl (.pair (.arr 32 (.int .u8)) (.pair (.int .u32) .unit)))]
def tx_Points.sem (k : Nat) : CallSem := callPure tx_Points.tin tx_Points.tout fun x => tx_Points k x.1
noncomputable def tx_Points.ctx (k : Nat) : Ctx := ⟨Try.prog, gam []⟩
theorem tx_Points.gok (k : Nat) : ∀ f, SemOK Try.prog f ((tx_Points.ctx k).Γ f) := gam_nil
theorem tx_Points.l0.round (k : Nat) : RoundIs (tx_Points.ctx k) (codeAt (Func.code Try.f40) [1, 1, 0, 1, 0, 0]) (.nil) tx_Points.l0.T [.mask [3, 7, 8, 9], .auto 0] tx_Points.l0.os (tx_Points.l0.r k) := by
  intro ρ x kn ke; kernel_rfl
theorem tx_Points.l0.ok (k : Nat) : StOK 0 Try.prog (.loop (codeAt (Func.code Try.f40) [1, 1, 0, 1, 0, 0])) (pieceSem tx_Points.l0.T tx_Points.l0.os (tx_Points.l0 k k)) :=
  loop_ok (C := tx_Points.ctx k) (tx_Points.gok k) Try.mix AnnOK.nil (by kernel_rfl) (by kernel_rfl) (by kernel_rfl) (tx_Points.l0.round k) k
def tx_Points.ann (k : Nat) : Ann := .node [] none (.nil) (.node [] none (.nil) (.node [] none (.node [] none (.nil) (.node [] none (.node [.mask [3, 7, 8, 9], .auto 0, .own (.slot 3) (.pair (.arr 32 (.int .u8)) (.pair (.int .u32) .unit))] (some (pieceSem tx_Points.l0.T tx_Points.l0.os (tx_Points.l0 k k))) .nil .nil) (.nil))) (.nil)))
theorem tx_Points.body (k : Nat) : BodyIs (tx_Points.ctx k) Try.f40 (Func.code Try.f40) (tx_Points.ann k) tx_Points.tin tx_Points.tout (fun x K => tx_Points.c k x.1 K) := by
  intro ρ x K; kernel_rfl
theorem tx_Points.sem_ok (k : Nat) : SemOK Try.prog 40 (tx_Points.sem k) :=
  callPure_ok (C := tx_Points.ctx k) (tx_Points.gok k) Try.mix (c := Func.code Try.f40) (ann := tx_Points.ann k) (tin := tx_Points.tin) (tout := tx_Points.tout) (fun x K => tx_Points.c k x.1 K) Try.func40 (by kernel_rfl) (by kernel_rfl) (AnnOK.seq AnnOK.nil (AnnOK.seq AnnOK.nil (AnnOK.seq (AnnOK.seq AnnOK.nil (AnnOK.block (AnnOK.loop (by kernel_rfl) (tx_Points.l0.ok k)))) AnnOK.nil))) (tx_Points.body k)

/-! 41 bedrock/tx.Pairs -/
abbrev tx_Pairs.l0.σ : Type := Int × Int × (List Int) × (List ((List Int) × (Int × Unit))) × Unit
abbrev tx_Pairs.l0.τ : Type := ((List ((List Int) × (Int × Unit))) × Unit)
def tx_Pairs.l0.r (k : Nat) {ρ : Type} (x : tx_Pairs.l0.σ) (kn : tx_Pairs.l0.σ → Option ρ) (ke : tx_Pairs.l0.τ → Option ρ) : Option ρ :=
  bif (decide (x.2.1 < x.1)) then (let v2 : (List Int) := x.2.2.1
  let v3 : Int := (IntKind.wrap IntKind.u32 x.2.1)
  bif (Nat.ble (((List.length x.2.2.2.1) + (List.length (List.set (List.replicate 1 ((List.replicate 32 (0 : Int)), ((0 : Int), ()))) 0 (v2, (v3, ()))))) * 36) 140737488355328) then (let v4 : Int := (IntKind.wrap IntKind.i64 (x.2.1 + (1 : Int)))
  kn (x.1, (v4, (x.2.2.1, ((x.2.2.2.1 ++ (List.set (List.replicate 1 ((List.replicate 32 (0 : Int)), ((0 : Int), ()))) 0 (v2, (v3, ())))), ()))))) else (none)) else (ke (x.2.2.2.1, ()))
def tx_Pairs.l0 (k : Nat) : Nat → tx_Pairs.l0.σ → Option tx_Pairs.l0.τ := loopJ (tx_Pairs.l0.r k)
def tx_Pairs.l0.T : StT := ⟨us 2 ++ .ptr 0 [] :: us 2 ++ .vsl 1 :: us 3 ++ .dat (.int .i64) :: .dat (.int .i64) :: us 11, [.dat (.arr 32 (.int .u8)), .vec (.pair (.arr 32 (.int .u8)) (.pair (.int .u32) .unit))]⟩
def tx_Pairs.l0.os : List Out := [⟨(.exit 0), [.mask [5], .auto 0], ⟨us 5 ++ .vsl 0 :: us 16, [.vec (.pair (.arr 32 (.int .u8)) (.pair (.int .u32) .unit))]⟩⟩]
def tx_Pairs.c (k : Nat) {ρ : Type} (id : (List Int)) (t : (Int × ((List (((List Int) × (Int × Unit)) × (ByteArray × (Int × Unit)))) × ((List (Int × (ByteArray × Unit))) × (Int × Unit))))) (K : (List ((List Int) × (Int × Unit))) × Unit → Option ρ) : Option ρ :=
  let v0 : (List (Int × (ByteArray × Unit))) := t.2.2.1
  let v1 : Int := (((List.length v0) : Nat) : Int)
  (tx_Pairs.l0 k k (v1, ((0 : Int), (id, ([], ()))))).bind fun t5 => K (t5.1, ())
def tx_Pairs (k : Nat) (id : (List Int)) (t : (Int × ((List (((List Int) × (Int × Unit)) × (ByteArray × (Int × Unit)))) × ((List (Int × (ByteArray × Unit))) × (Int × Unit))))) : Option ((List ((List Int) × (Int × Unit))) × Unit) := tx_Pairs.c k id t some
def tx_Pairs.tin : List Ty := [(.arr 32 (.int .u8)), (.pair (.int .u32) (.pair (.sl (.pair (.pair (.arr 32 (.int .u8)) (.pair (.int .u32) .unit)) (.pair .str (.pair (.int .u32) .unit)))) (.pair (.sl (.pair (.int .u64) (.pair .str .unit))) (.pair (.int .u32) .unit))))]
def tx_Pairs.tout : List Ty := [(.sl (.pair (.arr 32 (.int .u8)) (.pair (.int .u32) .unit)))]
def tx_Pairs.sem (k : Nat) : CallSem := callPure tx_Pairs.tin tx_Pairs.tout fun x => tx_Pairs k x.1 x.2.1
noncomputable def tx_Pairs.ctx (k : Nat) : Ctx := ⟨Try.prog, gam []⟩
theorem tx_Pairs.gok (k : Nat) : ∀ f, SemOK Try.prog f ((tx_Pairs.ctx k).Γ f) := gam_nil
theorem tx_Pairs.l0.round (k : Nat) : RoundIs (tx_Pairs.ctx k) (codeAt (Func.code Try.f41) [1, 1, 0, 1, 0, 0]) (.nil) tx_Pairs.l0.T [.mask [2, 5, 9, 10], .auto 0] tx_Pairs.l0.os (tx_Pairs.l0.r k) := by
  intro ρ x kn ke; kernel_rfl
theorem tx_Pairs.l0.ok (k : Nat) : StOK 0 Try.prog (.loop (codeAt (Func.code Try.f41) [1, 1, 0, 1, 0, 0])) (pieceSem tx_Pairs.l0.T tx_Pairs.l0.os (tx_Pairs.l0 k k)) :=
  loop_ok (C := tx_Pairs.ctx k) (tx_Pairs.gok k) Try.mix AnnOK.nil (by kernel_rfl) (by kernel_rfl) (by kernel_rfl) (tx_Pairs.l0.round k) k
def tx_Pairs.ann (k : Nat) : Ann := .node [] none (.nil) (.node [] none (.nil) (.node [] none (.node [] none (.nil) (.node [] none (.node [.mask [2, 5, 9, 10], .auto 0, .own (.slot 5) (.pair (.arr 32 (.int .u8)) (.pair (.int .u32) .unit))] (some (pieceSem tx_Pairs.l0.T tx_Pairs.l0.os (tx_Pairs.l0 k k))) .nil .nil) (.nil))) (.nil)))
theorem tx_Pairs.body (k : Nat) : BodyIs (tx_Pairs.ctx k) Try.f41 (Func.code Try.f41) (tx_Pairs.ann k) tx_Pairs.tin tx_Pairs.tout (fun x K => tx_Pairs.c k x.1 x.2.1 K) := by
  intro ρ x K; kernel_rfl
theorem tx_Pairs.sem_ok (k : Nat) : SemOK Try.prog 41 (tx_Pairs.sem k) :=
  callPure_ok (C := tx_Pairs.ctx k) (tx_Pairs.gok k) Try.mix (c := Func.code Try.f41) (ann := tx_Pairs.ann k) (tin := tx_Pairs.tin) (tout := tx_Pairs.tout) (fun x K => tx_Pairs.c k x.1 x.2.1 K) Try.func41 (by kernel_rfl) (by kernel_rfl) (AnnOK.seq AnnOK.nil (AnnOK.seq AnnOK.nil (AnnOK.seq (AnnOK.seq AnnOK.nil (AnnOK.block (AnnOK.loop (by kernel_rfl) (tx_Pairs.l0.ok k)))) AnnOK.nil))) (tx_Pairs.body k)

/-! 87 bytes.Compare -/
def bytes_Compare.c (k : Nat) {ρ : Type} (a : (List Int)) (b : (List Int)) (K : Int × Unit → Option ρ) : Option ρ :=
  (bytealg_Compare k a b).bind fun t0 => K (t0.1, ())
def bytes_Compare (k : Nat) (a : (List Int)) (b : (List Int)) : Option (Int × Unit) := bytes_Compare.c k a b some
def bytes_Compare.tin : List Ty := [(.sl (.int .u8)), (.sl (.int .u8))]
def bytes_Compare.tout : List Ty := [(.int .i64)]
def bytes_Compare.sem (k : Nat) : CallSem := callPure bytes_Compare.tin bytes_Compare.tout fun x => bytes_Compare k x.1 x.2.1
noncomputable def bytes_Compare.ctx (k : Nat) : Ctx := ⟨Try.prog, gam [(111, (bytealg_Compare.sem k))]⟩
theorem bytes_Compare.gok (k : Nat) : ∀ f, SemOK Try.prog f ((bytes_Compare.ctx k).Γ f) := (gam_cons (bytealg_Compare.sem_ok k) gam_nil)
def bytes_Compare.ann (k : Nat) : Ann := .nil
theorem bytes_Compare.body (k : Nat) : BodyIs (bytes_Compare.ctx k) Try.f87 (Func.code Try.f87) (bytes_Compare.ann k) bytes_Compare.tin bytes_Compare.tout (fun x K => bytes_Compare.c k x.1 x.2.1 K) := by
  intro ρ x K; kernel_rfl
theorem bytes_Compare.sem_ok (k : Nat) : SemOK Try.prog 87 (bytes_Compare.sem k) :=
  callPure_ok (C := bytes_Compare.ctx k) (bytes_Compare.gok k) Try.mix (c := Func.code Try.f87) (ann := bytes_Compare.ann k) (tin := bytes_Compare.tin) (tout := bytes_Compare.tout) (fun x K => bytes_Compare.c k x.1 x.2.1 K) Try.func87 (by kernel_rfl) (by kernel_rfl) AnnOK.nil (bytes_Compare.body k)

/-! 112 cmp.isNaN[uint32] -/
def cmp_isNaN_uint32.c (k : Nat) {ρ : Type} (x_0 : Int) (K : Bool × Unit → Option ρ) : Option ρ :=
  K ((x_0 != x_0), ())
def cmp_isNaN_uint32 (k : Nat) (x_0 : Int) : Option (Bool × Unit) := cmp_isNaN_uint32.c k x_0 some
def cmp_isNaN_uint32.tin : List Ty := [(.int .u32)]
def cmp_isNaN_uint32.tout : List Ty := [.bool]
def cmp_isNaN_uint32.sem (k : Nat) : CallSem := callPure cmp_isNaN_uint32.tin cmp_isNaN_uint32.tout fun x => cmp_isNaN_uint32 k x.1
noncomputable def cmp_isNaN_uint32.ctx (k : Nat) : Ctx := ⟨Try.prog, gam []⟩
theorem cmp_isNaN_uint32.gok (k : Nat) : ∀ f, SemOK Try.prog f ((cmp_isNaN_uint32.ctx k).Γ f) := gam_nil
def cmp_isNaN_uint32.ann (k : Nat) : Ann := .nil
theorem cmp_isNaN_uint32.body (k : Nat) : BodyIs (cmp_isNaN_uint32.ctx k) Try.f112 (Func.code Try.f112) (cmp_isNaN_uint32.ann k) cmp_isNaN_uint32.tin cmp_isNaN_uint32.tout (fun x K => cmp_isNaN_uint32.c k x.1 K) := by
  intro ρ x K; kernel_rfl
theorem cmp_isNaN_uint32.sem_ok (k : Nat) : SemOK Try.prog 112 (cmp_isNaN_uint32.sem k) :=
  callPure_ok (C := cmp_isNaN_uint32.ctx k) (cmp_isNaN_uint32.gok k) Try.mix (c := Func.code Try.f112) (ann := cmp_isNaN_uint32.ann k) (tin := cmp_isNaN_uint32.tin) (tout := cmp_isNaN_uint32.tout) (fun x K => cmp_isNaN_uint32.c k x.1 K) Try.func112 (by kernel_rfl) (by kernel_rfl) AnnOK.nil (cmp_isNaN_uint32.body k)

/-! 88 cmp.Compare[uint32] -/
def cmp_Compare_uint32.c (k : Nat) {ρ : Type} (x_0 : Int) (y : Int) (K : Int × Unit → Option ρ) : Option ρ :=
  (cmp_isNaN_uint32 k x_0).bind fun t0 => (cmp_isNaN_uint32 k y).bind fun t1 => bif t0.1 then (bif t1.1 then (K ((0 : Int), ())) else (K ((-(1 : Int)), ()))) else (bif t1.1 then (K ((1 : Int), ())) else (bif (decide (x_0 < y)) then (K ((-(1 : Int)), ())) else (bif (decide (x_0 > y)) then (K ((1 : Int), ())) else (K ((0 : Int), ())))))
def cmp_Compare_uint32 (k : Nat) (x_0 : Int) (y : Int) : Option (Int × Unit) := cmp_Compare_uint32.c k x_0 y some
def cmp_Compare_uint32.tin : List Ty := [(.int .u32), (.int .u32)]
def cmp_Compare_uint32.tout : List Ty := [(.int .i64)]
def cmp_Compare_uint32.sem (k : Nat) : CallSem := callPure cmp_Compare_uint32.tin cmp_Compare_uint32.tout fun x => cmp_Compare_uint32 k x.1 x.2.1
noncomputable def cmp_Compare_uint32.ctx (k : Nat) : Ctx := ⟨Try.prog, gam [(112, (cmp_isNaN_uint32.sem k))]⟩
theorem cmp_Compare_uint32.gok (k : Nat) : ∀ f, SemOK Try.prog f ((cmp_Compare_uint32.ctx k).Γ f) := (gam_cons (cmp_isNaN_uint32.sem_ok k) gam_nil)
def cmp_Compare_uint32.ann (k : Nat) : Ann := .nil
theorem cmp_Compare_uint32.body (k : Nat) : BodyIs (cmp_Compare_uint32.ctx k) Try.f88 (Func.code Try.f88) (cmp_Compare_uint32.ann k) cmp_Compare_uint32.tin cmp_Compare_uint32.tout (fun x K => cmp_Compare_uint32.c k x.1 x.2.1 K) := by
  intro ρ x K; kernel_rfl
theorem cmp_Compare_uint32.sem_ok (k : Nat) : SemOK Try.prog 88 (cmp_Compare_uint32.sem k) :=
  callPure_ok (C := cmp_Compare_uint32.ctx k) (cmp_Compare_uint32.gok k) Try.mix (c := Func.code Try.f88) (ann := cmp_Compare_uint32.ann k) (tin := cmp_Compare_uint32.tin) (tout := cmp_Compare_uint32.tout) (fun x K => cmp_Compare_uint32.c k x.1 x.2.1 K) Try.func88 (by kernel_rfl) (by kernel_rfl) AnnOK.nil (cmp_Compare_uint32.body k)

/-! 86 cmp.Or[int] -/
abbrev cmp_Or_int.l0.σ : Type := Int × (List Int) × Int × Int × Unit
abbrev cmp_Or_int.l0.τ : Type := (Int × Unit) ⊕ (Int × Unit)
def cmp_Or_int.l0.r (k : Nat) {ρ : Type} (x : cmp_Or_int.l0.σ) (kn : cmp_Or_int.l0.σ → Option ρ) (ke : cmp_Or_int.l0.τ → Option ρ) : Option ρ :=
  bif (decide (x.2.2.2.1 < x.2.2.1)) then (bif (decide (((0 : Int) ≤ x.2.2.2.1) ∧ (x.2.2.2.1 < (((List.length x.2.1) : Nat) : Int)))) then (let v1 : Int := (List.getD x.2.1 (Int.toNat x.2.2.2.1) (0 : Int))
  bif (v1 != x.1) then (ke (.inl (v1, ()))) else (let v2 : Int := (IntKind.wrap IntKind.i64 (x.2.2.2.1 + (1 : Int)))
  kn (x.1, (x.2.1, (x.2.2.1, (v2, ())))))) else (none)) else (ke (.inr (x.1, ())))
def cmp_Or_int.l0 (k : Nat) : Nat → cmp_Or_int.l0.σ → Option cmp_Or_int.l0.τ := loopJ (cmp_Or_int.l0.r k)
def cmp_Or_int.l0.T : StT := ⟨us 3 ++ .dat (.int .i64) :: us 2 ++ .dat (.sl (.int .i64)) :: .dat (.int .i64) :: .dat (.int .i64) :: us 9, []⟩
def cmp_Or_int.l0.os : List Out := [⟨.ret, [.mask [2], .auto 0], ⟨us 2 ++ .dat (.int .i64) :: us 15, []⟩⟩, ⟨(.exit 0), [.mask [3], .auto 0], ⟨us 3 ++ .dat (.int .i64) :: us 14, []⟩⟩]
def cmp_Or_int.c (k : Nat) {ρ : Type} (vals : (List Int)) (K : Int × Unit → Option ρ) : Option ρ :=
  let v0 : Int := (((List.length vals) : Nat) : Int)
  (cmp_Or_int.l0 k k ((0 : Int), (vals, (v0, ((0 : Int), ()))))).bind fun t3 => (match t3 with | .inl t4 => (K (t4.1, ())) | .inr (t5) => (K (t5.1, ())))
def cmp_Or_int (k : Nat) (vals : (List Int)) : Option (Int × Unit) := cmp_Or_int.c k vals some
def cmp_Or_int.tin : List Ty := [(.sl (.int .i64))]
def cmp_Or_int.tout : List Ty := [(.int .i64)]
def cmp_Or_int.sem (k : Nat) : CallSem := callPure cmp_Or_int.tin cmp_Or_int.tout fun x => cmp_Or_int k x.1
noncomputable def cmp_Or_int.ctx (k : Nat) : Ctx := ⟨Try.prog, gam []⟩
theorem cmp_Or_int.gok (k : Nat) : ∀ f, SemOK Try.prog f ((cmp_Or_int.ctx k).Γ f) := gam_nil
theorem cmp_Or_int.l0.round (k : Nat) : RoundIs (cmp_Or_int.ctx k) (codeAt (Func.code Try.f86) [1, 1, 0, 1, 0, 0]) (.nil) cmp_Or_int.l0.T [.mask [3, 6, 7, 8], .auto 0] cmp_Or_int.l0.os (cmp_Or_int.l0.r k) := by
  intro ρ x kn ke; kernel_rfl
theorem cmp_Or_int.l0.ok (k : Nat) : StOK 0 Try.prog (.loop (codeAt (Func.code Try.f86) [1, 1, 0, 1, 0, 0])) (pieceSem cmp_Or_int.l0.T cmp_Or_int.l0.os (cmp_Or_int.l0 k k)) :=
  loop_ok (C := cmp_Or_int.ctx k) (cmp_Or_int.gok k) Try.mix AnnOK.nil (by kernel_rfl) (by kernel_rfl) (by kernel_rfl) (cmp_Or_int.l0.round k) k
def cmp_Or_int.ann (k : Nat) : Ann := .node [] none (.nil) (.node [] none (.nil) (.node [] none (.node [] none (.nil) (.node [] none (.node [] (some (pieceSem cmp_Or_int.l0.T cmp_Or_int.l0.os (cmp_Or_int.l0 k k))) .nil .nil) (.nil))) (.nil)))
theorem cmp_Or_int.body (k : Nat) : BodyIs (cmp_Or_int.ctx k) Try.f86 (Func.code Try.f86) (cmp_Or_int.ann k) cmp_Or_int.tin cmp_Or_int.tout (fun x K => cmp_Or_int.c k x.1 K) := by
  intro ρ x K; kernel_rfl
theorem cmp_Or_int.sem_ok (k : Nat) : SemOK Try.prog 86 (cmp_Or_int.sem k) :=
  callPure_ok (C := cmp_Or_int.ctx k) (cmp_Or_int.gok k) Try.mix (c := Func.code Try.f86) (ann := cmp_Or_int.ann k) (tin := cmp_Or_int.tin) (tout := cmp_Or_int.tout) (fun x K => cmp_Or_int.c k x.1 K) Try.func86 (by kernel_rfl) (by kernel_rfl) (AnnOK.seq AnnOK.nil (AnnOK.seq AnnOK.nil (AnnOK.seq (AnnOK.seq AnnOK.nil (AnnOK.block (AnnOK.loop (by kernel_rfl) (cmp_Or_int.l0.ok k)))) AnnOK.nil))) (cmp_Or_int.body k)

/-! 42 bedrock/tx.Less -/
def tx_Less.c (k : Nat) {ρ : Type} (a : ((List Int) × (Int × Unit))) (b : ((List Int) × (Int × Unit))) (K : Bool × Unit → Option ρ) : Option ρ :=
  (bytes_Compare k (List.take 32 (List.drop 0 a.1)) (List.take 32 (List.drop 0 b.1))).bind fun t0 => let v1 : Int := a.2.1
  let v2 : Int := b.2.1
  (cmp_Compare_uint32 k v1 v2).bind fun t3 => (cmp_Or_int k (List.set (List.set (List.replicate 2 (0 : Int)) 0 t0.1) 1 t3.1)).bind fun t4 => K ((decide (t4.1 < (0 : Int))), ())
def tx_Less (k : Nat) (a : ((List Int) × (Int × Unit))) (b : ((List Int) × (Int × Unit))) : Option (Bool × Unit) := tx_Less.c k a b some
def tx_Less.tin : List Ty := [(.pair (.arr 32 (.int .u8)) (.pair (.int .u32) .unit)), (.pair (.arr 32 (.int .u8)) (.pair (.int .u32) .unit))]
def tx_Less.tout : List Ty := [.bool]
def tx_Less.sem (k : Nat) : CallSem := callPure tx_Less.tin tx_Less.tout fun x => tx_Less k x.1 x.2.1
noncomputable def tx_Less.ctx (k : Nat) : Ctx := ⟨Try.prog, gam [(87, (bytes_Compare.sem k)), (88, (cmp_Compare_uint32.sem k)), (86, (cmp_Or_int.sem k))]⟩
theorem tx_Less.gok (k : Nat) : ∀ f, SemOK Try.prog f ((tx_Less.ctx k).Γ f) := (gam_cons (bytes_Compare.sem_ok k) (gam_cons (cmp_Compare_uint32.sem_ok k) (gam_cons (cmp_Or_int.sem_ok k) gam_nil)))
def tx_Less.ann (k : Nat) : Ann := .nil
theorem tx_Less.body (k : Nat) : BodyIs (tx_Less.ctx k) Try.f42 (Func.code Try.f42) (tx_Less.ann k) tx_Less.tin tx_Less.tout (fun x K => tx_Less.c k x.1 x.2.1 K) := by
  intro ρ x K; kernel_rfl
theorem tx_Less.sem_ok (k : Nat) : SemOK Try.prog 42 (tx_Less.sem k) :=
  callPure_ok (C := tx_Less.ctx k) (tx_Less.gok k) Try.mix (c := Func.code Try.f42) (ann := tx_Less.ann k) (tin := tx_Less.tin) (tout := tx_Less.tout) (fun x K => tx_Less.c k x.1 x.2.1 K) Try.func42 (by kernel_rfl) (by kernel_rfl) AnnOK.nil (tx_Less.body k)

/-! 43 bedrock/bedrocklaw10.less -/
def bedrocklaw10_less.c (k : Nat) {ρ : Type} (a : ((List Int) × (Int × Unit))) (b : ((List Int) × (Int × Unit))) (K : Bool × Unit → Option ρ) : Option ρ :=
  let v0 : ByteArray := (bytesOf (List.take 32 (List.drop 0 a.1)))
  let v1 : ByteArray := (bytesOf (List.take 32 (List.drop 0 b.1)))
  bif (!(strEq v0 v1)) then (let v2 : ByteArray := (bytesOf (List.take 32 (List.drop 0 a.1)))
  let v3 : ByteArray := (bytesOf (List.take 32 (List.drop 0 b.1)))
  K ((strLt v2 v3), ())) else (let v4 : Int := a.2.1
  let v5 : Int := b.2.1
  K ((decide (v4 < v5)), ()))
def bedrocklaw10_less (k : Nat) (a : ((List Int) × (Int × Unit))) (b : ((List Int) × (Int × Unit))) : Option (Bool × Unit) := bedrocklaw10_less.c k a b some
def bedrocklaw10_less.tin : List Ty := [(.pair (.arr 32 (.int .u8)) (.pair (.int .u32) .unit)), (.pair (.arr 32 (.int .u8)) (.pair (.int .u32) .unit))]
def bedrocklaw10_less.tout : List Ty := [.bool]
def bedrocklaw10_less.sem (k : Nat) : CallSem := callPure bedrocklaw10_less.tin bedrocklaw10_less.tout fun x => bedrocklaw10_less k x.1 x.2.1
noncomputable def bedrocklaw10_less.ctx (k : Nat) : Ctx := ⟨Try.prog, gam []⟩
theorem bedrocklaw10_less.gok (k : Nat) : ∀ f, SemOK Try.prog f ((bedrocklaw10_less.ctx k).Γ f) := gam_nil
def bedrocklaw10_less.ann (k : Nat) : Ann := .nil
theorem bedrocklaw10_less.body (k : Nat) : BodyIs (bedrocklaw10_less.ctx k) Try.f43 (Func.code Try.f43) (bedrocklaw10_less.ann k) bedrocklaw10_less.tin bedrocklaw10_less.tout (fun x K => bedrocklaw10_less.c k x.1 x.2.1 K) := by
  intro ρ x K; kernel_rfl
theorem bedrocklaw10_less.sem_ok (k : Nat) : SemOK Try.prog 43 (bedrocklaw10_less.sem k) :=
  callPure_ok (C := bedrocklaw10_less.ctx k) (bedrocklaw10_less.gok k) Try.mix (c := Func.code Try.f43) (ann := bedrocklaw10_less.ann k) (tin := bedrocklaw10_less.tin) (tout := bedrocklaw10_less.tout) (fun x K => bedrocklaw10_less.c k x.1 x.2.1 K) Try.func43 (by kernel_rfl) (by kernel_rfl) AnnOK.nil (bedrocklaw10_less.body k)

/-! 9 bedrock/bedrocklaw10.TxPoints -/
abbrev bedrocklaw10_TxPoints.p0.σ : Type := (List ((List Int) × (Int × Unit))) × (List ((List Int) × (Int × Unit))) × (Int × ((List (((List Int) × (Int × Unit)) × (ByteArray × (Int × Unit)))) × ((List (Int × (ByteArray × Unit))) × (Int × Unit)))) × (Int × ((List (((List Int) × (Int × Unit)) × (ByteArray × (Int × Unit)))) × ((List (Int × (ByteArray × Unit))) × (Int × Unit)))) × (List Int) × Unit
abbrev bedrocklaw10_TxPoints.p0.τ : Type := (Bool × Unit) ⊕ ((List ((List Int) × (Int × Unit))) × (List ((List Int) × (Int × Unit))) × (Int × ((List (((List Int) × (Int × Unit)) × (ByteArray × (Int × Unit)))) × ((List (Int × (ByteArray × Unit))) × (Int × Unit)))) × (List Int) × Unit)
def bedrocklaw10_TxPoints.p0.r (k : Nat) {ρ : Type} (x : bedrocklaw10_TxPoints.p0.σ) (K : bedrocklaw10_TxPoints.p0.τ → Option ρ) : Option ρ :=
  (bedrocklaw10_awake k ).bind fun t2 => bif (!t2.1) then (K (.inl (false, ()))) else (let v3 : Int := (((List.length x.1) : Nat) : Int)
  let v4 : (List (((List Int) × (Int × Unit)) × (ByteArray × (Int × Unit)))) := x.2.2.1.2.1
  let v5 : Int := (((List.length v4) : Nat) : Int)
  bif (v3 != v5) then (K (.inl (false, ()))) else (let v6 : Int := (((List.length x.2.1) : Nat) : Int)
  let v7 : (List (Int × (ByteArray × Unit))) := x.2.2.1.2.2.1
  let v8 : Int := (((List.length v7) : Nat) : Int)
  bif (v6 != v8) then (K (.inl (false, ()))) else ((tx_Same k (x.2.2.1.1, (x.2.2.1.2.1, (x.2.2.1.2.2.1, (x.2.2.1.2.2.2.1, ())))) (x.2.2.2.1.1, (x.2.2.2.1.2.1, (x.2.2.2.1.2.2.1, (x.2.2.2.1.2.2.2.1, ()))))).bind fun t9 => (bedrocklaw10_given k (x.2.2.1.1, (x.2.2.1.2.1, (x.2.2.1.2.2.1, (x.2.2.1.2.2.2.1, ()))))).bind fun t10 => (bedrocklaw10_given k (x.2.2.2.1.1, (x.2.2.2.1.2.1, (x.2.2.2.1.2.2.1, (x.2.2.2.1.2.2.2.1, ()))))).bind fun t11 => (bedrocklaw10_same k (t10.1.1, (t10.1.2.1, (t10.1.2.2.1, (t10.1.2.2.2.1, ())))) (t11.1.1, (t11.1.2.1, (t11.1.2.2.1, (t11.1.2.2.2.1, ()))))).bind fun t12 => bif (!(t9.1 == t12.1)) then (K (.inl (false, ()))) else (K (.inr (x.1, (x.2.1, ((x.2.2.1.1, (x.2.2.1.2.1, (x.2.2.1.2.2.1, (x.2.2.1.2.2.2.1, ())))), (x.2.2.2.2.1, ())))))))))
def bedrocklaw10_TxPoints.p0 (k : Nat) (x : bedrocklaw10_TxPoints.p0.σ) : Option bedrocklaw10_TxPoints.p0.τ := bedrocklaw10_TxPoints.p0.r k x some
def bedrocklaw10_TxPoints.p0.T : StT := ⟨us 3 ++ .ptr 0 [] :: .ptr 1 [] :: .ptr 2 [] :: us 1 ++ .dat (.sl (.pair (.arr 32 (.int .u8)) (.pair (.int .u32) .unit))) :: .dat (.sl (.pair (.arr 32 (.int .u8)) (.pair (.int .u32) .unit))) :: us 94, [.dat (.pair (.int .u32) (.pair (.sl (.pair (.pair (.arr 32 (.int .u8)) (.pair (.int .u32) .unit)) (.pair .str (.pair (.int .u32) .unit)))) (.pair (.sl (.pair (.int .u64) (.pair .str .unit))) (.pair (.int .u32) .unit)))), .dat (.pair (.int .u32) (.pair (.sl (.pair (.pair (.arr 32 (.int .u8)) (.pair (.int .u32) .unit)) (.pair .str (.pair (.int .u32) .unit)))) (.pair (.sl (.pair (.int .u64) (.pair .str .unit))) (.pair (.int .u32) .unit)))), .dat (.arr 32 (.int .u8))]⟩
def bedrocklaw10_TxPoints.p0.os : List Out := [⟨.ret, [.mask [6], .auto 0], ⟨us 6 ++ .dat .bool :: us 96, []⟩⟩, ⟨.normal, [.mask [3, 5, 7, 8], .auto 0], ⟨us 3 ++ .ptr 0 [] :: us 1 ++ .ptr 1 [] :: us 1 ++ .dat (.sl (.pair (.arr 32 (.int .u8)) (.pair (.int .u32) .unit))) :: .dat (.sl (.pair (.arr 32 (.int .u8)) (.pair (.int .u32) .unit))) :: us 94, [.dat (.pair (.int .u32) (.pair (.sl (.pair (.pair (.arr 32 (.int .u8)) (.pair (.int .u32) .unit)) (.pair .str (.pair (.int .u32) .unit)))) (.pair (.sl (.pair (.int .u64) (.pair .str .unit))) (.pair (.int .u32) .unit)))), .dat (.arr 32 (.int .u8))]⟩⟩]
abbrev bedrocklaw10_TxPoints.l1.σ : Type := (List ((List Int) × (Int × Unit))) × (List ((List Int) × (Int × Unit))) × (List ((List Int) × (Int × Unit))) × Int × Int × (Int × ((List (((List Int) × (Int × Unit)) × (ByteArray × (Int × Unit)))) × ((List (Int × (ByteArray × Unit))) × (Int × Unit)))) × (List Int) × Unit
abbrev bedrocklaw10_TxPoints.l1.τ : Type := (Bool × Unit) ⊕ ((List ((List Int) × (Int × Unit))) × (List Int) × Unit)
def bedrocklaw10_TxPoints.l1.r (k : Nat) {ρ : Type} (x : bedrocklaw10_TxPoints.l1.σ) (kn : bedrocklaw10_TxPoints.l1.σ → Option ρ) (ke : bedrocklaw10_TxPoints.l1.τ → Option ρ) : Option ρ :=
  bif (decide (x.2.2.2.2.1 < x.2.2.2.1)) then (bif (decide (((0 : Int) ≤ x.2.2.2.2.1) ∧ (x.2.2.2.2.1 < (((List.length x.2.2.1) : Nat) : Int)))) then (let v17 : (List (((List Int) × (Int × Unit)) × (ByteArray × (Int × Unit)))) := x.2.2.2.2.2.1.2.1
  bif (decide (((0 : Int) ≤ x.2.2.2.2.1) ∧ (x.2.2.2.2.1 < (((List.length v17) : Nat) : Int)))) then (bif (!((decide ((List.getD x.2.2.1 (Int.toNat x.2.2.2.2.1) ((List.replicate 32 (0 : Int)), ((0 : Int), ()))).1 = (List.getD v17 (Int.toNat x.2.2.2.2.1) (((List.replicate 32 (0 : Int)), ((0 : Int), ())), (ByteArray.empty, ((0 : Int), ())))).1.1)) && (((List.getD x.2.2.1 (Int.toNat x.2.2.2.2.1) ((List.replicate 32 (0 : Int)), ((0 : Int), ()))).2.1 == (List.getD v17 (Int.toNat x.2.2.2.2.1) (((List.replicate 32 (0 : Int)), ((0 : Int), ())), (ByteArray.empty, ((0 : Int), ())))).1.2.1) && true))) then (ke (.inl (false, ()))) else (bif (decide (((0 : Int) ≤ (0 : Int)) ∧ ((0 : Int) < (((List.length x.1) : Nat) : Int)))) then ((tx_Less k ((List.getD x.1 0 ((List.replicate 32 (0 : Int)), ((0 : Int), ()))).1, ((List.getD x.1 0 ((List.replicate 32 (0 : Int)), ((0 : Int), ()))).2.1, ())) ((List.getD x.2.2.1 (Int.toNat x.2.2.2.2.1) ((List.replicate 32 (0 : Int)), ((0 : Int), ()))).1, ((List.getD x.2.2.1 (Int.toNat x.2.2.2.2.1) ((List.replicate 32 (0 : Int)), ((0 : Int), ()))).2.1, ()))).bind fun t18 => bif (decide (((0 : Int) ≤ (0 : Int)) ∧ ((0 : Int) < (((List.length x.1) : Nat) : Int)))) then ((bedrocklaw10_less k ((List.getD x.1 0 ((List.replicate 32 (0 : Int)), ((0 : Int), ()))).1, ((List.getD x.1 0 ((List.replicate 32 (0 : Int)), ((0 : Int), ()))).2.1, ())) ((List.getD x.2.2.1 (Int.toNat x.2.2.2.2.1) ((List.replicate 32 (0 : Int)), ((0 : Int), ()))).1, ((List.getD x.2.2.1 (Int.toNat x.2.2.2.2.1) ((List.replicate 32 (0 : Int)), ((0 : Int), ()))).2.1, ()))).bind fun t19 => bif (!(t18.1 == t19.1)) then (ke (.inl (false, ()))) else (bif (decide (((0 : Int) ≤ (0 : Int)) ∧ ((0 : Int) < (((List.length x.1) : Nat) : Int)))) then ((tx_Less k ((List.getD x.2.2.1 (Int.toNat x.2.2.2.2.1) ((List.replicate 32 (0 : Int)), ((0 : Int), ()))).1, ((List.getD x.2.2.1 (Int.toNat x.2.2.2.2.1) ((List.replicate 32 (0 : Int)), ((0 : Int), ()))).2.1, ())) ((List.getD x.1 0 ((List.replicate 32 (0 : Int)), ((0 : Int), ()))).1, ((List.getD x.1 0 ((List.replicate 32 (0 : Int)), ((0 : Int), ()))).2.1, ()))).bind fun t20 => bif (decide (((0 : Int) ≤ (0 : Int)) ∧ ((0 : Int) < (((List.length x.1) : Nat) : Int)))) then ((bedrocklaw10_less k ((List.getD x.2.2.1 (Int.toNat x.2.2.2.2.1) ((List.replicate 32 (0 : Int)), ((0 : Int), ()))).1, ((List.getD x.2.2.1 (Int.toNat x.2.2.2.2.1) ((List.replicate 32 (0 : Int)), ((0 : Int), ()))).2.1, ())) ((List.getD x.1 0 ((List.replicate 32 (0 : Int)), ((0 : Int), ()))).1, ((List.getD x.1 0 ((List.replicate 32 (0 : Int)), ((0 : Int), ()))).2.1, ()))).bind fun t21 => bif (!(t20.1 == t21.1)) then (ke (.inl (false, ()))) else (let v22 : Int := (IntKind.wrap IntKind.i64 (x.2.2.2.2.1 + (1 : Int)))
  kn (x.1, (x.2.1, (x.2.2.1, (x.2.2.2.1, (v22, ((x.2.2.2.2.2.1.1, (x.2.2.2.2.2.1.2.1, (x.2.2.2.2.2.1.2.2.1, (x.2.2.2.2.2.1.2.2.2.1, ())))), (x.2.2.2.2.2.2.1, ()))))))))) else (none)) else (none))) else (none)) else (none))) else (none)) else (none)) else (ke (.inr (x.2.1, (x.2.2.2.2.2.2.1, ()))))
def bedrocklaw10_TxPoints.l1 (k : Nat) : Nat → bedrocklaw10_TxPoints.l1.σ → Option bedrocklaw10_TxPoints.l1.τ := loopJ (bedrocklaw10_TxPoints.l1.r k)
def bedrocklaw10_TxPoints.l1.T : StT := ⟨us 3 ++ .ptr 0 [] :: us 1 ++ .ptr 1 [] :: us 1 ++ .dat (.sl (.pair (.arr 32 (.int .u8)) (.pair (.int .u32) .unit))) :: .dat (.sl (.pair (.arr 32 (.int .u8)) (.pair (.int .u32) .unit))) :: us 38 ++ .dat (.sl (.pair (.arr 32 (.int .u8)) (.pair (.int .u32) .unit))) :: .dat (.int .i64) :: .dat (.int .i64) :: us 53, [.dat (.pair (.int .u32) (.pair (.sl (.pair (.pair (.arr 32 (.int .u8)) (.pair (.int .u32) .unit)) (.pair .str (.pair (.int .u32) .unit)))) (.pair (.sl (.pair (.int .u64) (.pair .str .unit))) (.pair (.int .u32) .unit)))), .dat (.arr 32 (.int .u8))]⟩
def bedrocklaw10_TxPoints.l1.os : List Out := [⟨.ret, [.mask [6], .auto 0], ⟨us 6 ++ .dat .bool :: us 96, []⟩⟩, ⟨(.exit 0), [.mask [5, 8], .auto 0], ⟨us 5 ++ .ptr 0 [] :: us 2 ++ .dat (.sl (.pair (.arr 32 (.int .u8)) (.pair (.int .u32) .unit))) :: us 94, [.dat (.arr 32 (.int .u8))]⟩⟩]
abbrev bedrocklaw10_TxPoints.l2.σ : Type := (List ((List Int) × (Int × Unit))) × Int × Int × (List Int) × Unit
abbrev bedrocklaw10_TxPoints.l2.τ : Type := (Bool × Unit) ⊕ (Unit)
def bedrocklaw10_TxPoints.l2.r (k : Nat) {ρ : Type} (x : bedrocklaw10_TxPoints.l2.σ) (kn : bedrocklaw10_TxPoints.l2.σ → Option ρ) (ke : bedrocklaw10_TxPoints.l2.τ → Option ρ) : Option ρ :=
  bif (decide (x.2.2.1 < x.2.1)) then (bif (decide (((0 : Int) ≤ x.2.2.1) ∧ (x.2.2.1 < (((List.length x.1) : Nat) : Int)))) then (let v27 : (List Int) := x.2.2.2.1
  let v28 : Int := (IntKind.wrap IntKind.u32 x.2.2.1)
  bif (!((decide ((List.getD x.1 (Int.toNat x.2.2.1) ((List.replicate 32 (0 : Int)), ((0 : Int), ()))).1 = v27)) && (((List.getD x.1 (Int.toNat x.2.2.1) ((List.replicate 32 (0 : Int)), ((0 : Int), ()))).2.1 == v28) && true))) then (ke (.inl (false, ()))) else (let v29 : Int := (IntKind.wrap IntKind.i64 (x.2.2.1 + (1 : Int)))
  kn (x.1, (x.2.1, (v29, (x.2.2.2.1, ())))))) else (none)) else (ke (.inr ()))
def bedrocklaw10_TxPoints.l2 (k : Nat) : Nat → bedrocklaw10_TxPoints.l2.σ → Option bedrocklaw10_TxPoints.l2.τ := loopJ (bedrocklaw10_TxPoints.l2.r k)
def bedrocklaw10_TxPoints.l2.T : StT := ⟨us 5 ++ .ptr 0 [] :: us 83 ++ .dat (.sl (.pair (.arr 32 (.int .u8)) (.pair (.int .u32) .unit))) :: .dat (.int .i64) :: .dat (.int .i64) :: us 11, [.dat (.arr 32 (.int .u8))]⟩
def bedrocklaw10_TxPoints.l2.os : List Out := [⟨.ret, [.mask [6], .auto 0], ⟨us 6 ++ .dat .bool :: us 96, []⟩⟩, ⟨(.exit 2), [.mask [], .auto 0], ⟨us 103, []⟩⟩]
def bedrocklaw10_TxPoints.c (k : Nat) {ρ : Type} (t : (Int × ((List (((List Int) × (Int × Unit)) × (ByteArray × (Int × Unit)))) × ((List (Int × (ByteArray × Unit))) × (Int × Unit))))) (u : (Int × ((List (((List Int) × (Int × Unit)) × (ByteArray × (Int × Unit)))) × ((List (Int × (ByteArray × Unit))) × (Int × Unit))))) (id : (List Int)) (K : Bool × Unit → Option ρ) : Option ρ :=
  (tx_Points k (t.1, (t.2.1, (t.2.2.1, (t.2.2.2.1, ()))))).bind fun t0 => (tx_Pairs k id (t.1, (t.2.1, (t.2.2.1, (t.2.2.2.1, ()))))).bind fun t1 => (bedrocklaw10_TxPoints.p0 k (t0.1, (t1.1, ((t.1, (t.2.1, (t.2.2.1, (t.2.2.2.1, ())))), ((u.1, (u.2.1, (u.2.2.1, (u.2.2.2.1, ())))), (id, ())))))).bind fun t13 => (match t13 with | .inl t14 => (K (t14.1, ())) | .inr (t15) => (let v16 : Int := (((List.length t15.1) : Nat) : Int)
  (bedrocklaw10_TxPoints.l1 k k (t15.1, (t15.2.1, (t15.1, (v16, ((0 : Int), ((t15.2.2.1.1, (t15.2.2.1.2.1, (t15.2.2.1.2.2.1, (t15.2.2.1.2.2.2.1, ())))), (t15.2.2.2.1, ())))))))).bind fun t23 => (match t23 with | .inl t24 => (K (t24.1, ())) | .inr (t25) => (let v26 : Int := (((List.length t25.1) : Nat) : Int)
  (bedrocklaw10_TxPoints.l2 k k (t25.1, (v26, ((0 : Int), (t25.2.1, ()))))).bind fun t30 => (match t30 with | .inl t31 => (K (t31.1, ())) | .inr (t32) => (K (true, ())))))))
def bedrocklaw10_TxPoints (k : Nat) (t : (Int × ((List (((List Int) × (Int × Unit)) × (ByteArray × (Int × Unit)))) × ((List (Int × (ByteArray × Unit))) × (Int × Unit))))) (u : (Int × ((List (((List Int) × (Int × Unit)) × (ByteArray × (Int × Unit)))) × ((List (Int × (ByteArray × Unit))) × (Int × Unit))))) (id : (List Int)) : Option (Bool × Unit) := bedrocklaw10_TxPoints.c k t u id some
def bedrocklaw10_TxPoints.tin : List Ty := [(.pair (.int .u32) (.pair (.sl (.pair (.pair (.arr 32 (.int .u8)) (.pair (.int .u32) .unit)) (.pair .str (.pair (.int .u32) .unit)))) (.pair (.sl (.pair (.int .u64) (.pair .str .unit))) (.pair (.int .u32) .unit)))), (.pair (.int .u32) (.pair (.sl (.pair (.pair (.arr 32 (.int .u8)) (.pair (.int .u32) .unit)) (.pair .str (.pair (.int .u32) .unit)))) (.pair (.sl (.pair (.int .u64) (.pair .str .unit))) (.pair (.int .u32) .unit)))), (.arr 32 (.int .u8))]
def bedrocklaw10_TxPoints.tout : List Ty := [.bool]
def bedrocklaw10_TxPoints.sem (k : Nat) : CallSem := callPure bedrocklaw10_TxPoints.tin bedrocklaw10_TxPoints.tout fun x => bedrocklaw10_TxPoints k x.1 x.2.1 x.2.2.1
noncomputable def bedrocklaw10_TxPoints.ctx (k : Nat) : Ctx := ⟨Try.prog, gam [(40, (tx_Points.sem k)), (41, (tx_Pairs.sem k)), (21, (bedrocklaw10_awake.sem k)), (33, (tx_Same.sem k)), (23, (bedrocklaw10_given.sem k)), (22, (bedrocklaw10_same.sem k)), (42, (tx_Less.sem k)), (43, (bedrocklaw10_less.sem k))]⟩
theorem bedrocklaw10_TxPoints.gok (k : Nat) : ∀ f, SemOK Try.prog f ((bedrocklaw10_TxPoints.ctx k).Γ f) := (gam_cons (tx_Points.sem_ok k) (gam_cons (tx_Pairs.sem_ok k) (gam_cons (bedrocklaw10_awake.sem_ok k) (gam_cons (tx_Same.sem_ok k) (gam_cons (bedrocklaw10_given.sem_ok k) (gam_cons (bedrocklaw10_same.sem_ok k) (gam_cons (tx_Less.sem_ok k) (gam_cons (bedrocklaw10_less.sem_ok k) gam_nil))))))))
theorem bedrocklaw10_TxPoints.p0.is (k : Nat) : PieceIs (bedrocklaw10_TxPoints.ctx k) (codeAt (Func.code Try.f9) [1, 1, 0]) (.nil) bedrocklaw10_TxPoints.p0.T bedrocklaw10_TxPoints.p0.os (bedrocklaw10_TxPoints.p0.r k) := by
  intro ρ x K; kernel_rfl
theorem bedrocklaw10_TxPoints.p0.ok (k : Nat) : StOK 0 Try.prog (codeAt (Func.code Try.f9) [1, 1, 0]) (pieceSem bedrocklaw10_TxPoints.p0.T bedrocklaw10_TxPoints.p0.os (bedrocklaw10_TxPoints.p0 k)) :=
  piece_ok (C := bedrocklaw10_TxPoints.ctx k) (T := bedrocklaw10_TxPoints.p0.T) (os := bedrocklaw10_TxPoints.p0.os) (bedrocklaw10_TxPoints.gok k) Try.mix (fun x K => bedrocklaw10_TxPoints.p0.r k x K) AnnOK.nil (by kernel_rfl) (by kernel_rfl) (bedrocklaw10_TxPoints.p0.is k)
theorem bedrocklaw10_TxPoints.l1.round (k : Nat) : RoundIs (bedrocklaw10_TxPoints.ctx k) (codeAt (Func.code Try.f9) [1, 1, 1, 0, 1, 0, 0]) (.nil) bedrocklaw10_TxPoints.l1.T [.mask [3, 5, 7, 8, 47, 48, 49], .auto 0] bedrocklaw10_TxPoints.l1.os (bedrocklaw10_TxPoints.l1.r k) := by
  intro ρ x kn ke; kernel_rfl
theorem bedrocklaw10_TxPoints.l1.ok (k : Nat) : StOK 0 Try.prog (.loop (codeAt (Func.code Try.f9) [1, 1, 1, 0, 1, 0, 0])) (pieceSem bedrocklaw10_TxPoints.l1.T bedrocklaw10_TxPoints.l1.os (bedrocklaw10_TxPoints.l1 k k)) :=
  loop_ok (C := bedrocklaw10_TxPoints.ctx k) (bedrocklaw10_TxPoints.gok k) Try.mix AnnOK.nil (by kernel_rfl) (by kernel_rfl) (by kernel_rfl) (bedrocklaw10_TxPoints.l1.round k) k
theorem bedrocklaw10_TxPoints.l2.round (k : Nat) : RoundIs (bedrocklaw10_TxPoints.ctx k) (codeAt (Func.code Try.f9) [1, 1, 1, 1, 0, 1, 0, 0]) (.nil) bedrocklaw10_TxPoints.l2.T [.mask [5, 89, 90, 91], .auto 0] bedrocklaw10_TxPoints.l2.os (bedrocklaw10_TxPoints.l2.r k) := by
  intro ρ x kn ke; kernel_rfl
theorem bedrocklaw10_TxPoints.l2.ok (k : Nat) : StOK 0 Try.prog (.loop (codeAt (Func.code Try.f9) [1, 1, 1, 1, 0, 1, 0, 0])) (pieceSem bedrocklaw10_TxPoints.l2.T bedrocklaw10_TxPoints.l2.os (bedrocklaw10_TxPoints.l2 k k)) :=
  loop_ok (C := bedrocklaw10_TxPoints.ctx k) (bedrocklaw10_TxPoints.gok k) Try.mix AnnOK.nil (by kernel_rfl) (by kernel_rfl) (by kernel_rfl) (bedrocklaw10_TxPoints.l2.round k) k
def bedrocklaw10_TxPoints.ann (k : Nat) : Ann := .node [] none (.nil) (.node [] none (.nil) (.node [] none (.node [.mask [3, 4, 5, 7, 8], .auto 0] (some (pieceSem bedrocklaw10_TxPoints.p0.T bedrocklaw10_TxPoints.p0.os (bedrocklaw10_TxPoints.p0 k))) .nil .nil) (.node [] none (.node [] none (.nil) (.node [] none (.node [.mask [3, 5, 7, 8, 47, 48, 49], .auto 0] (some (pieceSem bedrocklaw10_TxPoints.l1.T bedrocklaw10_TxPoints.l1.os (bedrocklaw10_TxPoints.l1 k k))) .nil .nil) (.nil))) (.node [] none (.node [] none (.nil) (.node [] none (.node [.mask [5, 89, 90, 91], .auto 0] (some (pieceSem bedrocklaw10_TxPoints.l2.T bedrocklaw10_TxPoints.l2.os (bedrocklaw10_TxPoints.l2 k k))) .nil .nil) (.nil))) (.nil)))))
theorem bedrocklaw10_TxPoints.body (k : Nat) : BodyIs (bedrocklaw10_TxPoints.ctx k) Try.f9 (Func.code Try.f9) (bedrocklaw10_TxPoints.ann k) bedrocklaw10_TxPoints.tin bedrocklaw10_TxPoints.tout (fun x K => bedrocklaw10_TxPoints.c k x.1 x.2.1 x.2.2.1 K) := by
  intro ρ x K; kernel_rfl
theorem bedrocklaw10_TxPoints.sem_ok (k : Nat) : SemOK Try.prog 9 (bedrocklaw10_TxPoints.sem k) :=
  callPure_ok (C := bedrocklaw10_TxPoints.ctx k) (bedrocklaw10_TxPoints.gok k) Try.mix (c := Func.code Try.f9) (ann := bedrocklaw10_TxPoints.ann k) (tin := bedrocklaw10_TxPoints.tin) (tout := bedrocklaw10_TxPoints.tout) (fun x K => bedrocklaw10_TxPoints.c k x.1 x.2.1 x.2.2.1 K) Try.func9 (by kernel_rfl) (by kernel_rfl) (AnnOK.seq AnnOK.nil (AnnOK.seq AnnOK.nil (AnnOK.seq (AnnOK.loop (by kernel_rfl) (bedrocklaw10_TxPoints.p0.ok k)) (AnnOK.seq (AnnOK.seq AnnOK.nil (AnnOK.block (AnnOK.loop (by kernel_rfl) (bedrocklaw10_TxPoints.l1.ok k)))) (AnnOK.seq (AnnOK.seq AnnOK.nil (AnnOK.block (AnnOK.loop (by kernel_rfl) (bedrocklaw10_TxPoints.l2.ok k)))) AnnOK.nil))))) (bedrocklaw10_TxPoints.body k)

end Go.Am
/- TxPoints: the law. -/
namespace Go.Am
open Go

abbrev TPt : Type := List Int × Int × Unit
abbrev dPt : TPt := (List.replicate 32 (0 : Int), 0, ())
theorem dPt_eq : (List.replicate 32 (0 : Int), (0 : Int), ()) = dPt := rfl
theorem take_fst {l : List TIn} {i : Nat} (h : i < l.length) : (l.take i).map Prod.fst ++ [(l.getD i dIn).1] = (l.take (i + 1)).map Prod.fst := by
  rw [List.take_add_one, List.getElem?_eq_getElem h, Option.toList_some, List.map_append, List.getD_eq_getElem?_getD, List.getElem?_eq_getElem h]
  rfl
theorem one_set (a b : TPt) : List.set (List.replicate 1 a) 0 b = [b] := rfl

theorem tx_Points_eq {k : Nat} {t : TTx} (h : t.2.1.length ≤ 2199023255552) (hk : t.2.1.length < k) : tx_Points k t = some (t.2.1.map Prod.fst, ()) := by
  obtain ⟨v, ins, outs, tm, u⟩ := t
  dsimp only at h hk
  unfold tx_Points tx_Points.c
  dsimp only
  have l0 : tx_Points.l0 k k (ins, (ins.length : Int), (0 : Int), [], ()) = some (ins.map Prod.fst, ()) := by
    have := loop_from0 (r := tx_Points.l0.r k) (fun i => (ins, (ins.length : Int), (i : Int), (ins.take i).map Prod.fst, ())) ins.length (ins.map Prod.fst, ()) ?_ ?_ (fuel := k) (by omega)
    · exact this
    · intro i hi kn ke
      simp only [tx_Points.l0.r]
      rw [bif_yes (by omega), bif_yes (by omega), show (i : Int).toNat = i by omega, dPt_eq, one_set]
      rw [cond_true' (ble_of (by rw [List.length_map, List.length_take, List.length_singleton]; omega)), i64_in (by omega)]
      show kn (ins, (ins.length : Int), ((i + 1 : Nat) : Int), (ins.take i).map Prod.fst ++ [(ins.getD i dIn).1], ()) = _
      rw [take_fst hi]
    · intro kn ke
      simp only [tx_Points.l0.r]
      rw [bif_no (by omega), List.take_length]
  rw [l0]
  rfl

/-- A transaction's own points. -/
def pairL (id : List Int) (n : Nat) : List TPt := (List.range n).map fun i => (id, ((i : Nat) : Int), ())
theorem pairL_succ (id : List Int) (n : Nat) : pairL id n ++ [(id, (n : Int), ())] = pairL id (n + 1) := by
  unfold pairL
  rw [List.range_succ, List.map_append]
  rfl
theorem pairL_length (id : List Int) (n : Nat) : (pairL id n).length = n := by unfold pairL; rw [List.length_map, List.length_range]
theorem pairL_getD (id : List Int) {n i : Nat} (h : i < n) : (pairL id n).getD i dPt = (id, (i : Int), ()) := by
  unfold pairL
  rw [List.getD_eq_getElem?_getD, List.getElem?_map, List.getElem?_range h]
  rfl
theorem tx_Pairs_eq {k : Nat} {id : List Int} {t : TTx} (h : t.2.2.1.length ≤ 4294967296) (hk : t.2.2.1.length < k) : tx_Pairs k id t = some (pairL id t.2.2.1.length, ()) := by
  obtain ⟨v, ins, outs, tm, u⟩ := t
  dsimp only at h hk ⊢
  unfold tx_Pairs tx_Pairs.c
  dsimp only
  have l0 : tx_Pairs.l0 k k ((outs.length : Int), (0 : Int), id, [], ()) = some (pairL id outs.length, ()) := by
    have := loop_from0 (r := tx_Pairs.l0.r k) (fun i => ((outs.length : Int), (i : Int), id, pairL id i, ())) outs.length (pairL id outs.length, ()) ?_ ?_ (fuel := k) (by omega)
    · exact this
    · intro i hi kn ke
      simp only [tx_Pairs.l0.r]
      rw [bif_yes (by omega), dPt_eq, one_set]
      rw [cond_true' (ble_of (by rw [pairL_length, List.length_singleton]; omega)), i64_in (by omega), u32_in (by omega), pairL_succ]
      rfl
    · intro kn ke
      simp only [tx_Pairs.l0.r]
      rw [bif_no (by omega)]
  rw [l0]
  rfl

theorem cmp_zero : ∀ (l m : List UInt8), Lib.compareBytes l m = 0 ↔ l = m
  | [], [] => by simp [Lib.compareBytes]
  | [], _ :: _ => by simp [Lib.compareBytes]
  | _ :: _, [] => by simp [Lib.compareBytes]
  | a :: l, b :: m => by
    have ih := cmp_zero l m
    unfold Lib.compareBytes
    by_cases h : a < b
    · rw [if_pos h]
      refine ⟨fun h => by omega, fun e => ?_⟩
      obtain ⟨rfl, _⟩ := List.cons.inj e
      exact absurd h (UInt8.lt_irrefl a)
    · rw [if_neg h]
      by_cases h' : b < a
      · rw [if_pos h']
        refine ⟨fun h => by omega, fun e => ?_⟩
        obtain ⟨rfl, _⟩ := List.cons.inj e
        exact absurd h' h
      · rw [if_neg h', ih]
        have : a = b := UInt8.le_antisymm (UInt8.not_lt.1 h') (UInt8.not_lt.1 h)
        rw [this, List.cons.injEq]
        exact ⟨fun h => ⟨rfl, h⟩, fun h => h.2⟩
theorem cmp_neg : ∀ (l m : List UInt8), decide (Lib.compareBytes l m < 0) = Op.bytesLess l m
  | [], [] => by simp [Lib.compareBytes, Op.bytesLess]
  | [], _ :: _ => by simp [Lib.compareBytes, Op.bytesLess]
  | _ :: _, [] => by simp [Lib.compareBytes, Op.bytesLess]
  | a :: l, b :: m => by
    have ih := cmp_neg l m
    unfold Lib.compareBytes Op.bytesLess
    by_cases h : a < b
    · rw [if_pos h]
      simp [h]
    · rw [if_neg h]
      by_cases h' : b < a
      · rw [if_pos h']
        have : ¬ a = b := fun e => h (by rw [e] at h'; exact absurd h' (UInt8.lt_irrefl b))
        simp [h, this]
      · rw [if_neg h', ih]
        have : a = b := UInt8.le_antisymm (UInt8.not_lt.1 h') (UInt8.not_lt.1 h)
        subst this
        simp [h]

theorem or2 {k : Nat} (hk : 3 ≤ k) (c d : Int) : cmp_Or_int k (List.set (List.set (List.replicate 2 (0 : Int)) 0 c) 1 d) = some (if c = 0 then d else c, ()) := by
  show cmp_Or_int k [c, d] = _
  unfold cmp_Or_int cmp_Or_int.c
  dsimp only
  have l0 : cmp_Or_int.l0 k k ((0 : Int), [c, d], ((List.length [c, d] : Nat) : Int), (0 : Int), ()) = some (if c = 0 then (if d = 0 then .inr (0, ()) else .inl (d, ())) else .inl (c, ())) := by
    unfold cmp_Or_int.l0
    obtain ⟨m, hm⟩ : ∃ m, k = m + 3 := ⟨k - 3, by omega⟩
    have key : ∀ q, loopJ (cmp_Or_int.l0.r q) (m + 3) ((0 : Int), [c, d], ((List.length [c, d] : Nat) : Int), (0 : Int), ()) = some (if c = 0 then (if d = 0 then .inr (0, ()) else .inl (d, ())) else .inl (c, ())) := by
      intro q
      by_cases hc : c = 0
      · rw [if_pos hc]
        by_cases hd : d = 0
        · rw [if_pos hd]
          subst hc hd
          simp [loopJ, cmp_Or_int.l0.r, i64_in]
        · rw [if_neg hd]
          subst hc
          simp [loopJ, cmp_Or_int.l0.r, i64_in, show (d != 0) = true from bne_iff_ne.2 hd]
      · rw [if_neg hc]
        simp [loopJ, cmp_Or_int.l0.r, show (c != 0) = true from bne_iff_ne.2 hc]
    have e := key k
    rw [← hm] at e
    exact e
  rw [l0]
  by_cases hc : c = 0
  · rw [if_pos hc, if_pos hc]
    by_cases hd : d = 0
    · rw [if_pos hd, hd]; rfl
    · rw [if_neg hd]; rfl
  · rw [if_neg hc, if_neg hc]; rfl

/-- Does a point stand ahead of another? -/
def lessS (a b : TPt) : Bool :=
  if bytesOf (a.1.take 32) = bytesOf (b.1.take 32) then decide (a.2.1 < b.2.1) else strLt (bytesOf (a.1.take 32)) (bytesOf (b.1.take 32))
theorem less10_eq (k : Nat) (a b : TPt) : bedrocklaw10_less k a b = some (lessS a b, ()) := by
  unfold bedrocklaw10_less bedrocklaw10_less.c lessS
  dsimp only
  rw [List.drop_zero, List.drop_zero, strEq_dec]
  by_cases h : bytesOf (a.1.take 32) = bytesOf (b.1.take 32)
  · rw [decide_eq_true h, if_pos h]; rfl
  · rw [decide_eq_false h, if_neg h]; rfl
theorem cmpU32_eq (k : Nat) (x y : Int) : cmp_Compare_uint32 k x y = some (if x < y then -1 else if x > y then 1 else 0, ()) := by
  unfold cmp_Compare_uint32 cmp_Compare_uint32.c
  have n : ∀ z, cmp_isNaN_uint32 k z = some (false, ()) := fun z => by
    unfold cmp_isNaN_uint32 cmp_isNaN_uint32.c
    rw [bne_self_eq_false]
  rw [n, n]
  simp only [Option.bind_some, cond_false]
  by_cases h : x < y
  · rw [bif_yes h, if_pos h]
  · rw [bif_no h, if_neg h]
    by_cases h2 : x > y
    · rw [bif_yes h2, if_pos h2]
    · rw [bif_no h2, if_neg h2]
theorem tx_Less_eq {k : Nat} (hk : 3 ≤ k) (a b : TPt) : tx_Less k a b = some (lessS a b, ()) := by
  unfold tx_Less tx_Less.c
  dsimp only
  rw [List.drop_zero, List.drop_zero]
  have e : bytes_Compare k (a.1.take 32) (b.1.take 32) = some (cmpB (a.1.take 32) (b.1.take 32), ()) := rfl
  rw [e]
  simp only [Option.bind_some]
  rw [cmpU32_eq]
  simp only [Option.bind_some]
  rw [or2 hk]
  simp only [Option.bind_some]
  unfold lessS cmpB strLt
  rw [Lib.toList_data, Lib.toList_data]
  by_cases h : bytesOf (a.1.take 32) = bytesOf (b.1.take 32)
  · rw [if_pos h, h, if_pos ((cmp_zero _ _).2 rfl)]
    congr 2
    by_cases h1 : a.2.1 < b.2.1
    · rw [if_pos h1]; simp [h1]
    · rw [if_neg h1, decide_eq_false h1]
      split <;> simp
  · have hne : ¬ (bytesOf (a.1.take 32)).data.toList = (bytesOf (b.1.take 32)).data.toList := fun e => h (ByteArray.ext (Array.ext' e))
    rw [if_neg h, if_neg (fun e => hne ((cmp_zero _ _).1 e)), cmp_neg]

theorem gIn_inj {a b : TIn} (h : gIn a = gIn b) : a = b := by
  obtain ⟨⟨h1, i1, ⟨⟩⟩, k1, s1, ⟨⟩⟩ := a
  obtain ⟨⟨h2, i2, ⟨⟩⟩, k2, s2, ⟨⟩⟩ := b
  simp only [gIn, Prod.mk.injEq] at h
  obtain ⟨rfl, rfl, rfl, rfl, _⟩ := h
  rfl
theorem map_gIn_inj : ∀ {l m : List TIn}, l.map gIn = m.map gIn → l = m
  | [], [], _ => rfl
  | [], _ :: _, h => by simp at h
  | _ :: _, [], h => by simp at h
  | a :: l, b :: m, h => by
    simp only [List.map_cons, List.cons.injEq] at h
    rw [gIn_inj h.1, map_gIn_inj h.2]
theorem gTx_inj {a b : TTx} : gTx a = gTx b ↔ a = b := by
  refine ⟨fun h => ?_, fun h => by rw [h]⟩
  obtain ⟨v1, i1, o1, t1, ⟨⟩⟩ := a
  obtain ⟨v2, i2, o2, t2, ⟨⟩⟩ := b
  simp only [gTx, Prod.mk.injEq] at h
  obtain ⟨rfl, h2, rfl, rfl, _⟩ := h
  rw [map_gIn_inj h2]

theorem txPoints_true {t u : TTx} (h1 : t.2.1.length ≤ 1048576) (h2 : t.2.2.1.length ≤ 1048576) (h3 : u.2.1.length ≤ 1048576) (h4 : u.2.2.1.length ≤ 1048576) (id : List Int) : bedrocklaw10_TxPoints 3000000 t u id = some (true, ()) := by
  unfold bedrocklaw10_TxPoints bedrocklaw10_TxPoints.c
  generalize hk : 3000000 = k
  show (tx_Points k t).bind _ = _
  rw [tx_Points_eq (by omega) (by omega)]
  simp only [Option.bind_some]
  show (tx_Pairs k id t).bind _ = _
  rw [tx_Pairs_eq (by omega) (by omega)]
  simp only [Option.bind_some]
  have hp : bedrocklaw10_TxPoints.p0 k (t.2.1.map Prod.fst, pairL id t.2.2.1.length, t, u, id, ()) = some (.inr (t.2.1.map Prod.fst, pairL id t.2.2.1.length, t, id, ())) := by
    unfold bedrocklaw10_TxPoints.p0
    simp only [bedrocklaw10_TxPoints.p0.r]
    rw [awake10 (by omega)]
    simp only [Option.bind_some, Bool.not_true, cond_false]
    rw [List.length_map, pairL_length, bne_self_eq_false, bne_self_eq_false, cond_false, cond_false]
    show (tx_Same k t u).bind _ = _
    rw [tx_Same_eq (by omega) ⟨by omega, by omega⟩]
    simp only [Option.bind_some]
    show (bedrocklaw10_given k t).bind _ = _
    rw [given_eq (by omega) (by omega) (by omega)]
    simp only [Option.bind_some]
    show (bedrocklaw10_given k u).bind _ = _
    rw [given_eq (by omega) (by omega) (by omega)]
    simp only [Option.bind_some]
    show (bedrocklaw10_same k (gTx t) (gTx u)).bind _ = _
    rw [same10_eq (by show (t.2.1.map gIn).length + t.2.2.1.length + 1 ≤ k; rw [List.length_map]; omega) ⟨by show (t.2.1.map gIn).length ≤ _; rw [List.length_map]; omega, by show t.2.2.1.length ≤ _; omega⟩]
    simp only [Option.bind_some]
    rw [decide_eq_decide.2 gTx_inj, beq_self_eq_true]
    rfl
  show (bedrocklaw10_TxPoints.p0 k (t.2.1.map Prod.fst, pairL id t.2.2.1.length, t, u, id, ())).bind _ = _
  rw [hp]
  simp only [Option.bind_some]
  rw [List.length_map]
  have hl1 : bedrocklaw10_TxPoints.l1 k k (t.2.1.map Prod.fst, pairL id t.2.2.1.length, t.2.1.map Prod.fst, (t.2.1.length : Int), (0 : Int), t, id, ()) = some (.inr (pairL id t.2.2.1.length, id, ())) := by
    have := loop_from0 (r := bedrocklaw10_TxPoints.l1.r k) (fun i => (t.2.1.map Prod.fst, pairL id t.2.2.1.length, t.2.1.map Prod.fst, (t.2.1.length : Int), (i : Int), t, id, ())) t.2.1.length (.inr (pairL id t.2.2.1.length, id, ())) ?_ ?_ (fuel := k) (by omega)
    · exact this
    · intro i hi kn ke
      simp only [bedrocklaw10_TxPoints.l1.r]
      have hP : (t.2.1.map Prod.fst).getD i dPt = (t.2.1.getD i dIn).1 := by
        rw [List.getD_eq_getElem?_getD, List.getD_eq_getElem?_getD, List.getElem?_map, List.getElem?_eq_getElem hi]
        rfl
      rw [bif_yes (by omega), bif_yes (by rw [List.length_map]; omega), bif_yes (by omega), show (i : Int).toNat = i by omega, dPt_eq, hP]
      rw [show ((dPt, ByteArray.empty, (0 : Int), ()) : TIn) = dIn from rfl, decide_eq_true rfl, beq_self_eq_true]
      simp only [Bool.and_true, Bool.not_true, cond_false]
      have h0 : (0 : Int) ≤ 0 ∧ (0 : Int) < ((List.length (t.2.1.map Prod.fst) : Nat) : Int) := by rw [List.length_map]; omega
      rw [bif_yes h0]
      generalize (t.2.1.getD i dIn).1 = p
      generalize (t.2.1.map Prod.fst).getD 0 dPt = q
      show (tx_Less k q p).bind _ = _
      rw [tx_Less_eq (by omega)]
      simp only [Option.bind_some]
      rw [bif_yes h0]
      show (bedrocklaw10_less k q p).bind _ = _
      rw [less10_eq]
      simp only [Option.bind_some]
      rw [beq_self_eq_true, Bool.not_true, cond_false, bif_yes h0]
      show (tx_Less k p q).bind _ = _
      rw [tx_Less_eq (by omega)]
      simp only [Option.bind_some]
      rw [bif_yes h0]
      show (bedrocklaw10_less k p q).bind _ = _
      rw [less10_eq]
      simp only [Option.bind_some]
      rw [beq_self_eq_true, Bool.not_true, cond_false, i64_in (by omega)]
      rfl
    · intro kn ke
      simp only [bedrocklaw10_TxPoints.l1.r]
      rw [bif_no (by omega)]
  show (bedrocklaw10_TxPoints.l1 k k (t.2.1.map Prod.fst, pairL id t.2.2.1.length, t.2.1.map Prod.fst, (t.2.1.length : Int), (0 : Int), t, id, ())).bind _ = _
  rw [hl1]
  simp only [Option.bind_some]
  rw [pairL_length]
  have hl2 : bedrocklaw10_TxPoints.l2 k k (pairL id t.2.2.1.length, (t.2.2.1.length : Int), (0 : Int), id, ()) = some (.inr ()) := by
    have := loop_from0 (r := bedrocklaw10_TxPoints.l2.r k) (fun i => (pairL id t.2.2.1.length, (t.2.2.1.length : Int), (i : Int), id, ())) t.2.2.1.length (.inr ()) ?_ ?_ (fuel := k) (by omega)
    · exact this
    · intro i hi kn ke
      simp only [bedrocklaw10_TxPoints.l2.r]
      rw [bif_yes (by omega), bif_yes (by rw [pairL_length]; omega), show (i : Int).toNat = i by omega, dPt_eq, pairL_getD id hi, u32_in (by omega)]
      rw [decide_eq_true rfl, beq_self_eq_true]
      simp only [Bool.and_true, Bool.not_true, cond_false]
      rw [i64_in (by omega)]
      rfl
    · intro kn ke
      simp only [bedrocklaw10_TxPoints.l2.r]
      rw [bif_no (by omega)]
  rw [hl2]
  rfl
end Go.Am
/- What the rows on transactions share. -/
namespace Go.Am
open Go

abbrev inTy : Ty := .pair (.pair (.arr 32 (.int .u8)) (.pair (.int .u32) .unit)) (.pair .str (.pair (.int .u32) .unit))
abbrev outTy : Ty := .pair (.int .u64) (.pair .str .unit)
abbrev txTy : Ty := .pair (.int .u32) (.pair (.sl inTy) (.pair (.sl outTy) (.pair (.int .u32) .unit)))
theorem hash_wf {N : Nat} {l : List Int} (h : WF N (.arr 32 (.int .u8)) l) : l.length = 32 ∧ bytesIn l :=
  ⟨h.1, all_getD (p := fun x => 0 ≤ x ∧ x < 256) fun i hi => by
    have := wf_u8 (h.2 i (by have := h.1; omega))
    have e : l.getD i (Ty.zero (.int .u8)) = l.getD i 0 := rfl
    rw [e] at this
    omega⟩
theorem u32_wf {N : Nat} {x : Int} (h : WF N (.int .u32) x) : u32R x := wf_u32 h
theorem inOK_of {N : Nat} {x : TIn} (h : WF N inTy x) : InOK x := ⟨hash_wf h.1.1, u32_wf (N := N) h.1.2.1, u32_wf (N := N) h.2.2.1⟩
theorem outOK_of {N : Nat} {x : TOut} (h : WF N outTy x) : OutOK x := wf_u64 h.1
theorem txOK_of {N : Nat} (hN : N ≤ 140737488355328) {t : TTx} (h : WF N txTy t) : TxOK t where
  v := u32_wf (N := N) h.1
  tm := u32_wf (N := N) h.2.2.2.1
  ins := fun i hi => inOK_of (h.2.1.2 i hi)
  outs := fun i hi => outOK_of (h.2.2.1.2 i hi)
  nin := Nat.le_trans h.2.1.1 hN
  nout := Nat.le_trans h.2.2.1.1 hN
end Go.Am
