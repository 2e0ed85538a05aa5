/- A part of a proof: a machine of abstract values that tells what functions of the program compute, and the plain facts on them. -/
import Derived.Test.YtnibopdcpbebcaaGreatAm8
import Derived.KernelRfl
set_option linter.unusedVariables false
set_option linter.unusedSimpArgs false
set_option linter.unnecessarySimpa false
set_option linter.unusedSectionVars false
namespace Go.Am
abbrev Qg0 : Type := ((Unit × (Unit × Unit)) × Unit)
abbrev QfZ : Type := (List (Int × (ByteArray × Unit)))
abbrev QfY : Ty := (.sl (.pair (.int .u64) (.pair .str .unit)))
abbrev QfX : Type := ( Qg0  × (List Int) × Unit)
abbrev QfW : Type := (List (((List Int) × (Int × Unit)) × (ByteArray × (Int × Unit))))
abbrev QfV : Ty := (.sl (.pair (.pair (.arr 32 (.int .u8)) (.pair (.int .u32) .unit)) (.pair .str (.pair (.int .u32) .unit))))
abbrev QfU : Type := (Int × ( QfW  × ( QfZ  × (Int × Unit))))
abbrev QfT : Type := ( QfU  × Unit)
abbrev QfS : Type := ( QfU  ×  Qg0  × (List Int) × Unit)
abbrev QfR : Ty := (.pair (.int .u32) (.pair  QfV  (.pair  QfY  (.pair (.int .u32) .unit))))
end Go.Am
namespace Go.Am
open Go Go.Proofs
set_option maxRecDepth 100000
def Q0w.c (k : Nat) {ρ : Type} (n : Int) (K : Int × Unit → Option ρ) : Option ρ :=
 bif (decide (n < (253 : Int))) then (K ((1 : Int), ())) else (bif (decide (n < (65536 : Int))) then (K ((3 : Int), ())) else (bif (decide (n < (4294967296 : Int))) then (K ((5 : Int), ())) else (K ((9 : Int), ()))))
def Q0w (k : Nat) (n : Int) : Option (Int × Unit) := Q0w.c k n some
def Q0w.tin : List Ty := [(.int .u64)]
def Q0w.tout : List Ty := [(.int .i64)]
def Q0w.sem (k : Nat) : QP := QW Q0w.tin Q0w.tout fun x => Q0w k x.1
noncomputable def Q0w.ctx (k : Nat) : Ctx := ⟨Tryz.prog, gam []⟩
theorem Q0w.gok (k : Nat) : ∀ f, QF Tryz.prog f ((Q0w.ctx k).Γ f) := QX
def Q0w.ann (k : Nat) : Ann := .nil
theorem Q0w.body (k : Nat) : Q0R (Q0w.ctx k) Tryz.f53 (Func.code Tryz.f53) (Q0w.ann k) Q0w.tin Q0w.tout (fun x K => Q0w.c k x.1 K) := by
 intro ρ x K; kernel_rfl
theorem Q0w.sem_ok (k : Nat) : QF Tryz.prog 53 (Q0w.sem k) :=
 QD (C := Q0w.ctx k) (Q0w.gok k) Tryz.mix (c := Func.code Tryz.f53) (ann := Q0w.ann k) (tin := Q0w.tin) (tout := Q0w.tout) (fun x K => Q0w.c k x.1 K) Tryz.func53 (by kernel_rfl) (by kernel_rfl) Q1.nil (Q0w.body k)
def Q1z.c (k : Nat) {ρ : Type} (n : Int) (K : Int × Unit → Option ρ) : Option ρ :=
 (Q0w k (IntKind.wrap IntKind.u64 n)).bind fun t0 => let v1 : Int := (IntKind.wrap IntKind.i64 (t0.1 + n))
 K (v1, ())
def Q1z (k : Nat) (n : Int) : Option (Int × Unit) := Q1z.c k n some
def Q1z.tin : List Ty := [(.int .i64)]
def Q1z.tout : List Ty := [(.int .i64)]
def Q1z.sem (k : Nat) : QP := QW Q1z.tin Q1z.tout fun x => Q1z k x.1
noncomputable def Q1z.ctx (k : Nat) : Ctx := ⟨Tryz.prog, gam [(53, (Q0w.sem k))]⟩
theorem Q1z.gok (k : Nat) : ∀ f, QF Tryz.prog f ((Q1z.ctx k).Γ f) := (Qk (Q0w.sem_ok k) QX)
def Q1z.ann (k : Nat) : Ann := .nil
theorem Q1z.body (k : Nat) : Q0R (Q1z.ctx k) Tryz.f87 (Func.code Tryz.f87) (Q1z.ann k) Q1z.tin Q1z.tout (fun x K => Q1z.c k x.1 K) := by
 intro ρ x K; kernel_rfl
theorem Q1z.sem_ok (k : Nat) : QF Tryz.prog 87 (Q1z.sem k) :=
 QD (C := Q1z.ctx k) (Q1z.gok k) Tryz.mix (c := Func.code Tryz.f87) (ann := Q1z.ann k) (tin := Q1z.tin) (tout := Q1z.tout) (fun x K => Q1z.c k x.1 K) Tryz.func87 (by kernel_rfl) (by kernel_rfl) Q1.nil (Q1z.body k)
abbrev Q0t.l0.σ : Type := Int × QfW × Int × Int × QfU × Unit
abbrev Q0t.l0.τ : Type := (Int × QfU × Unit)
def Q0t.l0.r (k : Nat) {ρ : Type} (x : Q0t.l0.σ) (kn : Q0t.l0.σ → Option ρ) (ke : Q0t.l0.τ → Option ρ) : Option ρ :=
 bif (decide (x.2.2.2.1 < x.2.2.1)) then (bif (decide (((0 : Int) ≤ x.2.2.2.1) ∧ (x.2.2.2.1 < (((List.length x.2.1) : Nat) : Int)))) then (let v11 : ByteArray := (List.getD x.2.1 (Int.toNat x.2.2.2.1) (((List.replicate 32 (0 : Int)), ((0 : Int), ())), (ByteArray.empty, ((0 : Int), ())))).2.1
 (Q1z k (((ByteArray.size v11) : Nat) : Int)).bind fun t12 => let v13 : Int := (IntKind.wrap IntKind.i64 ((40 : Int) + t12.1))
 let v14 : Int := (IntKind.wrap IntKind.i64 (x.1 + v13))
 let v15 : Int := (IntKind.wrap IntKind.i64 (x.2.2.2.1 + (1 : Int)))
 kn (v14, (x.2.1, (x.2.2.1, (v15, ((x.2.2.2.2.1.1, (x.2.2.2.2.1.2.1, (x.2.2.2.2.1.2.2.1, (x.2.2.2.2.1.2.2.2.1, ())))), ())))))) else (none)) else (ke (x.1, ((x.2.2.2.2.1.1, (x.2.2.2.2.1.2.1, (x.2.2.2.2.1.2.2.1, (x.2.2.2.2.1.2.2.2.1, ())))), ())))
def Q0t.l0 (k : Nat) : Nat → Q0t.l0.σ → Option Q0t.l0.τ := Q14 (Q0t.l0.r k)
def Q0t.l0.T : StT := ⟨us 1 ++ .ptr 0 [] :: us 1 ++ .dat (.int .i64) :: us 18 ++ .dat QfV :: .dat (.int .i64) :: .dat (.int .i64) :: us 27, [.dat QfR]⟩
def Q0t.l0.os : List Out := [⟨(.exit 0), [.mask [1, 3], .auto 0], ⟨us 1 ++ .ptr 0 [] :: us 1 ++ .dat (.int .i64) :: us 48, [.dat QfR]⟩⟩]
abbrev Q0t.l1.σ : Type := Int × QfZ × Int × Int × Unit
abbrev Q0t.l1.τ : Type := (Int × Unit)
def Q0t.l1.r (k : Nat) {ρ : Type} (x : Q0t.l1.σ) (kn : Q0t.l1.σ → Option ρ) (ke : Q0t.l1.τ → Option ρ) : Option ρ :=
 bif (decide (x.2.2.2.1 < x.2.2.1)) then (bif (decide (((0 : Int) ≤ x.2.2.2.1) ∧ (x.2.2.2.1 < (((List.length x.2.1) : Nat) : Int)))) then (let v19 : ByteArray := (List.getD x.2.1 (Int.toNat x.2.2.2.1) ((0 : Int), (ByteArray.empty, ()))).2.1
 (Q1z k (((ByteArray.size v19) : Nat) : Int)).bind fun t20 => let v21 : Int := (IntKind.wrap IntKind.i64 ((8 : Int) + t20.1))
 let v22 : Int := (IntKind.wrap IntKind.i64 (x.1 + v21))
 let v23 : Int := (IntKind.wrap IntKind.i64 (x.2.2.2.1 + (1 : Int)))
 kn (v22, (x.2.1, (x.2.2.1, (v23, ()))))) else (none)) else (ke (x.1, ()))
def Q0t.l1 (k : Nat) : Nat → Q0t.l1.σ → Option Q0t.l1.τ := Q14 (Q0t.l1.r k)
def Q0t.l1.T : StT := ⟨us 3 ++ .dat (.int .i64) :: us 33 ++ .dat QfY :: .dat (.int .i64) :: .dat (.int .i64) :: us 12, []⟩
def Q0t.l1.os : List Out := [⟨(.exit 2), [.mask [3], .auto 0], ⟨us 3 ++ .dat (.int .i64) :: us 48, []⟩⟩]
def Q0t.c (k : Nat) {ρ : Type} (t : QfU) (K : Int × Unit → Option ρ) : Option ρ :=
 let v0 : QfW := t.2.1
 let v1 : Int := (((List.length v0) : Nat) : Int)
 (Q0w k (IntKind.wrap IntKind.u64 v1)).bind fun t2 => let v3 : Int := (IntKind.wrap IntKind.i64 ((4 : Int) + t2.1))
 let v4 : QfZ := t.2.2.1
 let v5 : Int := (((List.length v4) : Nat) : Int)
 (Q0w k (IntKind.wrap IntKind.u64 v5)).bind fun t6 => let v7 : Int := (IntKind.wrap IntKind.i64 (v3 + t6.1))
 let v8 : Int := (IntKind.wrap IntKind.i64 (v7 + (4 : Int)))
 let v9 : QfW := t.2.1
 let v10 : Int := (((List.length v9) : Nat) : Int)
 (Q0t.l0 k k (v8, (v9, (v10, ((0 : Int), ((t.1, (t.2.1, (t.2.2.1, (t.2.2.2.1, ())))), ())))))).bind fun t16 => let v17 : QfZ := t16.2.1.2.2.1
 let v18 : Int := (((List.length v17) : Nat) : Int)
 (Q0t.l1 k k (t16.1, (v17, (v18, ((0 : Int), ()))))).bind fun t24 => K (t24.1, ())
def Q0t (k : Nat) (t : QfU) : Option (Int × Unit) := Q0t.c k t some
def Q0t.tin : List Ty := [QfR]
def Q0t.tout : List Ty := [(.int .i64)]
def Q0t.sem (k : Nat) : QP := QW Q0t.tin Q0t.tout fun x => Q0t k x.1
noncomputable def Q0t.ctx (k : Nat) : Ctx := ⟨Tryz.prog, gam [(53, (Q0w.sem k)), (87, (Q1z.sem k))]⟩
theorem Q0t.gok (k : Nat) : ∀ f, QF Tryz.prog f ((Q0t.ctx k).Γ f) := (Qk (Q0w.sem_ok k) (Qk (Q1z.sem_ok k) QX))
theorem Q0t.l0.round (k : Nat) : Q10 (Q0t.ctx k) (QM (Func.code Tryz.f54) [1, 1, 0, 1, 0, 0]) (.nil) Q0t.l0.T [.mask [1, 3, 22, 23, 24], .auto 0] Q0t.l0.os (Q0t.l0.r k) := by
 intro ρ x kn ke; kernel_rfl
theorem Q0t.l0.ok (k : Nat) : StOK 0 Tryz.prog (.loop (QM (Func.code Tryz.f54) [1, 1, 0, 1, 0, 0])) (Qn Q0t.l0.T Q0t.l0.os (Q0t.l0 k k)) :=
 Q11 (C := Q0t.ctx k) (Q0t.gok k) Tryz.mix Q1.nil (by kernel_rfl) (by kernel_rfl) (by kernel_rfl) (Q0t.l0.round k) k
theorem Q0t.l1.round (k : Nat) : Q10 (Q0t.ctx k) (QM (Func.code Tryz.f54) [1, 1, 1, 0, 1, 0, 0]) (.nil) Q0t.l1.T [.mask [3, 37, 38, 39], .auto 0] Q0t.l1.os (Q0t.l1.r k) := by
 intro ρ x kn ke; kernel_rfl
theorem Q0t.l1.ok (k : Nat) : StOK 0 Tryz.prog (.loop (QM (Func.code Tryz.f54) [1, 1, 1, 0, 1, 0, 0])) (Qn Q0t.l1.T Q0t.l1.os (Q0t.l1 k k)) :=
 Q11 (C := Q0t.ctx k) (Q0t.gok k) Tryz.mix Q1.nil (by kernel_rfl) (by kernel_rfl) (by kernel_rfl) (Q0t.l1.round k) k
def Q0t.ann (k : Nat) : Ann := .node [] none (.nil) (.node [] none (.nil) (.node [] none (.node [] none (.nil) (.node [] none (.node [.mask [1, 3, 22, 23, 24], .auto 0] (some (Qn Q0t.l0.T Q0t.l0.os (Q0t.l0 k k))) .nil .nil) (.nil))) (.node [] none (.node [] none (.nil) (.node [] none (.node [.mask [3, 37, 38, 39], .auto 0] (some (Qn Q0t.l1.T Q0t.l1.os (Q0t.l1 k k))) .nil .nil) (.nil))) (.nil))))
theorem Q0t.body (k : Nat) : Q0R (Q0t.ctx k) Tryz.f54 (Func.code Tryz.f54) (Q0t.ann k) Q0t.tin Q0t.tout (fun x K => Q0t.c k x.1 K) := by
 intro ρ x K; kernel_rfl
theorem Q0t.sem_ok (k : Nat) : QF Tryz.prog 54 (Q0t.sem k) :=
 QD (C := Q0t.ctx k) (Q0t.gok k) Tryz.mix (c := Func.code Tryz.f54) (ann := Q0t.ann k) (tin := Q0t.tin) (tout := Q0t.tout) (fun x K => Q0t.c k x.1 K) Tryz.func54 (by kernel_rfl) (by kernel_rfl) (Q1.seq Q1.nil (Q1.seq Q1.nil (Q1.seq (Q1.seq Q1.nil (Q1.block (Q1.loop (by kernel_rfl) (Q0t.l0.ok k)))) (Q1.seq (Q1.seq Q1.nil (Q1.block (Q1.loop (by kernel_rfl) (Q0t.l1.ok k)))) Q1.nil)))) (Q0t.body k)
abbrev Q0C.τ : Type := QfX 
def Q0C.c (k : Nat) {ρ : Type}  (K : Q0C.τ → Option ρ) : Option ρ :=
 K ((((), ((), ())), ()), ([], ()))
def Q0C (k : Nat)  : Option Q0C.τ := Q0C.c k  some
def Q0C.T : Q1T := ⟨[], [], 0⟩
def Q0C.os : List Out := [⟨.ret, [.auto 0], ⟨[.ptr 0 []], [.pair (.pair (.sfp 0 [0] 111) (.pair (.vbs 1) (.dat .unit))) (.dat .unit), .vec (.int .u8)]⟩⟩]
def Q0C.sem (k : Nat) : QP := Q24 Q0C.T Q0C.os fun x => Q0C k 
noncomputable def Q0C.ctx (k : Nat) : Ctx := ⟨Tryz.prog, gam []⟩
theorem Q0C.gok (k : Nat) : ∀ f, QF Tryz.prog f ((Q0C.ctx k).Γ f) := QX
def Q0C.ann (k : Nat) : Ann := .nil
theorem Q0C.body (k : Nat) : Q23 (Q0C.ctx k) Tryz.f23 (Func.code Tryz.f23) (Q0C.ann k) Q0C.T Q0C.os (fun x K => Q0C.c k  K) := by
 intro ρ x K; kernel_rfl
theorem Q0C.sem_ok (k : Nat) : QF Tryz.prog 23 (Q0C.sem k) :=
 Q1x (C := Q0C.ctx k) (Q0C.gok k) Tryz.mix (c := Func.code Tryz.f23) (ann := Q0C.ann k) (T := Q0C.T) (os := Q0C.os) (fun x K => Q0C.c k  K) Tryz.func23 (by kernel_rfl) (by kernel_rfl) Q1.nil (Q0C.body k) (by kernel_rfl) (by kernel_rfl) (by kernel_rfl)
abbrev Q0L.l0.σ : Type := Int × Int × Int × (List Int) × Unit
abbrev Q0L.l0.τ : Type := ((List Int) × Unit)
def Q0L.l0.r (k : Nat) {ρ : Type} (x : Q0L.l0.σ) (kn : Q0L.l0.σ → Option ρ) (ke : Q0L.l0.τ → Option ρ) : Option ρ :=
 bif (decide (x.2.2.1 < x.2.1)) then (let v1 : Int := (IntKind.wrap IntKind.i64 ((8 : Int) * x.2.2.1))
 bif (decide ((0 : Int) ≤ v1)) then (let v2 : Int := (Q1H IntKind.u64 x.1 v1)
 bif (decide (((0 : Int) ≤ x.2.2.1) ∧ (x.2.2.1 < (((List.length x.2.2.2.1) : Nat) : Int)))) then (let v3 : Int := (IntKind.wrap IntKind.i64 (x.2.2.1 + (1 : Int)))
 kn (x.1, (x.2.1, (v3, ((List.set x.2.2.2.1 (Int.toNat x.2.2.1) (IntKind.wrap IntKind.u8 v2)), ()))))) else (none)) else (none)) else (ke (x.2.2.2.1, ()))
def Q0L.l0 (k : Nat) : Nat → Q0L.l0.σ → Option Q0L.l0.τ := Q14 (Q0L.l0.r k)
def Q0L.l0.T : StT := ⟨.dat (.int .u64) :: us 4 ++ .vsl 0 :: us 4 ++ .dat (.int .i64) :: .dat (.int .i64) :: us 13, [.vec (.int .u8)]⟩
def Q0L.l0.os : List Out := [⟨(.exit 0), [.mask [5], .auto 0], ⟨us 5 ++ .vsl 0 :: us 19, [.vec (.int .u8)]⟩⟩]
def Q0L.c (k : Nat) {ρ : Type} (n : Int) (bytes : Int) (K : ByteArray × Unit → Option ρ) : Option ρ :=
 bif ((decide (((0 : Int) ≤ bytes) ∧ (bytes ≤ bytes))) && (Nat.ble ((Int.toNat bytes) * 1) 140737488355328)) then (let v0 : Int := (((List.length (List.replicate (Int.toNat bytes) (0 : Int))) : Nat) : Int)
 (Q0L.l0 k k (n, (v0, ((0 : Int), ((List.replicate (Int.toNat bytes) (0 : Int)), ()))))).bind fun t4 => K ((bytesOf t4.1), ())) else (none)
def Q0L (k : Nat) (n : Int) (bytes : Int) : Option (ByteArray × Unit) := Q0L.c k n bytes some
def Q0L.tin : List Ty := [(.int .u64), (.int .i64)]
def Q0L.tout : List Ty := [.str]
def Q0L.sem (k : Nat) : QP := QW Q0L.tin Q0L.tout fun x => Q0L k x.1 x.2.1
noncomputable def Q0L.ctx (k : Nat) : Ctx := ⟨Tryz.prog, gam []⟩
theorem Q0L.gok (k : Nat) : ∀ f, QF Tryz.prog f ((Q0L.ctx k).Γ f) := QX
theorem Q0L.l0.round (k : Nat) : Q10 (Q0L.ctx k) (QM (Func.code Tryz.f56) [1, 1, 0, 1, 0, 0]) (.nil) Q0L.l0.T [.mask [0, 5, 10, 11], .auto 0] Q0L.l0.os (Q0L.l0.r k) := by
 intro ρ x kn ke; kernel_rfl
theorem Q0L.l0.ok (k : Nat) : StOK 0 Tryz.prog (.loop (QM (Func.code Tryz.f56) [1, 1, 0, 1, 0, 0])) (Qn Q0L.l0.T Q0L.l0.os (Q0L.l0 k k)) :=
 Q11 (C := Q0L.ctx k) (Q0L.gok k) Tryz.mix Q1.nil (by kernel_rfl) (by kernel_rfl) (by kernel_rfl) (Q0L.l0.round k) k
def Q0L.ann (k : Nat) : Ann := .node [] none (.nil) (.node [] none (.nil) (.node [] none (.node [] none (.nil) (.node [] none (.node [.mask [0, 5, 10, 11], .auto 0] (some (Qn Q0L.l0.T Q0L.l0.os (Q0L.l0 k k))) .nil .nil) (.nil))) (.nil)))
theorem Q0L.body (k : Nat) : Q0R (Q0L.ctx k) Tryz.f56 (Func.code Tryz.f56) (Q0L.ann k) Q0L.tin Q0L.tout (fun x K => Q0L.c k x.1 x.2.1 K) := by
 intro ρ x K; kernel_rfl
theorem Q0L.sem_ok (k : Nat) : QF Tryz.prog 56 (Q0L.sem k) :=
 QD (C := Q0L.ctx k) (Q0L.gok k) Tryz.mix (c := Func.code Tryz.f56) (ann := Q0L.ann k) (tin := Q0L.tin) (tout := Q0L.tout) (fun x K => Q0L.c k x.1 x.2.1 K) Tryz.func56 (by kernel_rfl) (by kernel_rfl) (Q1.seq Q1.nil (Q1.seq Q1.nil (Q1.seq (Q1.seq Q1.nil (Q1.block (Q1.loop (by kernel_rfl) (Q0L.l0.ok k)))) Q1.nil))) (Q0L.body k)
abbrev QA.τ : Type := (Int × Qg0 × (List Int) × Unit)
def QA.c (k : Nat) {ρ : Type} (s : ByteArray) (b0 : Qg0) (b1 : (List Int)) (K : QA.τ → Option ρ) : Option ρ :=
 bif (Nat.ble (((List.length b1) + (List.length (QQ s))) * 1) 140737488355328) then (K ((((ByteArray.size s) : Nat) : Int), ((((), ((), ())), ()), ((b1 ++ (QQ s)), ())))) else (none)
def QA (k : Nat) (s : ByteArray) (b0 : Qg0) (b1 : (List Int)) : Option QA.τ := QA.c k s b0 b1 some
def QA.T : Q1T := ⟨[.ptr 0 [0], .dat .str], [.pair (.pair (.sfp 0 [0] 111) (.pair (.vbs 1) (.dat .unit))) (.dat .unit), .vec (.int .u8)], 1⟩
def QA.os : List Out := [⟨.ret, [.freeze (.slot 0), .auto 1], ⟨[.dat (.int .i64), .undef], [.pair (.pair (.sfp 0 [0] 111) (.pair (.vbs 1) (.dat .unit))) (.dat .unit), .vec (.int .u8)]⟩⟩]
def QA.sem (k : Nat) : QP := Q24 QA.T QA.os fun x => QA k x.1 x.2.1 x.2.2.1
noncomputable def QA.ctx (k : Nat) : Ctx := ⟨Tryz.prog, gam [(110, (Qdf 111 2))]⟩
theorem QA.gok (k : Nat) : ∀ f, QF Tryz.prog f ((QA.ctx k).Γ f) := (Qk Bld.copyCheck QX)
def QA.ann (k : Nat) : Ann := .nil
theorem QA.body (k : Nat) : Q23 (QA.ctx k) Tryz.f71 (Func.code Tryz.f71) (QA.ann k) QA.T QA.os (fun x K => QA.c k x.1 x.2.1 x.2.2.1 K) := by
 intro ρ x K; kernel_rfl
theorem QA.sem_ok (k : Nat) : QF Tryz.prog 71 (QA.sem k) :=
 Q1x (C := QA.ctx k) (QA.gok k) Tryz.mix (c := Func.code Tryz.f71) (ann := QA.ann k) (T := QA.T) (os := QA.os) (fun x K => QA.c k x.1 x.2.1 x.2.2.1 K) Tryz.func71 (by kernel_rfl) (by kernel_rfl) Q1.nil (QA.body k) (by kernel_rfl) (by kernel_rfl) (by kernel_rfl)
abbrev QK.τ : Type := QfX 
def QK.c (k : Nat) {ρ : Type} (s : ByteArray) (b0 : Qg0) (b1 : (List Int)) (K : QK.τ → Option ρ) : Option ρ :=
 (QA k s (((), ((), ())), ()) b1).bind fun t0 => K ((((), ((), ())), ()), (t0.2.2.1, ()))
def QK (k : Nat) (s : ByteArray) (b0 : Qg0) (b1 : (List Int)) : Option QK.τ := QK.c k s b0 b1 some
def QK.T : Q1T := ⟨[.ptr 0 [], .dat .str], [.pair (.pair (.sfp 0 [0] 111) (.pair (.vbs 1) (.dat .unit))) (.dat .unit), .vec (.int .u8)], 1⟩
def QK.os : List Out := [⟨.ret, [.auto 1], ⟨[], [.pair (.pair (.sfp 0 [0] 111) (.pair (.vbs 1) (.dat .unit))) (.dat .unit), .vec (.int .u8)]⟩⟩]
def QK.sem (k : Nat) : QP := Q24 QK.T QK.os fun x => QK k x.1 x.2.1 x.2.2.1
noncomputable def QK.ctx (k : Nat) : Ctx := ⟨Tryz.prog, gam [(71, (QA.sem k))]⟩
theorem QK.gok (k : Nat) : ∀ f, QF Tryz.prog f ((QK.ctx k).Γ f) := (Qk (QA.sem_ok k) QX)
def QK.ann (k : Nat) : Ann := .nil
theorem QK.body (k : Nat) : Q23 (QK.ctx k) Tryz.f40 (Func.code Tryz.f40) (QK.ann k) QK.T QK.os (fun x K => QK.c k x.1 x.2.1 x.2.2.1 K) := by
 intro ρ x K; kernel_rfl
theorem QK.sem_ok (k : Nat) : QF Tryz.prog 40 (QK.sem k) :=
 Q1x (C := QK.ctx k) (QK.gok k) Tryz.mix (c := Func.code Tryz.f40) (ann := QK.ann k) (T := QK.T) (os := QK.os) (fun x K => QK.c k x.1 x.2.1 x.2.2.1 K) Tryz.func40 (by kernel_rfl) (by kernel_rfl) Q1.nil (QK.body k) (by kernel_rfl) (by kernel_rfl) (by kernel_rfl)
abbrev Q0b.τ : Type := QfX 
def Q0b.c (k : Nat) {ρ : Type} (n : Int) (b0 : Qg0) (b1 : (List Int)) (K : Q0b.τ → Option ρ) : Option ρ :=
 (Q0L k (IntKind.wrap IntKind.u64 n) (4 : Int)).bind fun t0 => (QK k t0.1 (((), ((), ())), ()) b1).bind fun t1 => K ((((), ((), ())), ()), (t1.2.1, ()))
def Q0b (k : Nat) (n : Int) (b0 : Qg0) (b1 : (List Int)) : Option Q0b.τ := Q0b.c k n b0 b1 some
def Q0b.T : Q1T := ⟨[.ptr 0 [], .dat (.int .u32)], [.pair (.pair (.sfp 0 [0] 111) (.pair (.vbs 1) (.dat .unit))) (.dat .unit), .vec (.int .u8)], 1⟩
def Q0b.os : List Out := [⟨.ret, [.auto 1], ⟨[], [.pair (.pair (.sfp 0 [0] 111) (.pair (.vbs 1) (.dat .unit))) (.dat .unit), .vec (.int .u8)]⟩⟩]
def Q0b.sem (k : Nat) : QP := Q24 Q0b.T Q0b.os fun x => Q0b k x.1 x.2.1 x.2.2.1
noncomputable def Q0b.ctx (k : Nat) : Ctx := ⟨Tryz.prog, gam [(56, (Q0L.sem k)), (40, (QK.sem k))]⟩
theorem Q0b.gok (k : Nat) : ∀ f, QF Tryz.prog f ((Q0b.ctx k).Γ f) := (Qk (Q0L.sem_ok k) (Qk (QK.sem_ok k) QX))
def Q0b.ann (k : Nat) : Ann := .nil
theorem Q0b.body (k : Nat) : Q23 (Q0b.ctx k) Tryz.f24 (Func.code Tryz.f24) (Q0b.ann k) Q0b.T Q0b.os (fun x K => Q0b.c k x.1 x.2.1 x.2.2.1 K) := by
 intro ρ x K; kernel_rfl
theorem Q0b.sem_ok (k : Nat) : QF Tryz.prog 24 (Q0b.sem k) :=
 Q1x (C := Q0b.ctx k) (Q0b.gok k) Tryz.mix (c := Func.code Tryz.f24) (ann := Q0b.ann k) (T := Q0b.T) (os := Q0b.os) (fun x K => Q0b.c k x.1 x.2.1 x.2.2.1 K) Tryz.func24 (by kernel_rfl) (by kernel_rfl) Q1.nil (Q0b.body k) (by kernel_rfl) (by kernel_rfl) (by kernel_rfl)
def Q1o.c (k : Nat) {ρ : Type} (n : Int) (K : ByteArray × Unit → Option ρ) : Option ρ :=
 (Q0w k n).bind fun t0 => bif (t0.1 == (1 : Int)) then ((Q0L k n (1 : Int)).bind fun t1 => K (t1.1, ())) else (bif (t0.1 == (3 : Int)) then ((Q0L k (253 : Int) (1 : Int)).bind fun t2 => (Q0L k n (2 : Int)).bind fun t3 => bif (Nat.ble ((ByteArray.size t2.1) + (ByteArray.size t3.1)) 9223372036854775807) then (let v4 : ByteArray := (t2.1 ++ t3.1)
 K (v4, ())) else (none)) else (bif (t0.1 == (5 : Int)) then ((Q0L k (254 : Int) (1 : Int)).bind fun t5 => (Q0L k n (4 : Int)).bind fun t6 => bif (Nat.ble ((ByteArray.size t5.1) + (ByteArray.size t6.1)) 9223372036854775807) then (let v7 : ByteArray := (t5.1 ++ t6.1)
 K (v7, ())) else (none)) else ((Q0L k (255 : Int) (1 : Int)).bind fun t8 => (Q0L k n (8 : Int)).bind fun t9 => bif (Nat.ble ((ByteArray.size t8.1) + (ByteArray.size t9.1)) 9223372036854775807) then (let v10 : ByteArray := (t8.1 ++ t9.1)
 K (v10, ())) else (none))))
def Q1o (k : Nat) (n : Int) : Option (ByteArray × Unit) := Q1o.c k n some
def Q1o.tin : List Ty := [(.int .u64)]
def Q1o.tout : List Ty := [.str]
def Q1o.sem (k : Nat) : QP := QW Q1o.tin Q1o.tout fun x => Q1o k x.1
noncomputable def Q1o.ctx (k : Nat) : Ctx := ⟨Tryz.prog, gam [(53, (Q0w.sem k)), (56, (Q0L.sem k))]⟩
theorem Q1o.gok (k : Nat) : ∀ f, QF Tryz.prog f ((Q1o.ctx k).Γ f) := (Qk (Q0w.sem_ok k) (Qk (Q0L.sem_ok k) QX))
def Q1o.ann (k : Nat) : Ann := .nil
theorem Q1o.body (k : Nat) : Q0R (Q1o.ctx k) Tryz.f72 (Func.code Tryz.f72) (Q1o.ann k) Q1o.tin Q1o.tout (fun x K => Q1o.c k x.1 K) := by
 intro ρ x K; kernel_rfl
theorem Q1o.sem_ok (k : Nat) : QF Tryz.prog 72 (Q1o.sem k) :=
 QD (C := Q1o.ctx k) (Q1o.gok k) Tryz.mix (c := Func.code Tryz.f72) (ann := Q1o.ann k) (tin := Q1o.tin) (tout := Q1o.tout) (fun x K => Q1o.c k x.1 K) Tryz.func72 (by kernel_rfl) (by kernel_rfl) Q1.nil (Q1o.body k)
abbrev Q01.τ : Type := QfX 
def Q01.c (k : Nat) {ρ : Type} (n : Int) (b0 : Qg0) (b1 : (List Int)) (K : Q01.τ → Option ρ) : Option ρ :=
 (Q1o k n).bind fun t0 => (QK k t0.1 (((), ((), ())), ()) b1).bind fun t1 => K ((((), ((), ())), ()), (t1.2.1, ()))
def Q01 (k : Nat) (n : Int) (b0 : Qg0) (b1 : (List Int)) : Option Q01.τ := Q01.c k n b0 b1 some
def Q01.T : Q1T := ⟨[.ptr 0 [], .dat (.int .u64)], [.pair (.pair (.sfp 0 [0] 111) (.pair (.vbs 1) (.dat .unit))) (.dat .unit), .vec (.int .u8)], 1⟩
def Q01.os : List Out := [⟨.ret, [.auto 1], ⟨[], [.pair (.pair (.sfp 0 [0] 111) (.pair (.vbs 1) (.dat .unit))) (.dat .unit), .vec (.int .u8)]⟩⟩]
def Q01.sem (k : Nat) : QP := Q24 Q01.T Q01.os fun x => Q01 k x.1 x.2.1 x.2.2.1
noncomputable def Q01.ctx (k : Nat) : Ctx := ⟨Tryz.prog, gam [(72, (Q1o.sem k)), (40, (QK.sem k))]⟩
theorem Q01.gok (k : Nat) : ∀ f, QF Tryz.prog f ((Q01.ctx k).Γ f) := (Qk (Q1o.sem_ok k) (Qk (QK.sem_ok k) QX))
def Q01.ann (k : Nat) : Ann := .nil
theorem Q01.body (k : Nat) : Q23 (Q01.ctx k) Tryz.f41 (Func.code Tryz.f41) (Q01.ann k) Q01.T Q01.os (fun x K => Q01.c k x.1 x.2.1 x.2.2.1 K) := by
 intro ρ x K; kernel_rfl
theorem Q01.sem_ok (k : Nat) : QF Tryz.prog 41 (Q01.sem k) :=
 Q1x (C := Q01.ctx k) (Q01.gok k) Tryz.mix (c := Func.code Tryz.f41) (ann := Q01.ann k) (T := Q01.T) (os := Q01.os) (fun x K => Q01.c k x.1 x.2.1 x.2.2.1 K) Tryz.func41 (by kernel_rfl) (by kernel_rfl) Q1.nil (Q01.body k) (by kernel_rfl) (by kernel_rfl) (by kernel_rfl)
abbrev Q0q.τ : Type := QfX 
def Q0q.c (k : Nat) {ρ : Type} (h : (List Int)) (b0 : Qg0) (b1 : (List Int)) (K : Q0q.τ → Option ρ) : Option ρ :=
 let v0 : ByteArray := (bytesOf (List.take 32 (List.drop 0 h)))
 (QK k v0 (((), ((), ())), ()) b1).bind fun t1 => K ((((), ((), ())), ()), (t1.2.1, ()))
def Q0q (k : Nat) (h : (List Int)) (b0 : Qg0) (b1 : (List Int)) : Option Q0q.τ := Q0q.c k h b0 b1 some
def Q0q.T : Q1T := ⟨[.ptr 0 [], .dat (.arr 32 (.int .u8))], [.pair (.pair (.sfp 0 [0] 111) (.pair (.vbs 1) (.dat .unit))) (.dat .unit), .vec (.int .u8)], 1⟩
def Q0q.os : List Out := [⟨.ret, [.auto 1], ⟨[], [.pair (.pair (.sfp 0 [0] 111) (.pair (.vbs 1) (.dat .unit))) (.dat .unit), .vec (.int .u8)]⟩⟩]
def Q0q.sem (k : Nat) : QP := Q24 Q0q.T Q0q.os fun x => Q0q k x.1 x.2.1 x.2.2.1
noncomputable def Q0q.ctx (k : Nat) : Ctx := ⟨Tryz.prog, gam [(40, (QK.sem k))]⟩
theorem Q0q.gok (k : Nat) : ∀ f, QF Tryz.prog f ((Q0q.ctx k).Γ f) := (Qk (QK.sem_ok k) QX)
def Q0q.ann (k : Nat) : Ann := .nil
theorem Q0q.body (k : Nat) : Q23 (Q0q.ctx k) Tryz.f25 (Func.code Tryz.f25) (Q0q.ann k) Q0q.T Q0q.os (fun x K => Q0q.c k x.1 x.2.1 x.2.2.1 K) := by
 intro ρ x K; kernel_rfl
theorem Q0q.sem_ok (k : Nat) : QF Tryz.prog 25 (Q0q.sem k) :=
 Q1x (C := Q0q.ctx k) (Q0q.gok k) Tryz.mix (c := Func.code Tryz.f25) (ann := Q0q.ann k) (T := Q0q.T) (os := Q0q.os) (fun x K => Q0q.c k x.1 x.2.1 x.2.2.1 K) Tryz.func25 (by kernel_rfl) (by kernel_rfl) Q1.nil (Q0q.body k) (by kernel_rfl) (by kernel_rfl) (by kernel_rfl)
abbrev Q0f.τ : Type := QfX 
def Q0f.c (k : Nat) {ρ : Type} (s : ByteArray) (b0 : Qg0) (b1 : (List Int)) (K : Q0f.τ → Option ρ) : Option ρ :=
 (Q01 k (IntKind.wrap IntKind.u64 (((ByteArray.size s) : Nat) : Int)) (((), ((), ())), ()) b1).bind fun t0 => (QK k s (((), ((), ())), ()) t0.2.1).bind fun t1 => K ((((), ((), ())), ()), (t1.2.1, ()))
def Q0f (k : Nat) (s : ByteArray) (b0 : Qg0) (b1 : (List Int)) : Option Q0f.τ := Q0f.c k s b0 b1 some
def Q0f.T : Q1T := ⟨[.ptr 0 [], .dat .str], [.pair (.pair (.sfp 0 [0] 111) (.pair (.vbs 1) (.dat .unit))) (.dat .unit), .vec (.int .u8)], 1⟩
def Q0f.os : List Out := [⟨.ret, [.auto 1], ⟨[], [.pair (.pair (.sfp 0 [0] 111) (.pair (.vbs 1) (.dat .unit))) (.dat .unit), .vec (.int .u8)]⟩⟩]
def Q0f.sem (k : Nat) : QP := Q24 Q0f.T Q0f.os fun x => Q0f k x.1 x.2.1 x.2.2.1
noncomputable def Q0f.ctx (k : Nat) : Ctx := ⟨Tryz.prog, gam [(41, (Q01.sem k)), (40, (QK.sem k))]⟩
theorem Q0f.gok (k : Nat) : ∀ f, QF Tryz.prog f ((Q0f.ctx k).Γ f) := (Qk (Q01.sem_ok k) (Qk (QK.sem_ok k) QX))
def Q0f.ann (k : Nat) : Ann := .nil
theorem Q0f.body (k : Nat) : Q23 (Q0f.ctx k) Tryz.f73 (Func.code Tryz.f73) (Q0f.ann k) Q0f.T Q0f.os (fun x K => Q0f.c k x.1 x.2.1 x.2.2.1 K) := by
 intro ρ x K; kernel_rfl
theorem Q0f.sem_ok (k : Nat) : QF Tryz.prog 73 (Q0f.sem k) :=
 Q1x (C := Q0f.ctx k) (Q0f.gok k) Tryz.mix (c := Func.code Tryz.f73) (ann := Q0f.ann k) (T := Q0f.T) (os := Q0f.os) (fun x K => Q0f.c k x.1 x.2.1 x.2.2.1 K) Tryz.func73 (by kernel_rfl) (by kernel_rfl) Q1.nil (Q0f.body k) (by kernel_rfl) (by kernel_rfl) (by kernel_rfl)
abbrev Q0M.τ : Type := QfX 
def Q0M.c (k : Nat) {ρ : Type} (n : Int) (b0 : Qg0) (b1 : (List Int)) (K : Q0M.τ → Option ρ) : Option ρ :=
 (Q0L k n (8 : Int)).bind fun t0 => (QK k t0.1 (((), ((), ())), ()) b1).bind fun t1 => K ((((), ((), ())), ()), (t1.2.1, ()))
def Q0M (k : Nat) (n : Int) (b0 : Qg0) (b1 : (List Int)) : Option Q0M.τ := Q0M.c k n b0 b1 some
def Q0M.T : Q1T := ⟨[.ptr 0 [], .dat (.int .u64)], [.pair (.pair (.sfp 0 [0] 111) (.pair (.vbs 1) (.dat .unit))) (.dat .unit), .vec (.int .u8)], 1⟩
def Q0M.os : List Out := [⟨.ret, [.auto 1], ⟨[], [.pair (.pair (.sfp 0 [0] 111) (.pair (.vbs 1) (.dat .unit))) (.dat .unit), .vec (.int .u8)]⟩⟩]
def Q0M.sem (k : Nat) : QP := Q24 Q0M.T Q0M.os fun x => Q0M k x.1 x.2.1 x.2.2.1
noncomputable def Q0M.ctx (k : Nat) : Ctx := ⟨Tryz.prog, gam [(56, (Q0L.sem k)), (40, (QK.sem k))]⟩
theorem Q0M.gok (k : Nat) : ∀ f, QF Tryz.prog f ((Q0M.ctx k).Γ f) := (Qk (Q0L.sem_ok k) (Qk (QK.sem_ok k) QX))
def Q0M.ann (k : Nat) : Ann := .nil
theorem Q0M.body (k : Nat) : Q23 (Q0M.ctx k) Tryz.f74 (Func.code Tryz.f74) (Q0M.ann k) Q0M.T Q0M.os (fun x K => Q0M.c k x.1 x.2.1 x.2.2.1 K) := by
 intro ρ x K; kernel_rfl
theorem Q0M.sem_ok (k : Nat) : QF Tryz.prog 74 (Q0M.sem k) :=
 Q1x (C := Q0M.ctx k) (Q0M.gok k) Tryz.mix (c := Func.code Tryz.f74) (ann := Q0M.ann k) (T := Q0M.T) (os := Q0M.os) (fun x K => Q0M.c k x.1 x.2.1 x.2.2.1 K) Tryz.func74 (by kernel_rfl) (by kernel_rfl) Q1.nil (Q0M.body k) (by kernel_rfl) (by kernel_rfl) (by kernel_rfl)
abbrev Q06.τ : Type := (ByteArray × Unit)
def Q06.c (k : Nat) {ρ : Type} (b0 : Qg0) (b1 : (List Int)) (K : Q06.τ → Option ρ) : Option ρ :=
 bif (Nat.ble (List.length b1) 9223372036854775807) then (K ((bytesOf b1), ())) else (none)
def Q06 (k : Nat) (b0 : Qg0) (b1 : (List Int)) : Option Q06.τ := Q06.c k b0 b1 some
def Q06.T : Q1T := ⟨[.ptr 0 []], [.pair (.pair (.sfp 0 [0] 111) (.pair (.vbs 1) (.dat .unit))) (.dat .unit), .vec (.int .u8)], 1⟩
def Q06.os : List Out := [⟨.ret, [.freeze (.slot 0), .auto 1], ⟨[.dat .str], [.undef]⟩⟩]
def Q06.sem (k : Nat) : QP := Q24 Q06.T Q06.os fun x => Q06 k x.1 x.2.1
noncomputable def Q06.ctx (k : Nat) : Ctx := ⟨Tryz.prog, gam [(57, QbH)]⟩
theorem Q06.gok (k : Nat) : ∀ f, QF Tryz.prog f ((Q06.ctx k).Γ f) := (Qk Bld.string QX)
def Q06.ann (k : Nat) : Ann := .nil
theorem Q06.body (k : Nat) : Q23 (Q06.ctx k) Tryz.f26 (Func.code Tryz.f26) (Q06.ann k) Q06.T Q06.os (fun x K => Q06.c k x.1 x.2.1 K) := by
 intro ρ x K; kernel_rfl
theorem Q06.sem_ok (k : Nat) : QF Tryz.prog 26 (Q06.sem k) :=
 Q1x (C := Q06.ctx k) (Q06.gok k) Tryz.mix (c := Func.code Tryz.f26) (ann := Q06.ann k) (T := Q06.T) (os := Q06.os) (fun x K => Q06.c k x.1 x.2.1 K) Tryz.func26 (by kernel_rfl) (by kernel_rfl) Q1.nil (Q06.body k) (by kernel_rfl) (by kernel_rfl) (by kernel_rfl)
abbrev Ql.l0.σ : Type := QfW × Int × Int × QfU × Unit
abbrev Ql.l0.τ : Type := (ByteArray × Int × Unit) ⊕ QfT 
def Ql.l0.r (k : Nat) {ρ : Type} (x : Ql.l0.σ) (kn : Ql.l0.σ → Option ρ) (ke : Ql.l0.τ → Option ρ) : Option ρ :=
 bif (decide (x.2.2.1 < x.2.1)) then (bif (decide (((0 : Int) ≤ x.2.2.1) ∧ (x.2.2.1 < (((List.length x.1) : Nat) : Int)))) then (let v2 : ByteArray := (List.getD x.1 (Int.toNat x.2.2.1) (((List.replicate 32 (0 : Int)), ((0 : Int), ())), (ByteArray.empty, ((0 : Int), ())))).2.1
 bif (decide ((((ByteArray.size v2) : Nat) : Int) > (520 : Int))) then (ke (.inl ((⟨(List.toArray [])⟩ : ByteArray), ((100 : Int), ())))) else (let v3 : Int := (IntKind.wrap IntKind.i64 (x.2.2.1 + (1 : Int)))
 kn (x.1, (x.2.1, (v3, ((x.2.2.2.1.1, (x.2.2.2.1.2.1, (x.2.2.2.1.2.2.1, (x.2.2.2.1.2.2.2.1, ())))), ())))))) else (none)) else (ke (.inr ((x.2.2.2.1.1, (x.2.2.2.1.2.1, (x.2.2.2.1.2.2.1, (x.2.2.2.1.2.2.2.1, ())))), ())))
def Ql.l0 (k : Nat) : Nat → Ql.l0.σ → Option Ql.l0.τ := Q14 (Ql.l0.r k)
def Ql.l0.T : StT := ⟨us 1 ++ .ptr 0 [] :: us 12 ++ .dat QfV :: .dat (.int .i64) :: .dat (.int .i64) :: us 88, [.dat QfR]⟩
def Ql.l0.os : List Out := [⟨.ret, [.mask [2, 3], .auto 0], ⟨us 2 ++ .dat .str :: .dat (.int .i64) :: us 101, []⟩⟩, ⟨(.exit 0), [.mask [1], .auto 0], ⟨us 1 ++ .ptr 0 [] :: us 103, [.dat QfR]⟩⟩]
abbrev Ql.l1.σ : Type := QfZ × Int × Int × QfU × Unit
abbrev Ql.l1.τ : Type := (ByteArray × Int × Unit) ⊕ QfT 
def Ql.l1.r (k : Nat) {ρ : Type} (x : Ql.l1.σ) (kn : Ql.l1.σ → Option ρ) (ke : Ql.l1.τ → Option ρ) : Option ρ :=
 bif (decide (x.2.2.1 < x.2.1)) then (bif (decide (((0 : Int) ≤ x.2.2.1) ∧ (x.2.2.1 < (((List.length x.1) : Nat) : Int)))) then (let v9 : ByteArray := (List.getD x.1 (Int.toNat x.2.2.1) ((0 : Int), (ByteArray.empty, ()))).2.1
 bif (decide ((((ByteArray.size v9) : Nat) : Int) > (520 : Int))) then (ke (.inl ((⟨(List.toArray [])⟩ : ByteArray), ((100 : Int), ())))) else (let v10 : Int := (IntKind.wrap IntKind.i64 (x.2.2.1 + (1 : Int)))
 kn (x.1, (x.2.1, (v10, ((x.2.2.2.1.1, (x.2.2.2.1.2.1, (x.2.2.2.1.2.2.1, (x.2.2.2.1.2.2.2.1, ())))), ())))))) else (none)) else (ke (.inr ((x.2.2.2.1.1, (x.2.2.2.1.2.1, (x.2.2.2.1.2.2.1, (x.2.2.2.1.2.2.2.1, ())))), ())))
def Ql.l1 (k : Nat) : Nat → Ql.l1.σ → Option Ql.l1.τ := Q14 (Ql.l1.r k)
def Ql.l1.T : StT := ⟨us 1 ++ .ptr 0 [] :: us 24 ++ .dat QfY :: .dat (.int .i64) :: .dat (.int .i64) :: us 76, [.dat QfR]⟩
def Ql.l1.os : List Out := [⟨.ret, [.mask [2, 3], .auto 0], ⟨us 2 ++ .dat .str :: .dat (.int .i64) :: us 101, []⟩⟩, ⟨(.exit 2), [.mask [1], .auto 0], ⟨us 1 ++ .ptr 0 [] :: us 103, [.dat QfR]⟩⟩]
abbrev Ql.l2.σ : Type := QfW × Int × Int × QfU × Qg0 × (List Int) × Unit
abbrev Ql.l2.τ : Type := QfS 
def Ql.l2.r (k : Nat) {ρ : Type} (x : Ql.l2.σ) (kn : Ql.l2.σ → Option ρ) (ke : Ql.l2.τ → Option ρ) : Option ρ :=
 bif (decide (x.2.2.1 < x.2.1)) then (bif (decide (((0 : Int) ≤ x.2.2.1) ∧ (x.2.2.1 < (((List.length x.1) : Nat) : Int)))) then (let v23 : (List Int) := (List.getD x.1 (Int.toNat x.2.2.1) (((List.replicate 32 (0 : Int)), ((0 : Int), ())), (ByteArray.empty, ((0 : Int), ())))).1.1
 (Q0q k v23 (((), ((), ())), ()) x.2.2.2.2.2.1).bind fun t24 => let v25 : Int := (List.getD x.1 (Int.toNat x.2.2.1) (((List.replicate 32 (0 : Int)), ((0 : Int), ())), (ByteArray.empty, ((0 : Int), ())))).1.2.1
 (Q0b k v25 (((), ((), ())), ()) t24.2.1).bind fun t26 => let v27 : ByteArray := (List.getD x.1 (Int.toNat x.2.2.1) (((List.replicate 32 (0 : Int)), ((0 : Int), ())), (ByteArray.empty, ((0 : Int), ())))).2.1
 (Q0f k v27 (((), ((), ())), ()) t26.2.1).bind fun t28 => let v29 : Int := (List.getD x.1 (Int.toNat x.2.2.1) (((List.replicate 32 (0 : Int)), ((0 : Int), ())), (ByteArray.empty, ((0 : Int), ())))).2.2.1
 (Q0b k v29 (((), ((), ())), ()) t28.2.1).bind fun t30 => let v31 : Int := (IntKind.wrap IntKind.i64 (x.2.2.1 + (1 : Int)))
 kn (x.1, (x.2.1, (v31, ((x.2.2.2.1.1, (x.2.2.2.1.2.1, (x.2.2.2.1.2.2.1, (x.2.2.2.1.2.2.2.1, ())))), ((((), ((), ())), ()), (t30.2.1, ()))))))) else (none)) else (ke ((x.2.2.2.1.1, (x.2.2.2.1.2.1, (x.2.2.2.1.2.2.1, (x.2.2.2.1.2.2.2.1, ())))), ((((), ((), ())), ()), (x.2.2.2.2.2.1, ()))))
def Ql.l2 (k : Nat) : Nat → Ql.l2.σ → Option Ql.l2.τ := Q14 (Ql.l2.r k)
def Ql.l2.T : StT := ⟨us 1 ++ .ptr 0 [] :: us 6 ++ .ptr 1 [] :: us 43 ++ .dat QfV :: .dat (.int .i64) :: .dat (.int .i64) :: us 50, [.dat QfR, .pair (.pair (.sfp 1 [0] 111) (.pair (.vbs 2) (.dat .unit))) (.dat .unit), .vec (.int .u8)]⟩
def Ql.l2.os : List Out := [⟨(.exit 4), [.mask [1, 8], .auto 0], ⟨us 1 ++ .ptr 0 [] :: us 6 ++ .ptr 1 [] :: us 96, [.dat QfR, .pair (.pair (.sfp 1 [0] 111) (.pair (.vbs 2) (.dat .unit))) (.dat .unit), .vec (.int .u8)]⟩⟩]
abbrev Ql.l3.σ : Type := QfZ × Int × Int × QfU × Qg0 × (List Int) × Unit
abbrev Ql.l3.τ : Type := QfS 
def Ql.l3.r (k : Nat) {ρ : Type} (x : Ql.l3.σ) (kn : Ql.l3.σ → Option ρ) (ke : Ql.l3.τ → Option ρ) : Option ρ :=
 bif (decide (x.2.2.1 < x.2.1)) then (bif (decide (((0 : Int) ≤ x.2.2.1) ∧ (x.2.2.1 < (((List.length x.1) : Nat) : Int)))) then (let v38 : Int := (List.getD x.1 (Int.toNat x.2.2.1) ((0 : Int), (ByteArray.empty, ()))).1
 (Q0M k v38 (((), ((), ())), ()) x.2.2.2.2.2.1).bind fun t39 => let v40 : ByteArray := (List.getD x.1 (Int.toNat x.2.2.1) ((0 : Int), (ByteArray.empty, ()))).2.1
 (Q0f k v40 (((), ((), ())), ()) t39.2.1).bind fun t41 => let v42 : Int := (IntKind.wrap IntKind.i64 (x.2.2.1 + (1 : Int)))
 kn (x.1, (x.2.1, (v42, ((x.2.2.2.1.1, (x.2.2.2.1.2.1, (x.2.2.2.1.2.2.1, (x.2.2.2.1.2.2.2.1, ())))), ((((), ((), ())), ()), (t41.2.1, ()))))))) else (none)) else (ke ((x.2.2.2.1.1, (x.2.2.2.1.2.1, (x.2.2.2.1.2.2.1, (x.2.2.2.1.2.2.2.1, ())))), ((((), ((), ())), ()), (x.2.2.2.2.2.1, ()))))
def Ql.l3 (k : Nat) : Nat → Ql.l3.σ → Option Ql.l3.τ := Q14 (Ql.l3.r k)
def Ql.l3.T : StT := ⟨us 1 ++ .ptr 0 [] :: us 6 ++ .ptr 1 [] :: us 75 ++ .dat QfY :: .dat (.int .i64) :: .dat (.int .i64) :: us 18, [.dat QfR, .pair (.pair (.sfp 1 [0] 111) (.pair (.vbs 2) (.dat .unit))) (.dat .unit), .vec (.int .u8)]⟩
def Ql.l3.os : List Out := [⟨(.exit 6), [.mask [1, 8], .auto 0], ⟨us 1 ++ .ptr 0 [] :: us 6 ++ .ptr 1 [] :: us 96, [.dat QfR, .pair (.pair (.sfp 1 [0] 111) (.pair (.vbs 2) (.dat .unit))) (.dat .unit), .vec (.int .u8)]⟩⟩]
def Ql.c (k : Nat) {ρ : Type} (t : QfU) (K : ByteArray × Int × Unit → Option ρ) : Option ρ :=
 let v0 : QfW := t.2.1
 let v1 : Int := (((List.length v0) : Nat) : Int)
 (Ql.l0 k k (v0, (v1, ((0 : Int), ((t.1, (t.2.1, (t.2.2.1, (t.2.2.2.1, ())))), ()))))).bind fun t4 => (match t4 with | .inl t5 => (K (t5.1, (t5.2.1, ()))) | .inr (t6) => (let v7 : QfZ := t6.1.2.2.1
 let v8 : Int := (((List.length v7) : Nat) : Int)
 (Ql.l1 k k (v7, (v8, ((0 : Int), ((t6.1.1, (t6.1.2.1, (t6.1.2.2.1, (t6.1.2.2.2.1, ())))), ()))))).bind fun t11 => (match t11 with | .inl t12 => (K (t12.1, (t12.2.1, ()))) | .inr (t13) => ((Q0t k (t13.1.1, (t13.1.2.1, (t13.1.2.2.1, (t13.1.2.2.2.1, ()))))).bind fun t14 => bif (decide (t14.1 > (4096 : Int))) then (K ((⟨(List.toArray [])⟩ : ByteArray), ((101 : Int), ()))) else ((Q0C k ).bind fun t15 => let v16 : Int := t13.1.1
 (Q0b k v16 (((), ((), ())), ()) t15.2.1).bind fun t17 => let v18 : QfW := t13.1.2.1
 let v19 : Int := (((List.length v18) : Nat) : Int)
 (Q01 k (IntKind.wrap IntKind.u64 v19) (((), ((), ())), ()) t17.2.1).bind fun t20 => let v21 : QfW := t13.1.2.1
 let v22 : Int := (((List.length v21) : Nat) : Int)
 (Ql.l2 k k (v21, (v22, ((0 : Int), ((t13.1.1, (t13.1.2.1, (t13.1.2.2.1, (t13.1.2.2.2.1, ())))), ((((), ((), ())), ()), (t20.2.1, ()))))))).bind fun t32 => let v33 : QfZ := t32.1.2.2.1
 let v34 : Int := (((List.length v33) : Nat) : Int)
 (Q01 k (IntKind.wrap IntKind.u64 v34) (((), ((), ())), ()) t32.2.2.1).bind fun t35 => let v36 : QfZ := t32.1.2.2.1
 let v37 : Int := (((List.length v36) : Nat) : Int)
 (Ql.l3 k k (v36, (v37, ((0 : Int), ((t32.1.1, (t32.1.2.1, (t32.1.2.2.1, (t32.1.2.2.2.1, ())))), ((((), ((), ())), ()), (t35.2.1, ()))))))).bind fun t43 => let v44 : Int := t43.1.2.2.2.1
 (Q0b k v44 (((), ((), ())), ()) t43.2.2.1).bind fun t45 => (Q06 k (((), ((), ())), ()) t45.2.1).bind fun t46 => K (t46.1, ((0 : Int), ())))))))
def Ql (k : Nat) (t : QfU) : Option (ByteArray × Int × Unit) := Ql.c k t some
def Ql.tin : List Ty := [QfR]
def Ql.tout : List Ty := [.str, (.int .i64)]
def Ql.sem (k : Nat) : QP := QW Ql.tin Ql.tout fun x => Ql k x.1
noncomputable def Ql.ctx (k : Nat) : Ctx := ⟨Tryz.prog, gam [(54, (Q0t.sem k)), (23, (Q0C.sem k)), (24, (Q0b.sem k)), (41, (Q01.sem k)), (25, (Q0q.sem k)), (73, (Q0f.sem k)), (74, (Q0M.sem k)), (26, (Q06.sem k))]⟩
theorem Ql.gok (k : Nat) : ∀ f, QF Tryz.prog f ((Ql.ctx k).Γ f) := (Qk (Q0t.sem_ok k) (Qk (Q0C.sem_ok k) (Qk (Q0b.sem_ok k) (Qk (Q01.sem_ok k) (Qk (Q0q.sem_ok k) (Qk (Q0f.sem_ok k) (Qk (Q0M.sem_ok k) (Qk (Q06.sem_ok k) QX))))))))
theorem Ql.l0.round (k : Nat) : Q10 (Ql.ctx k) (QM (Func.code Tryz.f42) [1, 0, 1, 0, 0]) (.nil) Ql.l0.T [.mask [1, 14, 15, 16], .auto 0] Ql.l0.os (Ql.l0.r k) := by
 intro ρ x kn ke; kernel_rfl
theorem Ql.l0.ok (k : Nat) : StOK 0 Tryz.prog (.loop (QM (Func.code Tryz.f42) [1, 0, 1, 0, 0])) (Qn Ql.l0.T Ql.l0.os (Ql.l0 k k)) :=
 Q11 (C := Ql.ctx k) (Ql.gok k) Tryz.mix Q1.nil (by kernel_rfl) (by kernel_rfl) (by kernel_rfl) (Ql.l0.round k) k
theorem Ql.l1.round (k : Nat) : Q10 (Ql.ctx k) (QM (Func.code Tryz.f42) [1, 1, 0, 1, 0, 0]) (.nil) Ql.l1.T [.mask [1, 26, 27, 28], .auto 0] Ql.l1.os (Ql.l1.r k) := by
 intro ρ x kn ke; kernel_rfl
theorem Ql.l1.ok (k : Nat) : StOK 0 Tryz.prog (.loop (QM (Func.code Tryz.f42) [1, 1, 0, 1, 0, 0])) (Qn Ql.l1.T Ql.l1.os (Ql.l1 k k)) :=
 Q11 (C := Ql.ctx k) (Ql.gok k) Tryz.mix Q1.nil (by kernel_rfl) (by kernel_rfl) (by kernel_rfl) (Ql.l1.round k) k
theorem Ql.l2.round (k : Nat) : Q10 (Ql.ctx k) (QM (Func.code Tryz.f42) [1, 1, 1, 1, 1, 1, 1, 0, 1, 0, 0]) (.nil) Ql.l2.T [.mask [1, 8, 52, 53, 54], .auto 0] Ql.l2.os (Ql.l2.r k) := by
 intro ρ x kn ke; kernel_rfl
theorem Ql.l2.ok (k : Nat) : StOK 0 Tryz.prog (.loop (QM (Func.code Tryz.f42) [1, 1, 1, 1, 1, 1, 1, 0, 1, 0, 0])) (Qn Ql.l2.T Ql.l2.os (Ql.l2 k k)) :=
 Q11 (C := Ql.ctx k) (Ql.gok k) Tryz.mix Q1.nil (by kernel_rfl) (by kernel_rfl) (by kernel_rfl) (Ql.l2.round k) k
theorem Ql.l3.round (k : Nat) : Q10 (Ql.ctx k) (QM (Func.code Tryz.f42) [1, 1, 1, 1, 1, 1, 1, 1, 1, 0, 1, 0, 0]) (.nil) Ql.l3.T [.mask [1, 8, 84, 85, 86], .auto 0] Ql.l3.os (Ql.l3.r k) := by
 intro ρ x kn ke; kernel_rfl
theorem Ql.l3.ok (k : Nat) : StOK 0 Tryz.prog (.loop (QM (Func.code Tryz.f42) [1, 1, 1, 1, 1, 1, 1, 1, 1, 0, 1, 0, 0])) (Qn Ql.l3.T Ql.l3.os (Ql.l3 k k)) :=
 Q11 (C := Ql.ctx k) (Ql.gok k) Tryz.mix Q1.nil (by kernel_rfl) (by kernel_rfl) (by kernel_rfl) (Ql.l3.round k) k
def Ql.ann (k : Nat) : Ann := .node [] none (.nil) (.node [] none (.node [] none (.nil) (.node [] none (.node [.mask [1, 14, 15, 16], .auto 0] (some (Qn Ql.l0.T Ql.l0.os (Ql.l0 k k))) .nil .nil) (.nil))) (.node [] none (.node [] none (.nil) (.node [] none (.node [.mask [1, 26, 27, 28], .auto 0] (some (Qn Ql.l1.T Ql.l1.os (Ql.l1 k k))) .nil .nil) (.nil))) (.node [] none (.nil) (.node [] none (.nil) (.node [] none (.nil) (.node [] none (.nil) (.node [] none (.node [] none (.nil) (.node [] none (.node [.mask [1, 8, 52, 53, 54], .auto 0] (some (Qn Ql.l2.T Ql.l2.os (Ql.l2 k k))) .nil .nil) (.nil))) (.node [] none (.nil) (.node [] none (.node [] none (.nil) (.node [] none (.node [.mask [1, 8, 84, 85, 86], .auto 0] (some (Qn Ql.l3.T Ql.l3.os (Ql.l3 k k))) .nil .nil) (.nil))) (.nil))))))))))
theorem Ql.body (k : Nat) : Q0R (Ql.ctx k) Tryz.f42 (Func.code Tryz.f42) (Ql.ann k) Ql.tin Ql.tout (fun x K => Ql.c k x.1 K) := by
 intro ρ x K; kernel_rfl
theorem Ql.sem_ok (k : Nat) : QF Tryz.prog 42 (Ql.sem k) :=
 QD (C := Ql.ctx k) (Ql.gok k) Tryz.mix (c := Func.code Tryz.f42) (ann := Ql.ann k) (tin := Ql.tin) (tout := Ql.tout) (fun x K => Ql.c k x.1 K) Tryz.func42 (by kernel_rfl) (by kernel_rfl) (Q1.seq Q1.nil (Q1.seq (Q1.seq Q1.nil (Q1.block (Q1.loop (by kernel_rfl) (Ql.l0.ok k)))) (Q1.seq (Q1.seq Q1.nil (Q1.block (Q1.loop (by kernel_rfl) (Ql.l1.ok k)))) (Q1.seq Q1.nil (Q1.seq Q1.nil (Q1.seq Q1.nil (Q1.seq Q1.nil (Q1.seq (Q1.seq Q1.nil (Q1.block (Q1.loop (by kernel_rfl) (Ql.l2.ok k)))) (Q1.seq Q1.nil (Q1.seq (Q1.seq Q1.nil (Q1.block (Q1.loop (by kernel_rfl) (Ql.l3.ok k)))) Q1.nil)))))))))) (Ql.body k)
end Go.Am
