/- A part of a proof: a machine of abstract values that tells what functions of the program compute, and the plain facts on them. -/
import Derived.Test.YtnibopdcpbebcaaGreatAm11
import Derived.KernelRfl
set_option linter.unusedVariables false
set_option linter.unusedSimpArgs false
set_option linter.unnecessarySimpa false
set_option linter.unusedSectionVars false
namespace Go.Am
abbrev QgN : Ty := (.arr 32 (.int .u8))
abbrev QgM : Type := (List (Int × (ByteArray × Unit)))
abbrev QgL : Ty := (.sl (.pair (.int .u64) (.pair .str .unit)))
abbrev QgK : Type := (List (((List Int) × (Int × Unit)) × (ByteArray × (Int × Unit))))
abbrev QgJ : Type := (Int × ((List Int) × ((List Int) × (Int × (Int × (Int × Unit))))))
abbrev QgI : Type := ( QgJ  × Int × Unit)
abbrev QgH : Type := (Int ×  QgJ  × Unit)
abbrev QgG : Type := (ByteArray × Int ×  QgJ  × Unit)
abbrev QgF : Ty := (.sl (.pair (.pair  QgN  (.pair (.int .u32) .unit)) (.pair .str (.pair (.int .u32) .unit))))
abbrev QgE : Type := (Int × ( QgK  × ( QgM  × (Int × Unit))))
abbrev QgD : Ty := (.pair (.int .u32) (.pair  QgN  (.pair  QgN  (.pair (.int .u32) (.pair (.int .u32) (.pair (.int .u32) .unit))))))
abbrev QgC : Ty := (.pair (.int .u32) (.pair  QgF  (.pair  QgL  (.pair (.int .u32) .unit))))
end Go.Am
namespace Go.Am
open Go Go.Proofs
set_option maxRecDepth 100000
abbrev Qd.l0.σ : Type := QgK × QgK × Int × Int × Unit
abbrev Qd.l0.τ : Type := (Bool × Unit) ⊕ (Unit)
def Qd.l0.r (k : Nat) {ρ : Type} (x : Qd.l0.σ) (kn : Qd.l0.σ → Option ρ) (ke : Qd.l0.τ → Option ρ) : Option ρ :=
 bif (decide (x.2.2.2.1 < x.2.2.1)) then (bif (decide (((0 : Int) ≤ x.2.2.2.1) ∧ (x.2.2.2.1 < (((List.length x.1) : Nat) : Int)))) then (bif (decide (((0 : Int) ≤ x.2.2.2.1) ∧ (x.2.2.2.1 < (((List.length x.2.1) : Nat) : Int)))) then (bif (!(((decide ((List.getD x.1 (Int.toNat x.2.2.2.1) (((List.replicate 32 (0 : Int)), ((0 : Int), ())), (ByteArray.empty, ((0 : Int), ())))).1.1 = (List.getD x.2.1 (Int.toNat x.2.2.2.1) (((List.replicate 32 (0 : Int)), ((0 : Int), ())), (ByteArray.empty, ((0 : Int), ())))).1.1)) && (((List.getD x.1 (Int.toNat x.2.2.2.1) (((List.replicate 32 (0 : Int)), ((0 : Int), ())), (ByteArray.empty, ((0 : Int), ())))).1.2.1 == (List.getD x.2.1 (Int.toNat x.2.2.2.1) (((List.replicate 32 (0 : Int)), ((0 : Int), ())), (ByteArray.empty, ((0 : Int), ())))).1.2.1) && true)) && ((Q32 (List.getD x.1 (Int.toNat x.2.2.2.1) (((List.replicate 32 (0 : Int)), ((0 : Int), ())), (ByteArray.empty, ((0 : Int), ())))).2.1 (List.getD x.2.1 (Int.toNat x.2.2.2.1) (((List.replicate 32 (0 : Int)), ((0 : Int), ())), (ByteArray.empty, ((0 : Int), ())))).2.1) && (((List.getD x.1 (Int.toNat x.2.2.2.1) (((List.replicate 32 (0 : Int)), ((0 : Int), ())), (ByteArray.empty, ((0 : Int), ())))).2.2.1 == (List.getD x.2.1 (Int.toNat x.2.2.2.1) (((List.replicate 32 (0 : Int)), ((0 : Int), ())), (ByteArray.empty, ((0 : Int), ())))).2.2.1) && true)))) then (ke (.inl (false, ()))) else (let v3 : Int := (IntKind.wrap IntKind.i64 (x.2.2.2.1 + (1 : Int)))
 kn (x.1, (x.2.1, (x.2.2.1, (v3, ())))))) else (none)) else (none)) else (ke (.inr ()))
def Qd.l0 (k : Nat) : Nat → Qd.l0.σ → Option Qd.l0.τ := Q14 (Qd.l0.r k)
def Qd.l0.T : StT := ⟨.dat QgF :: .dat QgF :: us 10 ++ .dat (.int .i64) :: .dat (.int .i64) :: us 12, []⟩
def Qd.l0.os : List Out := [⟨.ret, [.mask [4], .auto 0], ⟨us 4 ++ .dat .bool :: us 21, []⟩⟩, ⟨(.exit 0), [.mask [], .auto 0], ⟨us 26, []⟩⟩]
def Qd.c (k : Nat) {ρ : Type} (s1 : QgK) (s2 : QgK) (K : Bool × Unit → Option ρ) : Option ρ :=
 let v0 : Int := (((List.length s1) : Nat) : Int)
 let v1 : Int := (((List.length s2) : Nat) : Int)
 bif (v0 != v1) then (K (false, ())) else (let v2 : Int := (((List.length s1) : Nat) : Int)
 (Qd.l0 k k (s1, (s2, (v2, ((0 : Int), ()))))).bind fun t4 => (match t4 with | .inl t5 => (K (t5.1, ())) | .inr (t6) => (K (true, ()))))
def Qd (k : Nat) (s1 : QgK) (s2 : QgK) : Option (Bool × Unit) := Qd.c k s1 s2 some
def Qd.tin : List Ty := [QgF, QgF]
def Qd.tout : List Ty := [.bool]
def Qd.sem (k : Nat) : QP := QW Qd.tin Qd.tout fun x => Qd k x.1 x.2.1
noncomputable def Qd.ctx (k : Nat) : Ctx := ⟨Tryz.prog, gam []⟩
theorem Qd.gok (k : Nat) : ∀ f, QF Tryz.prog f ((Qd.ctx k).Γ f) := QX
theorem Qd.l0.round (k : Nat) : Q10 (Qd.ctx k) (QM (Func.code Tryz.f88) [1, 1, 0, 1, 0, 0]) (.nil) Qd.l0.T [.mask [0, 1, 12, 13], .auto 0] Qd.l0.os (Qd.l0.r k) := by
 intro ρ x kn ke; kernel_rfl
theorem Qd.l0.ok (k : Nat) : StOK 0 Tryz.prog (.loop (QM (Func.code Tryz.f88) [1, 1, 0, 1, 0, 0])) (Qn Qd.l0.T Qd.l0.os (Qd.l0 k k)) :=
 Q11 (C := Qd.ctx k) (Qd.gok k) Tryz.mix Q1.nil (by kernel_rfl) (by kernel_rfl) (by kernel_rfl) (Qd.l0.round k) k
def Qd.ann (k : Nat) : Ann := .node [] none (.nil) (.node [] none (.nil) (.node [] none (.node [] none (.nil) (.node [] none (.node [] (some (Qn Qd.l0.T Qd.l0.os (Qd.l0 k k))) .nil .nil) (.nil))) (.nil)))
theorem Qd.body (k : Nat) : Q0R (Qd.ctx k) Tryz.f88 (Func.code Tryz.f88) (Qd.ann k) Qd.tin Qd.tout (fun x K => Qd.c k x.1 x.2.1 K) := by
 intro ρ x K; kernel_rfl
theorem Qd.sem_ok (k : Nat) : QF Tryz.prog 88 (Qd.sem k) :=
 QD (C := Qd.ctx k) (Qd.gok k) Tryz.mix (c := Func.code Tryz.f88) (ann := Qd.ann k) (tin := Qd.tin) (tout := Qd.tout) (fun x K => Qd.c k x.1 x.2.1 K) Tryz.func88 (by kernel_rfl) (by kernel_rfl) (Q1.seq Q1.nil (Q1.seq Q1.nil (Q1.seq (Q1.seq Q1.nil (Q1.block (Q1.loop (by kernel_rfl) (Qd.l0.ok k)))) Q1.nil))) (Qd.body k)
abbrev Q8.l0.σ : Type := QgM × QgM × Int × Int × Unit
abbrev Q8.l0.τ : Type := (Bool × Unit) ⊕ (Unit)
def Q8.l0.r (k : Nat) {ρ : Type} (x : Q8.l0.σ) (kn : Q8.l0.σ → Option ρ) (ke : Q8.l0.τ → Option ρ) : Option ρ :=
 bif (decide (x.2.2.2.1 < x.2.2.1)) then (bif (decide (((0 : Int) ≤ x.2.2.2.1) ∧ (x.2.2.2.1 < (((List.length x.1) : Nat) : Int)))) then (bif (decide (((0 : Int) ≤ x.2.2.2.1) ∧ (x.2.2.2.1 < (((List.length x.2.1) : Nat) : Int)))) then (bif (!(((List.getD x.1 (Int.toNat x.2.2.2.1) ((0 : Int), (ByteArray.empty, ()))).1 == (List.getD x.2.1 (Int.toNat x.2.2.2.1) ((0 : Int), (ByteArray.empty, ()))).1) && ((Q32 (List.getD x.1 (Int.toNat x.2.2.2.1) ((0 : Int), (ByteArray.empty, ()))).2.1 (List.getD x.2.1 (Int.toNat x.2.2.2.1) ((0 : Int), (ByteArray.empty, ()))).2.1) && true))) then (ke (.inl (false, ()))) else (let v3 : Int := (IntKind.wrap IntKind.i64 (x.2.2.2.1 + (1 : Int)))
 kn (x.1, (x.2.1, (x.2.2.1, (v3, ())))))) else (none)) else (none)) else (ke (.inr ()))
def Q8.l0 (k : Nat) : Nat → Q8.l0.σ → Option Q8.l0.τ := Q14 (Q8.l0.r k)
def Q8.l0.T : StT := ⟨.dat QgL :: .dat QgL :: us 10 ++ .dat (.int .i64) :: .dat (.int .i64) :: us 12, []⟩
def Q8.l0.os : List Out := [⟨.ret, [.mask [4], .auto 0], ⟨us 4 ++ .dat .bool :: us 21, []⟩⟩, ⟨(.exit 0), [.mask [], .auto 0], ⟨us 26, []⟩⟩]
def Q8.c (k : Nat) {ρ : Type} (s1 : QgM) (s2 : QgM) (K : Bool × Unit → Option ρ) : Option ρ :=
 let v0 : Int := (((List.length s1) : Nat) : Int)
 let v1 : Int := (((List.length s2) : Nat) : Int)
 bif (v0 != v1) then (K (false, ())) else (let v2 : Int := (((List.length s1) : Nat) : Int)
 (Q8.l0 k k (s1, (s2, (v2, ((0 : Int), ()))))).bind fun t4 => (match t4 with | .inl t5 => (K (t5.1, ())) | .inr (t6) => (K (true, ()))))
def Q8 (k : Nat) (s1 : QgM) (s2 : QgM) : Option (Bool × Unit) := Q8.c k s1 s2 some
def Q8.tin : List Ty := [QgL, QgL]
def Q8.tout : List Ty := [.bool]
def Q8.sem (k : Nat) : QP := QW Q8.tin Q8.tout fun x => Q8 k x.1 x.2.1
noncomputable def Q8.ctx (k : Nat) : Ctx := ⟨Tryz.prog, gam []⟩
theorem Q8.gok (k : Nat) : ∀ f, QF Tryz.prog f ((Q8.ctx k).Γ f) := QX
theorem Q8.l0.round (k : Nat) : Q10 (Q8.ctx k) (QM (Func.code Tryz.f89) [1, 1, 0, 1, 0, 0]) (.nil) Q8.l0.T [.mask [0, 1, 12, 13], .auto 0] Q8.l0.os (Q8.l0.r k) := by
 intro ρ x kn ke; kernel_rfl
theorem Q8.l0.ok (k : Nat) : StOK 0 Tryz.prog (.loop (QM (Func.code Tryz.f89) [1, 1, 0, 1, 0, 0])) (Qn Q8.l0.T Q8.l0.os (Q8.l0 k k)) :=
 Q11 (C := Q8.ctx k) (Q8.gok k) Tryz.mix Q1.nil (by kernel_rfl) (by kernel_rfl) (by kernel_rfl) (Q8.l0.round k) k
def Q8.ann (k : Nat) : Ann := .node [] none (.nil) (.node [] none (.nil) (.node [] none (.node [] none (.nil) (.node [] none (.node [] (some (Qn Q8.l0.T Q8.l0.os (Q8.l0 k k))) .nil .nil) (.nil))) (.nil)))
theorem Q8.body (k : Nat) : Q0R (Q8.ctx k) Tryz.f89 (Func.code Tryz.f89) (Q8.ann k) Q8.tin Q8.tout (fun x K => Q8.c k x.1 x.2.1 K) := by
 intro ρ x K; kernel_rfl
theorem Q8.sem_ok (k : Nat) : QF Tryz.prog 89 (Q8.sem k) :=
 QD (C := Q8.ctx k) (Q8.gok k) Tryz.mix (c := Func.code Tryz.f89) (ann := Q8.ann k) (tin := Q8.tin) (tout := Q8.tout) (fun x K => Q8.c k x.1 x.2.1 K) Tryz.func89 (by kernel_rfl) (by kernel_rfl) (Q1.seq Q1.nil (Q1.seq Q1.nil (Q1.seq (Q1.seq Q1.nil (Q1.block (Q1.loop (by kernel_rfl) (Q8.l0.ok k)))) Q1.nil))) (Q8.body k)
def Q1D.c (k : Nat) {ρ : Type} (a : QgE) (b : QgE) (K : Bool × Unit → Option ρ) : Option ρ :=
 let v0 : Int := a.1
 let v1 : Int := b.1
 bif (v0 == v1) then (let v2 : Int := a.2.2.2.1
 let v3 : Int := b.2.2.2.1
 bif (v2 == v3) then (let v4 : QgK := a.2.1
 let v5 : QgK := b.2.1
 (Qd k v4 v5).bind fun t6 => bif t6.1 then (let v7 : QgM := a.2.2.1
 let v8 : QgM := b.2.2.1
 (Q8 k v7 v8).bind fun t9 => K (t9.1, ())) else (K (false, ()))) else (K (false, ()))) else (K (false, ()))
def Q1D (k : Nat) (a : QgE) (b : QgE) : Option (Bool × Unit) := Q1D.c k a b some
def Q1D.tin : List Ty := [QgC, QgC]
def Q1D.tout : List Ty := [.bool]
def Q1D.sem (k : Nat) : QP := QW Q1D.tin Q1D.tout fun x => Q1D k x.1 x.2.1
noncomputable def Q1D.ctx (k : Nat) : Ctx := ⟨Tryz.prog, gam [(88, (Qd.sem k)), (89, (Q8.sem k))]⟩
theorem Q1D.gok (k : Nat) : ∀ f, QF Tryz.prog f ((Q1D.ctx k).Γ f) := (Qk (Qd.sem_ok k) (Qk (Q8.sem_ok k) QX))
def Q1D.ann (k : Nat) : Ann := .nil
theorem Q1D.body (k : Nat) : Q0R (Q1D.ctx k) Tryz.f55 (Func.code Tryz.f55) (Q1D.ann k) Q1D.tin Q1D.tout (fun x K => Q1D.c k x.1 x.2.1 K) := by
 intro ρ x K; kernel_rfl
theorem Q1D.sem_ok (k : Nat) : QF Tryz.prog 55 (Q1D.sem k) :=
 QD (C := Q1D.ctx k) (Q1D.gok k) Tryz.mix (c := Func.code Tryz.f55) (ann := Q1D.ann k) (tin := Q1D.tin) (tout := Q1D.tout) (fun x K => Q1D.c k x.1 x.2.1 K) Tryz.func55 (by kernel_rfl) (by kernel_rfl) Q1.nil (Q1D.body k)
end Go.Am
namespace Go.Am
open Go Go.Proofs
set_option maxRecDepth 100000
abbrev Q0v.τ : Type := ((List Int) × (ByteArray × (Int × (Int × Unit))) × Unit)
def Q0v.c (k : Nat) {ρ : Type} (b0 : (ByteArray × (Int × (Int × Unit)))) (K : Q0v.τ → Option ρ) : Option ρ :=
 (Q02 k (32 : Int) (b0.1, (b0.2.1, (b0.2.2.1, ())))).bind fun t0 => let v1 : Int := (((Min.min (List.length (QQ t0.1)) 32) : Nat) : Int)
 let v2 : (List Int) := (Q2k (List.replicate 32 (0 : Int)) 0 (QQ t0.1) (Min.min (List.length (QQ t0.1)) 32))
 K (v2, ((t0.2.1.1, (t0.2.1.2.1, (t0.2.1.2.2.1, ()))), ()))
def Q0v (k : Nat) (b0 : (ByteArray × (Int × (Int × Unit)))) : Option Q0v.τ := Q0v.c k b0 some
def Q0v.T : Q1T := ⟨[.ptr 0 []], [.dat (.pair .str (.pair (.int .i64) (.pair (.int .i64) .unit)))], 1⟩
def Q0v.os : List Out := [⟨.ret, [.freeze (.slot 0), .auto 1], ⟨[.dat QgN], [.dat (.pair .str (.pair (.int .i64) (.pair (.int .i64) .unit)))]⟩⟩]
def Q0v.sem (k : Nat) : QP := Q24 Q0v.T Q0v.os fun x => Q0v k x.1
noncomputable def Q0v.ctx (k : Nat) : Ctx := ⟨Tryz.prog, gam [(59, (Q02.sem k))]⟩
theorem Q0v.gok (k : Nat) : ∀ f, QF Tryz.prog f ((Q0v.ctx k).Γ f) := (Qk (Q02.sem_ok k) QX)
def Q0v.ann (k : Nat) : Ann := .nil
theorem Q0v.body (k : Nat) : Q23 (Q0v.ctx k) Tryz.f29 (Func.code Tryz.f29) (Q0v.ann k) Q0v.T Q0v.os (fun x K => Q0v.c k x.1 K) := by
 intro ρ x K; kernel_rfl
theorem Q0v.sem_ok (k : Nat) : QF Tryz.prog 29 (Q0v.sem k) :=
 Q1x (C := Q0v.ctx k) (Q0v.gok k) Tryz.mix (c := Func.code Tryz.f29) (ann := Q0v.ann k) (T := Q0v.T) (os := Q0v.os) (fun x K => Q0v.c k x.1 K) Tryz.func29 (by kernel_rfl) (by kernel_rfl) Q1.nil (Q0v.body k) (by kernel_rfl) (by kernel_rfl) (by kernel_rfl)
abbrev QH.p0.σ : Type := ByteArray × Int × QgJ × Unit
abbrev QH.p0.τ : Type := QgH ⊕ QgG 
def QH.p0.r (k : Nat) {ρ : Type} (x : QH.p0.σ) (K : QH.p0.τ → Option ρ) : Option ρ :=
 bif (decide (x.2.1 < (0 : Int))) then (K (.inl ((1 : Int), (((0 : Int), ((List.replicate 32 (0 : Int)), ((List.replicate 32 (0 : Int)), ((0 : Int), ((0 : Int), ((0 : Int), ())))))), ())))) else (let v0 : Int := (((ByteArray.size x.1) : Nat) : Int)
 bif (decide (x.2.1 > v0)) then (K (.inl ((1 : Int), (((0 : Int), ((List.replicate 32 (0 : Int)), ((List.replicate 32 (0 : Int)), ((0 : Int), ((0 : Int), ((0 : Int), ())))))), ())))) else (K (.inr (x.1, (x.2.1, ((x.2.2.1.1, (x.2.2.1.2.1, (x.2.2.1.2.2.1, (x.2.2.1.2.2.2.1, (x.2.2.1.2.2.2.2.1, (x.2.2.1.2.2.2.2.2.1, ())))))), ()))))))
def QH.p0 (k : Nat) (x : QH.p0.σ) : Option QH.p0.τ := QH.p0.r k x some
def QH.p0.T : StT := ⟨.dat .str :: .dat (.int .i64) :: us 2 ++ .ptr 0 [] :: us 41, [.dat QgD]⟩
def QH.p0.os : List Out := [⟨.ret, [.mask [4, 5], .auto 0], ⟨us 4 ++ .ptr 0 [] :: .dat (.int .i64) :: us 40, [.dat QgD]⟩⟩, ⟨.normal, [.mask [0, 1, 4], .auto 0], ⟨.dat .str :: .dat (.int .i64) :: us 2 ++ .ptr 0 [] :: us 41, [.dat QgD]⟩⟩]
def QH.c (k : Nat) {ρ : Type} (s : ByteArray) (at_1 : Int) (K : QgJ × Int × Unit → Option ρ) : Option ρ :=
 (QH.p0 k (s, (at_1, (((0 : Int), ((List.replicate 32 (0 : Int)), ((List.replicate 32 (0 : Int)), ((0 : Int), ((0 : Int), ((0 : Int), ())))))), ())))).bind fun t1 => (match t1 with | .inl t2 => (K ((t2.2.1.1, (t2.2.1.2.1, (t2.2.1.2.2.1, (t2.2.1.2.2.2.1, (t2.2.1.2.2.2.2.1, (t2.2.1.2.2.2.2.2.1, ())))))), (t2.1, ()))) | .inr (t3) => (bif (decide (((0 : Int) ≤ t3.2.1) ∧ ((t3.2.1 ≤ (((ByteArray.size t3.1) : Nat) : Int)) ∧ ((((ByteArray.size t3.1) : Nat) : Int) ≤ (((ByteArray.size t3.1) : Nat) : Int))))) then (let v4 : ByteArray := (ByteArray.extract t3.1 (Int.toNat t3.2.1) (Int.toNat (((ByteArray.size t3.1) : Nat) : Int)))
 (Q0E k v4).bind fun t5 => (Q0h k (t5.1.1, (t5.1.2.1, (t5.1.2.2.1, ())))).bind fun t6 => (Q0v k (t6.2.1.1, (t6.2.1.2.1, (t6.2.1.2.2.1, ())))).bind fun t7 => (Q0v k (t7.2.1.1, (t7.2.1.2.1, (t7.2.1.2.2.1, ())))).bind fun t8 => (Q0h k (t8.2.1.1, (t8.2.1.2.1, (t8.2.1.2.2.1, ())))).bind fun t9 => (Q0h k (t9.2.1.1, (t9.2.1.2.1, (t9.2.1.2.2.1, ())))).bind fun t10 => (Q0h k (t10.2.1.1, (t10.2.1.2.1, (t10.2.1.2.2.1, ())))).bind fun t11 => (Q0k k (t11.2.1.1, (t11.2.1.2.1, (t11.2.1.2.2.1, ())))).bind fun t12 => bif (t12.1 != (0 : Int)) then ((Q0k k (t12.2.1.1, (t12.2.1.2.1, (t12.2.1.2.2.1, ())))).bind fun t13 => K (((0 : Int), ((List.replicate 32 (0 : Int)), ((List.replicate 32 (0 : Int)), ((0 : Int), ((0 : Int), ((0 : Int), ())))))), (t13.1, ()))) else (K ((t6.1, (t7.1, (t8.1, (t9.1, (t10.1, (t11.1, ())))))), ((0 : Int), ())))) else (none)))
def QH (k : Nat) (s : ByteArray) (at_1 : Int) : Option QgI := QH.c k s at_1 some
def QH.tin : List Ty := [.str, (.int .i64)]
def QH.tout : List Ty := [QgD, (.int .i64)]
def QH.sem (k : Nat) : QP := QW QH.tin QH.tout fun x => QH k x.1 x.2.1
noncomputable def QH.ctx (k : Nat) : Ctx := ⟨Tryz.prog, gam [(27, (Q0E.sem k)), (28, (Q0h.sem k)), (29, (Q0v.sem k)), (30, (Q0k.sem k))]⟩
theorem QH.gok (k : Nat) : ∀ f, QF Tryz.prog f ((QH.ctx k).Γ f) := (Qk (Q0E.sem_ok k) (Qk (Q0h.sem_ok k) (Qk (Q0v.sem_ok k) (Qk (Q0k.sem_ok k) QX))))
theorem QH.p0.is (k : Nat) : Q1O (QH.ctx k) (QM (Func.code Tryz.f6) [1, 0]) (.nil) QH.p0.T QH.p0.os (QH.p0.r k) := by
 intro ρ x K; kernel_rfl
theorem QH.p0.ok (k : Nat) : StOK 0 Tryz.prog (QM (Func.code Tryz.f6) [1, 0]) (Qn QH.p0.T QH.p0.os (QH.p0 k)) :=
 Q1F (C := QH.ctx k) (T := QH.p0.T) (os := QH.p0.os) (QH.gok k) Tryz.mix (fun x K => QH.p0.r k x K) Q1.nil (by kernel_rfl) (by kernel_rfl) (QH.p0.is k)
def QH.ann (k : Nat) : Ann := .node [] none (.nil) (.node [] none (.node [.mask [0, 1, 4], .auto 0] (some (Qn QH.p0.T QH.p0.os (QH.p0 k))) .nil .nil) (.nil))
theorem QH.body (k : Nat) : Q0R (QH.ctx k) Tryz.f6 (Func.code Tryz.f6) (QH.ann k) QH.tin QH.tout (fun x K => QH.c k x.1 x.2.1 K) := by
 intro ρ x K; kernel_rfl
theorem QH.sem_ok (k : Nat) : QF Tryz.prog 6 (QH.sem k) :=
 QD (C := QH.ctx k) (QH.gok k) Tryz.mix (c := Func.code Tryz.f6) (ann := QH.ann k) (tin := QH.tin) (tout := QH.tout) (fun x K => QH.c k x.1 x.2.1 K) Tryz.func6 (by kernel_rfl) (by kernel_rfl) (Q1.seq Q1.nil (Q1.seq (Q1.loop (by kernel_rfl) (QH.p0.ok k)) Q1.nil)) (QH.body k)
abbrev Qs.l0.σ : Type := ByteArray × Int × Int × Unit
abbrev Qs.l0.τ : Type := (Int × Unit)
def Qs.l0.r (k : Nat) {ρ : Type} (x : Qs.l0.σ) (kn : Qs.l0.σ → Option ρ) (ke : Qs.l0.τ → Option ρ) : Option ρ :=
 bif (decide (x.2.2.1 ≥ (0 : Int))) then (let v1 : Int := (IntKind.wrap IntKind.u64 (x.2.1 * (256 : Int)))
 bif (decide (((0 : Int) ≤ x.2.2.1) ∧ (x.2.2.1 < (((ByteArray.size x.1) : Nat) : Int)))) then (let v2 : Int := (Q1u x.1 (Int.toNat x.2.2.1))
 let v3 : Int := (IntKind.wrap IntKind.u64 (v1 + (IntKind.wrap IntKind.u64 v2)))
 let v4 : Int := (IntKind.wrap IntKind.i64 (x.2.2.1 - (1 : Int)))
 kn (x.1, (v3, (v4, ())))) else (none)) else (ke (x.2.1, ()))
def Qs.l0 (k : Nat) : Nat → Qs.l0.σ → Option Qs.l0.τ := Q14 (Qs.l0.r k)
def Qs.l0.T : StT := ⟨.dat .str :: us 2 ++ .dat (.int .u64) :: .dat (.int .i64) :: us 15, []⟩
def Qs.l0.os : List Out := [⟨(.exit 0), [.mask [3], .auto 0], ⟨us 3 ++ .dat (.int .u64) :: us 16, []⟩⟩]
def Qs.c (k : Nat) {ρ : Type} (s : ByteArray) (K : Int × Unit → Option ρ) : Option ρ :=
 let v0 : Int := (IntKind.wrap IntKind.i64 ((((ByteArray.size s) : Nat) : Int) - (1 : Int)))
 (Qs.l0 k k (s, ((0 : Int), (v0, ())))).bind fun t5 => K (t5.1, ())
def Qs (k : Nat) (s : ByteArray) : Option (Int × Unit) := Qs.c k s some
def Qs.tin : List Ty := [.str]
def Qs.tout : List Ty := [(.int .u64)]
def Qs.sem (k : Nat) : QP := QW Qs.tin Qs.tout fun x => Qs k x.1
noncomputable def Qs.ctx (k : Nat) : Ctx := ⟨Tryz.prog, gam []⟩
theorem Qs.gok (k : Nat) : ∀ f, QF Tryz.prog f ((Qs.ctx k).Γ f) := QX
theorem Qs.l0.round (k : Nat) : Q10 (Qs.ctx k) (QM (Func.code Tryz.f31) [1, 1, 0, 1, 0, 0]) (.nil) Qs.l0.T [.mask [0, 3, 4], .auto 0] Qs.l0.os (Qs.l0.r k) := by
 intro ρ x kn ke; kernel_rfl
theorem Qs.l0.ok (k : Nat) : StOK 0 Tryz.prog (.loop (QM (Func.code Tryz.f31) [1, 1, 0, 1, 0, 0])) (Qn Qs.l0.T Qs.l0.os (Qs.l0 k k)) :=
 Q11 (C := Qs.ctx k) (Qs.gok k) Tryz.mix Q1.nil (by kernel_rfl) (by kernel_rfl) (by kernel_rfl) (Qs.l0.round k) k
def Qs.ann (k : Nat) : Ann := .node [] none (.nil) (.node [] none (.nil) (.node [] none (.node [] none (.nil) (.node [] none (.node [] (some (Qn Qs.l0.T Qs.l0.os (Qs.l0 k k))) .nil .nil) (.nil))) (.nil)))
theorem Qs.body (k : Nat) : Q0R (Qs.ctx k) Tryz.f31 (Func.code Tryz.f31) (Qs.ann k) Qs.tin Qs.tout (fun x K => Qs.c k x.1 K) := by
 intro ρ x K; kernel_rfl
theorem Qs.sem_ok (k : Nat) : QF Tryz.prog 31 (Qs.sem k) :=
 QD (C := Qs.ctx k) (Qs.gok k) Tryz.mix (c := Func.code Tryz.f31) (ann := Qs.ann k) (tin := Qs.tin) (tout := Qs.tout) (fun x K => Qs.c k x.1 K) Tryz.func31 (by kernel_rfl) (by kernel_rfl) (Q1.seq Q1.nil (Q1.seq Q1.nil (Q1.seq (Q1.seq Q1.nil (Q1.block (Q1.loop (by kernel_rfl) (Qs.l0.ok k)))) Q1.nil))) (Qs.body k)
abbrev Qu.l0.σ : Type := ByteArray × Int × (List Int) × (List Int) × Unit
abbrev Qu.l0.τ : Type := ((List Int) × (List Int) × Unit)
def Qu.l0.r (k : Nat) {ρ : Type} (x : Qu.l0.σ) (kn : Qu.l0.σ → Option ρ) (ke : Qu.l0.τ → Option ρ) : Option ρ :=
 bif (decide (x.2.1 < (32 : Int))) then (bif (decide (((0 : Int) ≤ x.2.1) ∧ (x.2.1 < (((ByteArray.size x.1) : Nat) : Int)))) then (let v1 : Int := (Q1u x.1 (Int.toNat x.2.1))
 bif (decide (((0 : Int) ≤ x.2.1) ∧ (x.2.1 < ((32 : Nat) : Int)))) then (let v2 : Int := (IntKind.wrap IntKind.i64 (x.2.1 + (1 : Int)))
 kn (x.1, (v2, (x.2.2.1, ((List.set x.2.2.2.1 (Int.toNat x.2.1) v1), ()))))) else (none)) else (none)) else (ke (x.2.2.1, (x.2.2.2.1, ())))
def Qu.l0 (k : Nat) : Nat → Qu.l0.σ → Option Qu.l0.τ := Q14 (Qu.l0.r k)
def Qu.l0.T : StT := ⟨.dat .str :: us 1 ++ .ptr 0 [] :: .ptr 1 [] :: .dat (.int .i64) :: us 11, [.dat QgN, .dat QgN]⟩
def Qu.l0.os : List Out := [⟨(.exit 0), [.mask [2, 3], .auto 0], ⟨us 2 ++ .ptr 0 [] :: .ptr 1 [] :: us 12, [.dat QgN, .dat QgN]⟩⟩]
def Qu.c (k : Nat) {ρ : Type} (s : ByteArray) (K : (List Int) × Unit → Option ρ) : Option ρ :=
 let v0 : (List Int) := (List.replicate 32 (0 : Int))
 (Qu.l0 k k (s, ((0 : Int), ((List.replicate 32 (0 : Int)), (v0, ()))))).bind fun t3 => let v4 : (List Int) := t3.2.1
 K (v4, ())
def Qu (k : Nat) (s : ByteArray) : Option ((List Int) × Unit) := Qu.c k s some
def Qu.tin : List Ty := [.str]
def Qu.tout : List Ty := [QgN]
def Qu.sem (k : Nat) : QP := QW Qu.tin Qu.tout fun x => Qu k x.1
noncomputable def Qu.ctx (k : Nat) : Ctx := ⟨Tryz.prog, gam []⟩
theorem Qu.gok (k : Nat) : ∀ f, QF Tryz.prog f ((Qu.ctx k).Γ f) := QX
theorem Qu.l0.round (k : Nat) : Q10 (Qu.ctx k) (QM (Func.code Tryz.f32) [1, 1, 0, 1, 0, 0]) (.nil) Qu.l0.T [.mask [0, 2, 3, 4], .auto 0] Qu.l0.os (Qu.l0.r k) := by
 intro ρ x kn ke; kernel_rfl
theorem Qu.l0.ok (k : Nat) : StOK 0 Tryz.prog (.loop (QM (Func.code Tryz.f32) [1, 1, 0, 1, 0, 0])) (Qn Qu.l0.T Qu.l0.os (Qu.l0 k k)) :=
 Q11 (C := Qu.ctx k) (Qu.gok k) Tryz.mix Q1.nil (by kernel_rfl) (by kernel_rfl) (by kernel_rfl) (Qu.l0.round k) k
def Qu.ann (k : Nat) : Ann := .node [] none (.nil) (.node [] none (.nil) (.node [] none (.node [] none (.nil) (.node [] none (.node [.mask [0, 2, 3, 4], .auto 0] (some (Qn Qu.l0.T Qu.l0.os (Qu.l0 k k))) .nil .nil) (.nil))) (.nil)))
theorem Qu.body (k : Nat) : Q0R (Qu.ctx k) Tryz.f32 (Func.code Tryz.f32) (Qu.ann k) Qu.tin Qu.tout (fun x K => Qu.c k x.1 K) := by
 intro ρ x K; kernel_rfl
theorem Qu.sem_ok (k : Nat) : QF Tryz.prog 32 (Qu.sem k) :=
 QD (C := Qu.ctx k) (Qu.gok k) Tryz.mix (c := Func.code Tryz.f32) (ann := Qu.ann k) (tin := Qu.tin) (tout := Qu.tout) (fun x K => Qu.c k x.1 K) Tryz.func32 (by kernel_rfl) (by kernel_rfl) (Q1.seq Q1.nil (Q1.seq Q1.nil (Q1.seq (Q1.seq Q1.nil (Q1.block (Q1.loop (by kernel_rfl) (Qu.l0.ok k)))) Q1.nil))) (Qu.body k)
abbrev Qg.p0.σ : Type := ByteArray × Int × QgJ × Unit
abbrev Qg.p0.τ : Type := QgH ⊕ QgG 
def Qg.p0.r (k : Nat) {ρ : Type} (x : Qg.p0.σ) (K : Qg.p0.τ → Option ρ) : Option ρ :=
 bif (decide (x.2.1 < (0 : Int))) then (K (.inl ((1 : Int), (((0 : Int), ((List.replicate 32 (0 : Int)), ((List.replicate 32 (0 : Int)), ((0 : Int), ((0 : Int), ((0 : Int), ())))))), ())))) else (let v0 : Int := (((ByteArray.size x.1) : Nat) : Int)
 bif (decide (x.2.1 > v0)) then (K (.inl ((1 : Int), (((0 : Int), ((List.replicate 32 (0 : Int)), ((List.replicate 32 (0 : Int)), ((0 : Int), ((0 : Int), ((0 : Int), ())))))), ())))) else (K (.inr (x.1, (x.2.1, ((x.2.2.1.1, (x.2.2.1.2.1, (x.2.2.1.2.2.1, (x.2.2.1.2.2.2.1, (x.2.2.1.2.2.2.2.1, (x.2.2.1.2.2.2.2.2.1, ())))))), ()))))))
def Qg.p0 (k : Nat) (x : Qg.p0.σ) : Option Qg.p0.τ := Qg.p0.r k x some
def Qg.p0.T : StT := ⟨.dat .str :: .dat (.int .i64) :: us 2 ++ .ptr 0 [] :: us 42, [.dat QgD]⟩
def Qg.p0.os : List Out := [⟨.ret, [.mask [4, 5], .auto 0], ⟨us 4 ++ .ptr 0 [] :: .dat (.int .i64) :: us 41, [.dat QgD]⟩⟩, ⟨.normal, [.mask [0, 1, 4], .auto 0], ⟨.dat .str :: .dat (.int .i64) :: us 2 ++ .ptr 0 [] :: us 42, [.dat QgD]⟩⟩]
def Qg.c (k : Nat) {ρ : Type} (s : ByteArray) (at_1 : Int) (K : QgJ × Int × Unit → Option ρ) : Option ρ :=
 (Qg.p0 k (s, (at_1, (((0 : Int), ((List.replicate 32 (0 : Int)), ((List.replicate 32 (0 : Int)), ((0 : Int), ((0 : Int), ((0 : Int), ())))))), ())))).bind fun t1 => (match t1 with | .inl t2 => (K ((t2.2.1.1, (t2.2.1.2.1, (t2.2.1.2.2.1, (t2.2.1.2.2.2.1, (t2.2.1.2.2.2.2.1, (t2.2.1.2.2.2.2.2.1, ())))))), (t2.1, ()))) | .inr (t3) => (let v4 : Int := (((ByteArray.size t3.1) : Nat) : Int)
 let v5 : Int := (IntKind.wrap IntKind.i64 (v4 - t3.2.1))
 bif (decide (v5 < (80 : Int))) then (K (((0 : Int), ((List.replicate 32 (0 : Int)), ((List.replicate 32 (0 : Int)), ((0 : Int), ((0 : Int), ((0 : Int), ())))))), ((4 : Int), ()))) else (bif (decide (((0 : Int) ≤ t3.2.1) ∧ ((t3.2.1 ≤ (((ByteArray.size t3.1) : Nat) : Int)) ∧ ((((ByteArray.size t3.1) : Nat) : Int) ≤ (((ByteArray.size t3.1) : Nat) : Int))))) then (let v6 : ByteArray := (ByteArray.extract t3.1 (Int.toNat t3.2.1) (Int.toNat (((ByteArray.size t3.1) : Nat) : Int)))
 bif (decide (((0 : Int) ≤ (0 : Int)) ∧ (((0 : Int) ≤ (4 : Int)) ∧ ((4 : Int) ≤ (((ByteArray.size v6) : Nat) : Int))))) then ((Qs k (ByteArray.extract v6 0 4)).bind fun t7 => let v8 : Int := (IntKind.wrap IntKind.u32 t7.1)
 bif (decide (((0 : Int) ≤ (4 : Int)) ∧ (((4 : Int) ≤ (36 : Int)) ∧ ((36 : Int) ≤ (((ByteArray.size v6) : Nat) : Int))))) then ((Qu k (ByteArray.extract v6 4 36)).bind fun t9 => bif (decide (((0 : Int) ≤ (36 : Int)) ∧ (((36 : Int) ≤ (68 : Int)) ∧ ((68 : Int) ≤ (((ByteArray.size v6) : Nat) : Int))))) then ((Qu k (ByteArray.extract v6 36 68)).bind fun t10 => bif (decide (((0 : Int) ≤ (68 : Int)) ∧ (((68 : Int) ≤ (72 : Int)) ∧ ((72 : Int) ≤ (((ByteArray.size v6) : Nat) : Int))))) then ((Qs k (ByteArray.extract v6 68 72)).bind fun t11 => let v12 : Int := (IntKind.wrap IntKind.u32 t11.1)
 bif (decide (((0 : Int) ≤ (72 : Int)) ∧ (((72 : Int) ≤ (76 : Int)) ∧ ((76 : Int) ≤ (((ByteArray.size v6) : Nat) : Int))))) then ((Qs k (ByteArray.extract v6 72 76)).bind fun t13 => let v14 : Int := (IntKind.wrap IntKind.u32 t13.1)
 bif (decide (((0 : Int) ≤ (76 : Int)) ∧ (((76 : Int) ≤ (80 : Int)) ∧ ((80 : Int) ≤ (((ByteArray.size v6) : Nat) : Int))))) then ((Qs k (ByteArray.extract v6 76 80)).bind fun t15 => let v16 : Int := (IntKind.wrap IntKind.u32 t15.1)
 K ((v8, (t9.1, (t10.1, (v12, (v14, (v16, ())))))), ((0 : Int), ()))) else (none)) else (none)) else (none)) else (none)) else (none)) else (none)) else (none))))
def Qg (k : Nat) (s : ByteArray) (at_1 : Int) : Option QgI := Qg.c k s at_1 some
def Qg.tin : List Ty := [.str, (.int .i64)]
def Qg.tout : List Ty := [QgD, (.int .i64)]
def Qg.sem (k : Nat) : QP := QW Qg.tin Qg.tout fun x => Qg k x.1 x.2.1
noncomputable def Qg.ctx (k : Nat) : Ctx := ⟨Tryz.prog, gam [(31, (Qs.sem k)), (32, (Qu.sem k))]⟩
theorem Qg.gok (k : Nat) : ∀ f, QF Tryz.prog f ((Qg.ctx k).Γ f) := (Qk (Qs.sem_ok k) (Qk (Qu.sem_ok k) QX))
theorem Qg.p0.is (k : Nat) : Q1O (Qg.ctx k) (QM (Func.code Tryz.f7) [1, 0]) (.nil) Qg.p0.T Qg.p0.os (Qg.p0.r k) := by
 intro ρ x K; kernel_rfl
theorem Qg.p0.ok (k : Nat) : StOK 0 Tryz.prog (QM (Func.code Tryz.f7) [1, 0]) (Qn Qg.p0.T Qg.p0.os (Qg.p0 k)) :=
 Q1F (C := Qg.ctx k) (T := Qg.p0.T) (os := Qg.p0.os) (Qg.gok k) Tryz.mix (fun x K => Qg.p0.r k x K) Q1.nil (by kernel_rfl) (by kernel_rfl) (Qg.p0.is k)
def Qg.ann (k : Nat) : Ann := .node [] none (.nil) (.node [] none (.node [.mask [0, 1, 4], .auto 0] (some (Qn Qg.p0.T Qg.p0.os (Qg.p0 k))) .nil .nil) (.nil))
theorem Qg.body (k : Nat) : Q0R (Qg.ctx k) Tryz.f7 (Func.code Tryz.f7) (Qg.ann k) Qg.tin Qg.tout (fun x K => Qg.c k x.1 x.2.1 K) := by
 intro ρ x K; kernel_rfl
theorem Qg.sem_ok (k : Nat) : QF Tryz.prog 7 (Qg.sem k) :=
 QD (C := Qg.ctx k) (Qg.gok k) Tryz.mix (c := Func.code Tryz.f7) (ann := Qg.ann k) (tin := Qg.tin) (tout := Qg.tout) (fun x K => Qg.c k x.1 x.2.1 K) Tryz.func7 (by kernel_rfl) (by kernel_rfl) (Q1.seq Q1.nil (Q1.seq (Q1.loop (by kernel_rfl) (Qg.p0.ok k)) Q1.nil)) (Qg.body k)
def Q08.c (k : Nat) {ρ : Type} (h : QgJ) (K : QgJ × Unit → Option ρ) : Option ρ :=
 let v0 : Int := h.1
 let v1 : (List Int) := h.2.1
 let v2 : (List Int) := h.2.2.1
 let v3 : Int := h.2.2.2.1
 let v4 : Int := h.2.2.2.2.1
 let v5 : Int := h.2.2.2.2.2.1
 K ((v0, (v1, (v2, (v3, (v4, (v5, ())))))), ())
def Q08 (k : Nat) (h : QgJ) : Option (QgJ × Unit) := Q08.c k h some
def Q08.tin : List Ty := [QgD]
def Q08.tout : List Ty := [QgD]
def Q08.sem (k : Nat) : QP := QW Q08.tin Q08.tout fun x => Q08 k x.1
noncomputable def Q08.ctx (k : Nat) : Ctx := ⟨Tryz.prog, gam []⟩
theorem Q08.gok (k : Nat) : ∀ f, QF Tryz.prog f ((Q08.ctx k).Γ f) := QX
def Q08.ann (k : Nat) : Ann := .nil
theorem Q08.body (k : Nat) : Q0R (Q08.ctx k) Tryz.f11 (Func.code Tryz.f11) (Q08.ann k) Q08.tin Q08.tout (fun x K => Q08.c k x.1 K) := by
 intro ρ x K; kernel_rfl
theorem Q08.sem_ok (k : Nat) : QF Tryz.prog 11 (Q08.sem k) :=
 QD (C := Q08.ctx k) (Q08.gok k) Tryz.mix (c := Func.code Tryz.f11) (ann := Q08.ann k) (tin := Q08.tin) (tout := Q08.tout) (fun x K => Q08.c k x.1 K) Tryz.func11 (by kernel_rfl) (by kernel_rfl) Q1.nil (Q08.body k)
abbrev Qo.l0.σ : Type := Int × Int × ByteArray × Int × Unit
abbrev Qo.l0.τ : Type := (ByteArray × Unit)
def Qo.l0.r (k : Nat) {ρ : Type} (x : Qo.l0.σ) (kn : Qo.l0.σ → Option ρ) (ke : Qo.l0.τ → Option ρ) : Option ρ :=
 bif (decide (x.2.2.2.1 < x.2.1)) then (let v0 : Int := (Int.tmod x.1 (256 : Int))
 let v1 : ByteArray := (bytesOf (List.set (List.replicate 1 (0 : Int)) 0 (IntKind.wrap IntKind.u8 v0)))
 bif (Nat.ble ((ByteArray.size x.2.2.1) + (ByteArray.size v1)) 9223372036854775807) then (let v2 : ByteArray := (x.2.2.1 ++ v1)
 let v3 : Int := (IntKind.wrap IntKind.u64 (Int.tdiv x.1 (256 : Int)))
 let v4 : Int := (IntKind.wrap IntKind.i64 (x.2.2.2.1 + (1 : Int)))
 kn (v3, (x.2.1, (v2, (v4, ()))))) else (none)) else (ke (x.2.2.1, ()))
def Qo.l0 (k : Nat) : Nat → Qo.l0.σ → Option Qo.l0.τ := Q14 (Qo.l0.r k)
def Qo.l0.T : StT := ⟨.dat (.int .u64) :: .dat (.int .i64) :: us 3 ++ .dat .str :: .dat (.int .i64) :: us 15, []⟩
def Qo.l0.os : List Out := [⟨(.exit 0), [.mask [5], .auto 0], ⟨us 5 ++ .dat .str :: us 16, []⟩⟩]
def Qo.c (k : Nat) {ρ : Type} (n : Int) (bytes : Int) (K : ByteArray × Unit → Option ρ) : Option ρ :=
 (Qo.l0 k k (n, (bytes, ((⟨(List.toArray [])⟩ : ByteArray), ((0 : Int), ()))))).bind fun t5 => K (t5.1, ())
def Qo (k : Nat) (n : Int) (bytes : Int) : Option (ByteArray × Unit) := Qo.c k n bytes some
def Qo.tin : List Ty := [(.int .u64), (.int .i64)]
def Qo.tout : List Ty := [.str]
def Qo.sem (k : Nat) : QP := QW Qo.tin Qo.tout fun x => Qo k x.1 x.2.1
noncomputable def Qo.ctx (k : Nat) : Ctx := ⟨Tryz.prog, gam []⟩
theorem Qo.gok (k : Nat) : ∀ f, QF Tryz.prog f ((Qo.ctx k).Γ f) := QX
theorem Qo.l0.round (k : Nat) : Q10 (Qo.ctx k) (QM (Func.code Tryz.f36) [1, 1, 0, 1, 0, 0]) (.nil) Qo.l0.T [.mask [0, 1, 5, 6], .auto 0] Qo.l0.os (Qo.l0.r k) := by
 intro ρ x kn ke; kernel_rfl
theorem Qo.l0.ok (k : Nat) : StOK 0 Tryz.prog (.loop (QM (Func.code Tryz.f36) [1, 1, 0, 1, 0, 0])) (Qn Qo.l0.T Qo.l0.os (Qo.l0 k k)) :=
 Q11 (C := Qo.ctx k) (Qo.gok k) Tryz.mix Q1.nil (by kernel_rfl) (by kernel_rfl) (by kernel_rfl) (Qo.l0.round k) k
def Qo.ann (k : Nat) : Ann := .node [] none (.nil) (.node [] none (.nil) (.node [] none (.node [] none (.nil) (.node [] none (.node [] (some (Qn Qo.l0.T Qo.l0.os (Qo.l0 k k))) .nil .nil) (.nil))) (.nil)))
theorem Qo.body (k : Nat) : Q0R (Qo.ctx k) Tryz.f36 (Func.code Tryz.f36) (Qo.ann k) Qo.tin Qo.tout (fun x K => Qo.c k x.1 x.2.1 K) := by
 intro ρ x K; kernel_rfl
theorem Qo.sem_ok (k : Nat) : QF Tryz.prog 36 (Qo.sem k) :=
 QD (C := Qo.ctx k) (Qo.gok k) Tryz.mix (c := Func.code Tryz.f36) (ann := Qo.ann k) (tin := Qo.tin) (tout := Qo.tout) (fun x K => Qo.c k x.1 x.2.1 K) Tryz.func36 (by kernel_rfl) (by kernel_rfl) (Q1.seq Q1.nil (Q1.seq Q1.nil (Q1.seq (Q1.seq Q1.nil (Q1.block (Q1.loop (by kernel_rfl) (Qo.l0.ok k)))) Q1.nil))) (Qo.body k)
def Q03.c (k : Nat) {ρ : Type} (h : QgJ) (K : ByteArray × Unit → Option ρ) : Option ρ :=
 let v0 : Int := h.1
 (Qo k (IntKind.wrap IntKind.u64 v0) (4 : Int)).bind fun t1 => let v2 : ByteArray := (bytesOf (List.take 32 (List.drop 0 h.2.1)))
 bif (Nat.ble ((ByteArray.size t1.1) + (ByteArray.size v2)) 9223372036854775807) then (let v3 : ByteArray := (t1.1 ++ v2)
 let v4 : ByteArray := (bytesOf (List.take 32 (List.drop 0 h.2.2.1)))
 bif (Nat.ble ((ByteArray.size v3) + (ByteArray.size v4)) 9223372036854775807) then (let v5 : ByteArray := (v3 ++ v4)
 let v6 : Int := h.2.2.2.1
 (Qo k (IntKind.wrap IntKind.u64 v6) (4 : Int)).bind fun t7 => bif (Nat.ble ((ByteArray.size v5) + (ByteArray.size t7.1)) 9223372036854775807) then (let v8 : ByteArray := (v5 ++ t7.1)
 let v9 : Int := h.2.2.2.2.1
 (Qo k (IntKind.wrap IntKind.u64 v9) (4 : Int)).bind fun t10 => bif (Nat.ble ((ByteArray.size v8) + (ByteArray.size t10.1)) 9223372036854775807) then (let v11 : ByteArray := (v8 ++ t10.1)
 let v12 : Int := h.2.2.2.2.2.1
 (Qo k (IntKind.wrap IntKind.u64 v12) (4 : Int)).bind fun t13 => bif (Nat.ble ((ByteArray.size v11) + (ByteArray.size t13.1)) 9223372036854775807) then (let v14 : ByteArray := (v11 ++ t13.1)
 K (v14, ())) else (none)) else (none)) else (none)) else (none)) else (none)
def Q03 (k : Nat) (h : QgJ) : Option (ByteArray × Unit) := Q03.c k h some
def Q03.tin : List Ty := [QgD]
def Q03.tout : List Ty := [.str]
def Q03.sem (k : Nat) : QP := QW Q03.tin Q03.tout fun x => Q03 k x.1
noncomputable def Q03.ctx (k : Nat) : Ctx := ⟨Tryz.prog, gam [(36, (Qo.sem k))]⟩
theorem Q03.gok (k : Nat) : ∀ f, QF Tryz.prog f ((Q03.ctx k).Γ f) := (Qk (Qo.sem_ok k) QX)
def Q03.ann (k : Nat) : Ann := .nil
theorem Q03.body (k : Nat) : Q0R (Q03.ctx k) Tryz.f10 (Func.code Tryz.f10) (Q03.ann k) Q03.tin Q03.tout (fun x K => Q03.c k x.1 K) := by
 intro ρ x K; kernel_rfl
theorem Q03.sem_ok (k : Nat) : QF Tryz.prog 10 (Q03.sem k) :=
 QD (C := Q03.ctx k) (Q03.gok k) Tryz.mix (c := Func.code Tryz.f10) (ann := Q03.ann k) (tin := Q03.tin) (tout := Q03.tout) (fun x K => Q03.c k x.1 K) Tryz.func10 (by kernel_rfl) (by kernel_rfl) Q1.nil (Q03.body k)
def Q0z.c (k : Nat) {ρ : Type} (h : QgJ) (K : (List Int) × Unit → Option ρ) : Option ρ :=
 (Q03 k (h.1, (h.2.1, (h.2.2.1, (h.2.2.2.1, (h.2.2.2.2.1, (h.2.2.2.2.2.1, ()))))))).bind fun t0 => (Q0p k t0.1).bind fun t1 => K (t1.1, ())
def Q0z (k : Nat) (h : QgJ) : Option ((List Int) × Unit) := Q0z.c k h some
def Q0z.tin : List Ty := [QgD]
def Q0z.tout : List Ty := [QgN]
def Q0z.sem (k : Nat) : QP := QW Q0z.tin Q0z.tout fun x => Q0z k x.1
noncomputable def Q0z.ctx (k : Nat) : Ctx := ⟨Tryz.prog, gam [(10, (Q03.sem k)), (37, (Q0p.sem k))]⟩
theorem Q0z.gok (k : Nat) : ∀ f, QF Tryz.prog f ((Q0z.ctx k).Γ f) := (Qk (Q03.sem_ok k) (Qk (Q0p.sem_ok k) QX))
def Q0z.ann (k : Nat) : Ann := .nil
theorem Q0z.body (k : Nat) : Q0R (Q0z.ctx k) Tryz.f12 (Func.code Tryz.f12) (Q0z.ann k) Q0z.tin Q0z.tout (fun x K => Q0z.c k x.1 K) := by
 intro ρ x K; kernel_rfl
theorem Q0z.sem_ok (k : Nat) : QF Tryz.prog 12 (Q0z.sem k) :=
 QD (C := Q0z.ctx k) (Q0z.gok k) Tryz.mix (c := Func.code Tryz.f12) (ann := Q0z.ann k) (tin := Q0z.tin) (tout := Q0z.tout) (fun x K => Q0z.c k x.1 K) Tryz.func12 (by kernel_rfl) (by kernel_rfl) Q1.nil (Q0z.body k)
def Q0i.c (k : Nat) {ρ : Type} (h : QgJ) (K : Bool × Unit → Option ρ) : Option ρ :=
 (Q0z k (h.1, (h.2.1, (h.2.2.1, (h.2.2.2.1, (h.2.2.2.2.1, (h.2.2.2.2.2.1, ()))))))).bind fun t0 => let v1 : Int := h.2.2.2.2.1
 (Q0n k t0.1 v1).bind fun t2 => K (t2.1, ())
def Q0i (k : Nat) (h : QgJ) : Option (Bool × Unit) := Q0i.c k h some
def Q0i.tin : List Ty := [QgD]
def Q0i.tout : List Ty := [.bool]
def Q0i.sem (k : Nat) : QP := QW Q0i.tin Q0i.tout fun x => Q0i k x.1
noncomputable def Q0i.ctx (k : Nat) : Ctx := ⟨Tryz.prog, gam [(12, (Q0z.sem k)), (39, (Q0n.sem k))]⟩
theorem Q0i.gok (k : Nat) : ∀ f, QF Tryz.prog f ((Q0i.ctx k).Γ f) := (Qk (Q0z.sem_ok k) (Qk (Q0n.sem_ok k) QX))
def Q0i.ann (k : Nat) : Ann := .nil
theorem Q0i.body (k : Nat) : Q0R (Q0i.ctx k) Tryz.f14 (Func.code Tryz.f14) (Q0i.ann k) Q0i.tin Q0i.tout (fun x K => Q0i.c k x.1 K) := by
 intro ρ x K; kernel_rfl
theorem Q0i.sem_ok (k : Nat) : QF Tryz.prog 14 (Q0i.sem k) :=
 QD (C := Q0i.ctx k) (Q0i.gok k) Tryz.mix (c := Func.code Tryz.f14) (ann := Q0i.ann k) (tin := Q0i.tin) (tout := Q0i.tout) (fun x K => Q0i.c k x.1 K) Tryz.func14 (by kernel_rfl) (by kernel_rfl) Q1.nil (Q0i.body k)
def QS.c (k : Nat) {ρ : Type} (h : QgJ) (s : ByteArray) (at_2 : Int) (K : Bool × Unit → Option ρ) : Option ρ :=
 (Q18 k (h.1, (h.2.1, (h.2.2.1, (h.2.2.2.1, (h.2.2.2.2.1, (h.2.2.2.2.2.1, ()))))))).bind fun t0 => (QH k s at_2).bind fun t1 => let v2 : Int := t1.2.1
 (Qg k s at_2).bind fun t3 => let v4 : Int := t3.2.1
 bif (Nat.ble (1 + (ByteArray.size t0.1)) 9223372036854775807) then (let v5 : ByteArray := ((⟨(List.toArray [120])⟩ : ByteArray) ++ t0.1)
 (QH k v5 (1 : Int)).bind fun t6 => let v7 : Int := t6.2.1
 (Q1p k (h.1, (h.2.1, (h.2.2.1, (h.2.2.2.1, (h.2.2.2.2.1, (h.2.2.2.2.2.1, ()))))))).bind fun t8 => (Q0e k ).bind fun t9 => bif t9.1 then ((Q08 k (h.1, (h.2.1, (h.2.2.1, (h.2.2.2.1, (h.2.2.2.2.1, (h.2.2.2.2.2.1, ()))))))).bind fun t10 => (Q03 k (t10.1.1, (t10.1.2.1, (t10.1.2.2.1, (t10.1.2.2.2.1, (t10.1.2.2.2.2.1, (t10.1.2.2.2.2.2.1, ()))))))).bind fun t11 => bif (Q32 t0.1 t11.1) then ((Q08 k (t1.1.1, (t1.1.2.1, (t1.1.2.2.1, (t1.1.2.2.2.1, (t1.1.2.2.2.2.1, (t1.1.2.2.2.2.2.1, ()))))))).bind fun t12 => bif ((t12.1.1 == t3.1.1) && ((decide (t12.1.2.1 = t3.1.2.1)) && ((decide (t12.1.2.2.1 = t3.1.2.2.1)) && ((t12.1.2.2.2.1 == t3.1.2.2.2.1) && ((t12.1.2.2.2.2.1 == t3.1.2.2.2.2.1) && ((t12.1.2.2.2.2.2.1 == t3.1.2.2.2.2.2.1) && true)))))) then (bif (v2 == v4) then (bif ((t6.1.1 == h.1) && ((decide (t6.1.2.1 = h.2.1)) && ((decide (t6.1.2.2.1 = h.2.2.1)) && ((t6.1.2.2.2.1 == h.2.2.2.1) && ((t6.1.2.2.2.2.1 == h.2.2.2.2.1) && ((t6.1.2.2.2.2.2.1 == h.2.2.2.2.2.1) && true)))))) then (bif (v7 == (0 : Int)) then (let v13 : (List Int) := t8.1
 (Q08 k (h.1, (h.2.1, (h.2.2.1, (h.2.2.2.1, (h.2.2.2.2.1, (h.2.2.2.2.2.1, ()))))))).bind fun t14 => (Q0z k (t14.1.1, (t14.1.2.1, (t14.1.2.2.1, (t14.1.2.2.2.1, (t14.1.2.2.2.2.1, (t14.1.2.2.2.2.2.1, ()))))))).bind fun t15 => bif (decide (v13 = t15.1)) then ((Q0Y k (h.1, (h.2.1, (h.2.2.1, (h.2.2.2.1, (h.2.2.2.2.1, (h.2.2.2.2.2.1, ()))))))).bind fun t16 => (Q08 k (h.1, (h.2.1, (h.2.2.1, (h.2.2.2.1, (h.2.2.2.2.1, (h.2.2.2.2.2.1, ()))))))).bind fun t17 => (Q0i k (t17.1.1, (t17.1.2.1, (t17.1.2.2.1, (t17.1.2.2.2.1, (t17.1.2.2.2.2.1, (t17.1.2.2.2.2.2.1, ()))))))).bind fun t18 => K ((t16.1 == t18.1), ())) else (K (false, ()))) else (K (false, ()))) else (K (false, ()))) else (K (false, ()))) else (K (false, ()))) else (K (false, ()))) else (K (false, ()))) else (none)
def QS (k : Nat) (h : QgJ) (s : ByteArray) (at_2 : Int) : Option (Bool × Unit) := QS.c k h s at_2 some
def QS.tin : List Ty := [QgD, .str, (.int .i64)]
def QS.tout : List Ty := [.bool]
def QS.sem (k : Nat) : QP := QW QS.tin QS.tout fun x => QS k x.1 x.2.1 x.2.2.1
noncomputable def QS.ctx (k : Nat) : Ctx := ⟨Tryz.prog, gam [(5, (Q18.sem k)), (6, (QH.sem k)), (7, (Qg.sem k)), (8, (Q1p.sem k)), (9, (Q0e.sem k)), (11, (Q08.sem k)), (10, (Q03.sem k)), (12, (Q0z.sem k)), (13, (Q0Y.sem k)), (14, (Q0i.sem k))]⟩
theorem QS.gok (k : Nat) : ∀ f, QF Tryz.prog f ((QS.ctx k).Γ f) := (Qk (Q18.sem_ok k) (Qk (QH.sem_ok k) (Qk (Qg.sem_ok k) (Qk (Q1p.sem_ok k) (Qk (Q0e.sem_ok k) (Qk (Q08.sem_ok k) (Qk (Q03.sem_ok k) (Qk (Q0z.sem_ok k) (Qk (Q0Y.sem_ok k) (Qk (Q0i.sem_ok k) QX))))))))))
def QS.ann (k : Nat) : Ann := .nil
theorem QS.body (k : Nat) : Q0R (QS.ctx k) Tryz.f3 (Func.code Tryz.f3) (QS.ann k) QS.tin QS.tout (fun x K => QS.c k x.1 x.2.1 x.2.2.1 K) := by
 intro ρ x K; kernel_rfl
theorem QS.sem_ok (k : Nat) : QF Tryz.prog 3 (QS.sem k) :=
 QD (C := QS.ctx k) (QS.gok k) Tryz.mix (c := Func.code Tryz.f3) (ann := QS.ann k) (tin := QS.tin) (tout := QS.tout) (fun x K => QS.c k x.1 x.2.1 x.2.2.1 K) Tryz.func3 (by kernel_rfl) (by kernel_rfl) Q1.nil (QS.body k)
end Go.Am
