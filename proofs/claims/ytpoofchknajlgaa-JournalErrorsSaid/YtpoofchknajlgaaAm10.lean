/- A part of a proof: a machine of abstract values that tells what functions of the program compute, and the plain facts on them. -/
import Derived.Test.YtpoofchknajlgaaAm9
import Derived.KernelRfl
import Derived.Test.YtpoofchknajlgaaAm7
import Derived.Test.YtpoofchknajlgaaAm5
set_option linter.unusedVariables false
set_option linter.unusedSimpArgs false
set_option linter.unnecessarySimpa false
set_option linter.unusedSectionVars false
namespace Go.Am
abbrev QfE : Type := ((List Int) × Unit)
abbrev QfD : Ty := (.arr 32 (.int .u8))
abbrev QfC : Ty := (.arr 8 (.int .u32))
abbrev QfB : Ty := (.arr 64 (.int .u32))
end Go.Am
namespace Go.Am
open Go Go.Proofs
set_option maxRecDepth 100000
abbrev Qs.l0.σ : Type := Int × Int × Int × (List Int) × Unit
abbrev Qs.l0.τ : Type := QfE 
def Qs.l0.r (k : Nat) {ρ : Type} (x : Qs.l0.σ) (kn : Qs.l0.σ → Option ρ) (ke : Qs.l0.τ → Option ρ) : Option ρ :=
 bif (decide (x.2.2.1 < x.2.1)) then (let v0 : Int := (Int.tmod x.1 (256 : Int))
 bif (Nat.ble (((List.length x.2.2.2.1) + (List.length (List.set (List.replicate 1 (0 : Int)) 0 (IntKind.wrap IntKind.u8 v0)))) * 1) 140737488355328) then (let v1 : Int := (IntKind.wrap IntKind.u64 (Int.tdiv x.1 (256 : Int)))
 let v2 : Int := (IntKind.wrap IntKind.i64 (x.2.2.1 + (1 : Int)))
 kn (v1, (x.2.1, (v2, ((x.2.2.2.1 ++ (List.set (List.replicate 1 (0 : Int)) 0 (IntKind.wrap IntKind.u8 v0))), ()))))) else (none)) else (ke (x.2.2.2.1, ()))
def Qs.l0 (k : Nat) : Nat → Qs.l0.σ → Option Qs.l0.τ := Q1p (Qs.l0.r k)
def Qs.l0.T : StT := ⟨.dat (.int .u64) :: .dat (.int .i64) :: us 3 ++ .vsl 0 :: .dat (.int .i64) :: us 16, [.vec (.int .u8)]⟩
def Qs.l0.os : List Out := [⟨(.exit 0), [.mask [5], .auto 0], ⟨us 5 ++ .vsl 0 :: us 17, [.vec (.int .u8)]⟩⟩]
def Qs.c (k : Nat) {ρ : Type} (n : Int) (bytes : Int) (K : ByteArray × Unit → Option ρ) : Option ρ :=
 (Qs.l0 k k (n, (bytes, ((0 : Int), ((List.replicate 0 (0 : Int)), ()))))).bind fun t3 => K ((bytesOf t3.1), ())
def Qs (k : Nat) (n : Int) (bytes : Int) : Option (ByteArray × Unit) := Qs.c k n bytes some
def Qs.tin : List Ty := [(.int .u64), (.int .i64)]
def Qs.tout : List Ty := [.str]
def Qs.sem (k : Nat) : QS := Q1l Qs.tin Qs.tout fun x => Qs k x.1 x.2.1
noncomputable def Qs.ctx (k : Nat) : Ctx := ⟨Try.prog, gam []⟩
theorem Qs.gok (k : Nat) : ∀ f, Qz Try.prog f ((Qs.ctx k).Γ f) := Q0f
theorem Qs.l0.round (k : Nat) : Q1n (Qs.ctx k) (QV (Func.code Try.f41) [1, 1, 0, 1, 0, 0]) (.nil) Qs.l0.T [.mask [0, 1, 5, 6], .auto 0] Qs.l0.os (Qs.l0.r k) := by
 intro ρ x kn ke; kernel_rfl
theorem Qs.l0.ok (k : Nat) : StOK 0 Try.prog (.loop (QV (Func.code Try.f41) [1, 1, 0, 1, 0, 0])) (Qf Qs.l0.T Qs.l0.os (Qs.l0 k k)) :=
 Q1o (C := Qs.ctx k) (Qs.gok k) Try.mix Q1.nil (by kernel_rfl) (by kernel_rfl) (by kernel_rfl) (Qs.l0.round k) k
def Qs.ann (k : Nat) : Ann := .node [] none (.nil) (.node [] none (.nil) (.node [] none (.node [] none (.nil) (.node [] none (.node [.mask [0, 1, 5, 6], .auto 0] (some (Qf Qs.l0.T Qs.l0.os (Qs.l0 k k))) .nil .nil) (.nil))) (.nil)))
theorem Qs.body (k : Nat) : Q1M (Qs.ctx k) Try.f41 (Func.code Try.f41) (Qs.ann k) Qs.tin Qs.tout (fun x K => Qs.c k x.1 x.2.1 K) := by
 intro ρ x K; kernel_rfl
theorem Qs.sem_ok (k : Nat) : Qz Try.prog 41 (Qs.sem k) :=
 Q1k (C := Qs.ctx k) (Qs.gok k) Try.mix (c := Func.code Try.f41) (ann := Qs.ann k) (tin := Qs.tin) (tout := Qs.tout) (fun x K => Qs.c k x.1 x.2.1 K) Try.func41 (by kernel_rfl) (by kernel_rfl) (Q1.seq Q1.nil (Q1.seq Q1.nil (Q1.seq (Q1.seq Q1.nil (Q1.block (Q1.loop (by kernel_rfl) (Qs.l0.ok k)))) Q1.nil))) (Qs.body k)
abbrev Qd.l0.σ : Type := Int × (List Int) × Unit
abbrev Qd.l0.τ : Type := (Int × (List Int) × Unit)
def Qd.l0.r (k : Nat) {ρ : Type} (x : Qd.l0.σ) (kn : Qd.l0.σ → Option ρ) (ke : Qd.l0.τ → Option ρ) : Option ρ :=
 let v0 : Int := (((List.length x.2.1) : Nat) : Int)
 let v1 : Int := (IntKind.wrap IntKind.u64 (x.1 + (IntKind.wrap IntKind.u64 v0)))
 bif ((Int.tmod v1 (64 : Int)) != (56 : Int)) then (bif (Nat.ble (((List.length x.2.1) + 1) * 1) 140737488355328) then (kn (x.1, ((x.2.1 ++ (List.set (List.replicate 1 (0 : Int)) 0 (0 : Int))), ()))) else (none)) else (ke (x.1, (x.2.1, ())))
def Qd.l0 (k : Nat) : Nat → Qd.l0.σ → Option Qd.l0.τ := Q1p (Qd.l0.r k)
def Qd.l0.T : StT := ⟨.dat (.int .u64) :: us 2 ++ .vsl 0 :: us 29, [.vec (.int .u8)]⟩
def Qd.l0.os : List Out := [⟨(.exit 0), [.mask [0, 3], .auto 0], ⟨.dat (.int .u64) :: us 2 ++ .vsl 0 :: us 29, [.vec (.int .u8)]⟩⟩]
abbrev Qd.l1.σ : Type := Int × Int × (List Int) × Unit
abbrev Qd.l1.τ : Type := QfE 
def Qd.l1.r (k : Nat) {ρ : Type} (x : Qd.l1.σ) (kn : Qd.l1.σ → Option ρ) (ke : Qd.l1.τ → Option ρ) : Option ρ :=
 bif (decide (x.2.1 ≥ (0 : Int))) then (let v4 : Int := (IntKind.wrap IntKind.i64 ((8 : Int) * x.2.1))
 bif (decide ((0 : Int) ≤ v4)) then (let v5 : Int := (Q2l IntKind.u64 x.1 v4)
 bif (Nat.ble (((List.length x.2.2.1) + (List.length (List.set (List.replicate 1 (0 : Int)) 0 (IntKind.wrap IntKind.u8 v5)))) * 1) 140737488355328) then (let v6 : Int := (IntKind.wrap IntKind.i64 (x.2.1 - (1 : Int)))
 kn (x.1, (v6, ((x.2.2.1 ++ (List.set (List.replicate 1 (0 : Int)) 0 (IntKind.wrap IntKind.u8 v5))), ())))) else (none)) else (none)) else (ke (x.2.2.1, ()))
def Qd.l1 (k : Nat) : Nat → Qd.l1.σ → Option Qd.l1.τ := Q1p (Qd.l1.r k)
def Qd.l1.T : StT := ⟨us 3 ++ .vsl 0 :: .dat (.int .u64) :: .dat (.int .i64) :: us 27, [.vec (.int .u8)]⟩
def Qd.l1.os : List Out := [⟨(.exit 2), [.mask [3], .auto 0], ⟨us 3 ++ .vsl 0 :: us 29, [.vec (.int .u8)]⟩⟩]
def Qd.c (k : Nat) {ρ : Type} (n : Int) (K : ByteArray × Unit → Option ρ) : Option ρ :=
 (Qd.l0 k k (n, ((List.set (List.replicate 1 (0 : Int)) 0 (128 : Int)), ()))).bind fun t2 => let v3 : Int := (IntKind.wrap IntKind.u64 ((8 : Int) * t2.1))
 (Qd.l1 k k (v3, ((7 : Int), (t2.2.1, ())))).bind fun t7 => K ((bytesOf t7.1), ())
def Qd (k : Nat) (n : Int) : Option (ByteArray × Unit) := Qd.c k n some
def Qd.tin : List Ty := [(.int .u64)]
def Qd.tout : List Ty := [.str]
def Qd.sem (k : Nat) : QS := Q1l Qd.tin Qd.tout fun x => Qd k x.1
noncomputable def Qd.ctx (k : Nat) : Ctx := ⟨Try.prog, gam []⟩
theorem Qd.gok (k : Nat) : ∀ f, Qz Try.prog f ((Qd.ctx k).Γ f) := Q0f
theorem Qd.l0.round (k : Nat) : Q1n (Qd.ctx k) (QV (Func.code Try.f94) [1, 1, 0, 0, 0]) (.nil) Qd.l0.T [.mask [0, 3], .auto 0] Qd.l0.os (Qd.l0.r k) := by
 intro ρ x kn ke; kernel_rfl
theorem Qd.l0.ok (k : Nat) : StOK 0 Try.prog (.loop (QV (Func.code Try.f94) [1, 1, 0, 0, 0])) (Qf Qd.l0.T Qd.l0.os (Qd.l0 k k)) :=
 Q1o (C := Qd.ctx k) (Qd.gok k) Try.mix Q1.nil (by kernel_rfl) (by kernel_rfl) (by kernel_rfl) (Qd.l0.round k) k
theorem Qd.l1.round (k : Nat) : Q1n (Qd.ctx k) (QV (Func.code Try.f94) [1, 1, 1, 1, 0, 1, 0, 0]) (.nil) Qd.l1.T [.mask [3, 4, 5], .auto 0] Qd.l1.os (Qd.l1.r k) := by
 intro ρ x kn ke; kernel_rfl
theorem Qd.l1.ok (k : Nat) : StOK 0 Try.prog (.loop (QV (Func.code Try.f94) [1, 1, 1, 1, 0, 1, 0, 0])) (Qf Qd.l1.T Qd.l1.os (Qd.l1 k k)) :=
 Q1o (C := Qd.ctx k) (Qd.gok k) Try.mix Q1.nil (by kernel_rfl) (by kernel_rfl) (by kernel_rfl) (Qd.l1.round k) k
def Qd.ann (k : Nat) : Ann := .node [] none (.nil) (.node [] none (.nil) (.node [] none (.node [] none (.node [.mask [0, 3], .auto 0] (some (Qf Qd.l0.T Qd.l0.os (Qd.l0 k k))) .nil .nil) (.nil)) (.node [] none (.nil) (.node [] none (.node [] none (.nil) (.node [] none (.node [.mask [3, 4, 5], .auto 0] (some (Qf Qd.l1.T Qd.l1.os (Qd.l1 k k))) .nil .nil) (.nil))) (.nil)))))
theorem Qd.body (k : Nat) : Q1M (Qd.ctx k) Try.f94 (Func.code Try.f94) (Qd.ann k) Qd.tin Qd.tout (fun x K => Qd.c k x.1 K) := by
 intro ρ x K; kernel_rfl
theorem Qd.sem_ok (k : Nat) : Qz Try.prog 94 (Qd.sem k) :=
 Q1k (C := Qd.ctx k) (Qd.gok k) Try.mix (c := Func.code Try.f94) (ann := Qd.ann k) (tin := Qd.tin) (tout := Qd.tout) (fun x K => Qd.c k x.1 K) Try.func94 (by kernel_rfl) (by kernel_rfl) (Q1.seq Q1.nil (Q1.seq Q1.nil (Q1.seq (Q1.block (Q1.loop (by kernel_rfl) (Qd.l0.ok k))) (Q1.seq Q1.nil (Q1.seq (Q1.seq Q1.nil (Q1.block (Q1.loop (by kernel_rfl) (Qd.l1.ok k)))) Q1.nil))))) (Qd.body k)
def Q0H.c (k : Nat) {ρ : Type}  (K : (List Int) × Unit → Option ρ) : Option ρ :=
 let v0 : (List Int) := (List.set (List.set (List.set (List.set (List.set (List.set (List.set (List.set (List.replicate 8 (0 : Int)) 0 (1779033703 : Int)) 1 (3144134277 : Int)) 2 (1013904242 : Int)) 3 (2773480762 : Int)) 4 (1359893119 : Int)) 5 (2600822924 : Int)) 6 (528734635 : Int)) 7 (1541459225 : Int))
 K (v0, ())
def Q0H (k : Nat)  : Option QfE := Q0H.c k  some
def Q0H.tin : List Ty := []
def Q0H.tout : List Ty := [QfC]
def Q0H.sem (k : Nat) : QS := Q1l Q0H.tin Q0H.tout fun x => Q0H k 
noncomputable def Q0H.ctx (k : Nat) : Ctx := ⟨Try.prog, gam []⟩
theorem Q0H.gok (k : Nat) : ∀ f, Qz Try.prog f ((Q0H.ctx k).Γ f) := Q0f
def Q0H.ann (k : Nat) : Ann := .nil
theorem Q0H.body (k : Nat) : Q1M (Q0H.ctx k) Try.f95 (Func.code Try.f95) (Q0H.ann k) Q0H.tin Q0H.tout (fun x K => Q0H.c k  K) := by
 intro ρ x K; kernel_rfl
theorem Q0H.sem_ok (k : Nat) : Qz Try.prog 95 (Q0H.sem k) :=
 Q1k (C := Q0H.ctx k) (Q0H.gok k) Try.mix (c := Func.code Try.f95) (ann := Q0H.ann k) (tin := Q0H.tin) (tout := Q0H.tout) (fun x K => Q0H.c k  K) Try.func95 (by kernel_rfl) (by kernel_rfl) Q1.nil (Q0H.body k)
def Q0j.c (k : Nat) {ρ : Type}  (K : (List Int) × Unit → Option ρ) : Option ρ :=
 let v0 : (List Int) := (List.set (List.set (List.set (List.set (List.set (List.set (List.set (List.set (List.set (List.set (List.set (List.set (List.set (List.set (List.set (List.set (List.set (List.set (List.set (List.set (List.set (List.set (List.set (List.set (List.set (List.set (List.set (List.set (List.set (List.set (List.set (List.set (List.set (List.set (List.set (List.set (List.set (List.set (List.set (List.set (List.set (List.set (List.set (List.set (List.set (List.set (List.set (List.set (List.set (List.set (List.set (List.set (List.set (List.set (List.set (List.set (List.set (List.set (List.set (List.set (List.set (List.set (List.set (List.set (List.replicate 64 (0 : Int)) 0 (1116352408 : Int)) 1 (1899447441 : Int)) 2 (3049323471 : Int)) 3 (3921009573 : Int)) 4 (961987163 : Int)) 5 (1508970993 : Int)) 6 (2453635748 : Int)) 7 (2870763221 : Int)) 8 (3624381080 : Int)) 9 (310598401 : Int)) 10 (607225278 : Int)) 11 (1426881987 : Int)) 12 (1925078388 : Int)) 13 (2162078206 : Int)) 14 (2614888103 : Int)) 15 (3248222580 : Int)) 16 (3835390401 : Int)) 17 (4022224774 : Int)) 18 (264347078 : Int)) 19 (604807628 : Int)) 20 (770255983 : Int)) 21 (1249150122 : Int)) 22 (1555081692 : Int)) 23 (1996064986 : Int)) 24 (2554220882 : Int)) 25 (2821834349 : Int)) 26 (2952996808 : Int)) 27 (3210313671 : Int)) 28 (3336571891 : Int)) 29 (3584528711 : Int)) 30 (113926993 : Int)) 31 (338241895 : Int)) 32 (666307205 : Int)) 33 (773529912 : Int)) 34 (1294757372 : Int)) 35 (1396182291 : Int)) 36 (1695183700 : Int)) 37 (1986661051 : Int)) 38 (2177026350 : Int)) 39 (2456956037 : Int)) 40 (2730485921 : Int)) 41 (2820302411 : Int)) 42 (3259730800 : Int)) 43 (3345764771 : Int)) 44 (3516065817 : Int)) 45 (3600352804 : Int)) 46 (4094571909 : Int)) 47 (275423344 : Int)) 48 (430227734 : Int)) 49 (506948616 : Int)) 50 (659060556 : Int)) 51 (883997877 : Int)) 52 (958139571 : Int)) 53 (1322822218 : Int)) 54 (1537002063 : Int)) 55 (1747873779 : Int)) 56 (1955562222 : Int)) 57 (2024104815 : Int)) 58 (2227730452 : Int)) 59 (2361852424 : Int)) 60 (2428436474 : Int)) 61 (2756734187 : Int)) 62 (3204031479 : Int)) 63 (3329325298 : Int))
 K (v0, ())
def Q0j (k : Nat)  : Option QfE := Q0j.c k  some
def Q0j.tin : List Ty := []
def Q0j.tout : List Ty := [QfB]
def Q0j.sem (k : Nat) : QS := Q1l Q0j.tin Q0j.tout fun x => Q0j k 
noncomputable def Q0j.ctx (k : Nat) : Ctx := ⟨Try.prog, gam []⟩
theorem Q0j.gok (k : Nat) : ∀ f, Qz Try.prog f ((Q0j.ctx k).Γ f) := Q0f
def Q0j.ann (k : Nat) : Ann := .nil
theorem Q0j.body (k : Nat) : Q1M (Q0j.ctx k) Try.f102 (Func.code Try.f102) (Q0j.ann k) Q0j.tin Q0j.tout (fun x K => Q0j.c k  K) := by
 intro ρ x K; kernel_rfl
theorem Q0j.sem_ok (k : Nat) : Qz Try.prog 102 (Q0j.sem k) :=
 Q1k (C := Q0j.ctx k) (Q0j.gok k) Try.mix (c := Func.code Try.f102) (ann := Q0j.ann k) (tin := Q0j.tin) (tout := Q0j.tout) (fun x K => Q0j.c k  K) Try.func102 (by kernel_rfl) (by kernel_rfl) Q1.nil (Q0j.body k)
def Q0h.c (k : Nat) {ρ : Type} (n : Int) (by_1 : Int) (K : Int × Unit → Option ρ) : Option ρ :=
 bif (decide ((0 : Int) ≤ by_1)) then (let v0 : Int := (IntKind.wrap IntKind.i64 ((32 : Int) - by_1))
 bif (decide ((0 : Int) ≤ v0)) then (let v1 : Int := (Q1f BinOp.or IntKind.u32 (Q2l IntKind.u32 n by_1) (Q3l IntKind.u32 n v0))
 K (v1, ())) else (none)) else (none)
def Q0h (k : Nat) (n : Int) (by_1 : Int) : Option (Int × Unit) := Q0h.c k n by_1 some
def Q0h.tin : List Ty := [(.int .u32), (.int .i64)]
def Q0h.tout : List Ty := [(.int .u32)]
def Q0h.sem (k : Nat) : QS := Q1l Q0h.tin Q0h.tout fun x => Q0h k x.1 x.2.1
noncomputable def Q0h.ctx (k : Nat) : Ctx := ⟨Try.prog, gam []⟩
theorem Q0h.gok (k : Nat) : ∀ f, Qz Try.prog f ((Q0h.ctx k).Γ f) := Q0f
def Q0h.ann (k : Nat) : Ann := .nil
theorem Q0h.body (k : Nat) : Q1M (Q0h.ctx k) Try.f103 (Func.code Try.f103) (Q0h.ann k) Q0h.tin Q0h.tout (fun x K => Q0h.c k x.1 x.2.1 K) := by
 intro ρ x K; kernel_rfl
theorem Q0h.sem_ok (k : Nat) : Qz Try.prog 103 (Q0h.sem k) :=
 Q1k (C := Q0h.ctx k) (Q0h.gok k) Try.mix (c := Func.code Try.f103) (ann := Q0h.ann k) (tin := Q0h.tin) (tout := Q0h.tout) (fun x K => Q0h.c k x.1 x.2.1 K) Try.func103 (by kernel_rfl) (by kernel_rfl) Q1.nil (Q0h.body k)
abbrev Q5.l0.σ : Type := Int × (List Int) × (List Int) × (List Int) × (List Int) × (List Int) × Unit
abbrev Q5.l0.τ : Type := ((List Int) × (List Int) × (List Int) × (List Int) × Unit)
def Q5.l0.r (k : Nat) {ρ : Type} (x : Q5.l0.σ) (kn : Q5.l0.σ → Option ρ) (ke : Q5.l0.τ → Option ρ) : Option ρ :=
 bif (decide (x.1 < (64 : Int))) then (bif (decide (x.1 < (16 : Int))) then (let v2 : Int := (IntKind.wrap IntKind.i64 ((4 : Int) * x.1))
 bif (decide (((0 : Int) ≤ v2) ∧ (v2 < ((64 : Nat) : Int)))) then (let v3 : Int := (List.getD x.2.2.1 (Int.toNat v2) (0 : Int))
 let v4 : Int := (Q3l IntKind.u32 (IntKind.wrap IntKind.u32 v3) (24 : Int))
 let v5 : Int := (IntKind.wrap IntKind.i64 ((4 : Int) * x.1))
 let v6 : Int := (IntKind.wrap IntKind.i64 (v5 + (1 : Int)))
 bif (decide (((0 : Int) ≤ v6) ∧ (v6 < ((64 : Nat) : Int)))) then (let v7 : Int := (List.getD x.2.2.1 (Int.toNat v6) (0 : Int))
 let v8 : Int := (Q3l IntKind.u32 (IntKind.wrap IntKind.u32 v7) (16 : Int))
 let v9 : Int := (IntKind.wrap IntKind.i64 ((4 : Int) * x.1))
 let v10 : Int := (IntKind.wrap IntKind.i64 (v9 + (2 : Int)))
 bif (decide (((0 : Int) ≤ v10) ∧ (v10 < ((64 : Nat) : Int)))) then (let v11 : Int := (List.getD x.2.2.1 (Int.toNat v10) (0 : Int))
 let v12 : Int := (Q3l IntKind.u32 (IntKind.wrap IntKind.u32 v11) (8 : Int))
 let v13 : Int := (Q1f BinOp.or IntKind.u32 (Q1f BinOp.or IntKind.u32 v4 v8) v12)
 let v14 : Int := (IntKind.wrap IntKind.i64 ((4 : Int) * x.1))
 let v15 : Int := (IntKind.wrap IntKind.i64 (v14 + (3 : Int)))
 bif (decide (((0 : Int) ≤ v15) ∧ (v15 < ((64 : Nat) : Int)))) then (let v16 : Int := (List.getD x.2.2.1 (Int.toNat v15) (0 : Int))
 bif (decide (((0 : Int) ≤ x.1) ∧ (x.1 < ((64 : Nat) : Int)))) then (let v17 : Int := (IntKind.wrap IntKind.i64 (x.1 + (1 : Int)))
 kn (v17, (x.2.1, (x.2.2.1, (x.2.2.2.1, (x.2.2.2.2.1, ((List.set x.2.2.2.2.2.1 (Int.toNat x.1) (Q1f BinOp.or IntKind.u32 v13 (IntKind.wrap IntKind.u32 v16))), ()))))))) else (none)) else (none)) else (none)) else (none)) else (none)) else (let v18 : Int := (IntKind.wrap IntKind.i64 (x.1 - (15 : Int)))
 bif (decide (((0 : Int) ≤ v18) ∧ (v18 < ((64 : Nat) : Int)))) then (let v19 : Int := (List.getD x.2.2.2.2.2.1 (Int.toNat v18) (0 : Int))
 let v20 : Int := (IntKind.wrap IntKind.i64 (x.1 - (2 : Int)))
 bif (decide (((0 : Int) ≤ v20) ∧ (v20 < ((64 : Nat) : Int)))) then (let v21 : Int := (List.getD x.2.2.2.2.2.1 (Int.toNat v20) (0 : Int))
 (Q0h k v21 (17 : Int)).bind fun t22 => (Q0h k v21 (19 : Int)).bind fun t23 => let v24 : Int := (Q1f BinOp.xor IntKind.u32 t22.1 t23.1)
 let v25 : Int := (Q2l IntKind.u32 v21 (10 : Int))
 let v26 : Int := (IntKind.wrap IntKind.i64 (x.1 - (7 : Int)))
 bif (decide (((0 : Int) ≤ v26) ∧ (v26 < ((64 : Nat) : Int)))) then (let v27 : Int := (List.getD x.2.2.2.2.2.1 (Int.toNat v26) (0 : Int))
 let v28 : Int := (IntKind.wrap IntKind.u32 ((Q1f BinOp.xor IntKind.u32 v24 v25) + v27))
 (Q0h k v19 (7 : Int)).bind fun t29 => (Q0h k v19 (18 : Int)).bind fun t30 => let v31 : Int := (Q1f BinOp.xor IntKind.u32 t29.1 t30.1)
 let v32 : Int := (Q2l IntKind.u32 v19 (3 : Int))
 let v33 : Int := (IntKind.wrap IntKind.u32 (v28 + (Q1f BinOp.xor IntKind.u32 v31 v32)))
 let v34 : Int := (IntKind.wrap IntKind.i64 (x.1 - (16 : Int)))
 bif (decide (((0 : Int) ≤ v34) ∧ (v34 < ((64 : Nat) : Int)))) then (let v35 : Int := (List.getD x.2.2.2.2.2.1 (Int.toNat v34) (0 : Int))
 let v36 : Int := (IntKind.wrap IntKind.u32 (v33 + v35))
 bif (decide (((0 : Int) ≤ x.1) ∧ (x.1 < ((64 : Nat) : Int)))) then (let v37 : Int := (IntKind.wrap IntKind.i64 (x.1 + (1 : Int)))
 kn (v37, (x.2.1, (x.2.2.1, (x.2.2.2.1, (x.2.2.2.2.1, ((List.set x.2.2.2.2.2.1 (Int.toNat x.1) v36), ()))))))) else (none)) else (none)) else (none)) else (none)) else (none))) else (ke (x.2.1, (x.2.2.2.1, (x.2.2.2.2.1, (x.2.2.2.2.2.1, ())))))
def Q5.l0 (k : Nat) : Nat → Q5.l0.σ → Option Q5.l0.τ := Q1p (Q5.l0.r k)
def Q5.l0.T : StT := ⟨us 2 ++ .ptr 0 [] :: .ptr 1 [] :: .ptr 2 [] :: .ptr 3 [] :: .ptr 4 [] :: .dat (.int .i64) :: us 181, [.dat QfC, .dat (.arr 64 (.int .u8)), .dat QfC, .dat QfB, .dat QfB]⟩
def Q5.l0.os : List Out := [⟨(.exit 0), [.mask [2, 4, 5, 6], .auto 0], ⟨us 2 ++ .ptr 0 [] :: us 1 ++ .ptr 1 [] :: .ptr 2 [] :: .ptr 3 [] :: us 182, [.dat QfC, .dat QfC, .dat QfB, .dat QfB]⟩⟩]
abbrev Q5.l1.σ : Type := Int × (List Int) × (List Int) × (List Int) × (List Int) × (List Int) × Unit
abbrev Q5.l1.τ : Type := ((List Int) × (List Int) × (List Int) × Unit)
def Q5.l1.r (k : Nat) {ρ : Type} (x : Q5.l1.σ) (kn : Q5.l1.σ → Option ρ) (ke : Q5.l1.τ → Option ρ) : Option ρ :=
 bif (decide (x.1 < (64 : Int))) then (let v40 : Int := (List.getD x.2.2.2.2.2.1 4 (0 : Int))
 let v41 : Int := (List.getD x.2.2.2.2.2.1 0 (0 : Int))
 let v42 : Int := (List.getD x.2.2.2.2.2.1 7 (0 : Int))
 (Q0h k v40 (6 : Int)).bind fun t43 => (Q0h k v40 (11 : Int)).bind fun t44 => let v45 : Int := (Q1f BinOp.xor IntKind.u32 t43.1 t44.1)
 (Q0h k v40 (25 : Int)).bind fun t46 => let v47 : Int := (Q1f BinOp.xor IntKind.u32 v45 t46.1)
 let v48 : Int := (IntKind.wrap IntKind.u32 (v42 + v47))
 let v49 : Int := (List.getD x.2.2.2.2.2.1 5 (0 : Int))
 let v50 : Int := (IntKind.wrap IntKind.u32 ((4294967295 : Int) - v40))
 let v51 : Int := (List.getD x.2.2.2.2.2.1 6 (0 : Int))
 let v52 : Int := (Q1f BinOp.xor IntKind.u32 (Q1f BinOp.and IntKind.u32 v40 v49) (Q1f BinOp.and IntKind.u32 v50 v51))
 let v53 : Int := (IntKind.wrap IntKind.u32 (v48 + v52))
 bif (decide (((0 : Int) ≤ x.1) ∧ (x.1 < ((64 : Nat) : Int)))) then (let v54 : Int := (List.getD x.2.2.2.1 (Int.toNat x.1) (0 : Int))
 let v55 : Int := (IntKind.wrap IntKind.u32 (v53 + v54))
 bif (decide (((0 : Int) ≤ x.1) ∧ (x.1 < ((64 : Nat) : Int)))) then (let v56 : Int := (List.getD x.2.2.2.2.1 (Int.toNat x.1) (0 : Int))
 let v57 : Int := (IntKind.wrap IntKind.u32 (v55 + v56))
 (Q0h k v41 (2 : Int)).bind fun t58 => (Q0h k v41 (13 : Int)).bind fun t59 => let v60 : Int := (Q1f BinOp.xor IntKind.u32 t58.1 t59.1)
 (Q0h k v41 (22 : Int)).bind fun t61 => let v62 : Int := (Q1f BinOp.xor IntKind.u32 v60 t61.1)
 let v63 : Int := (List.getD x.2.2.2.2.2.1 1 (0 : Int))
 let v64 : Int := (List.getD x.2.2.2.2.2.1 2 (0 : Int))
 let v65 : Int := (Q1f BinOp.xor IntKind.u32 (Q1f BinOp.and IntKind.u32 v41 v63) (Q1f BinOp.and IntKind.u32 v41 v64))
 let v66 : Int := (List.getD x.2.2.2.2.2.1 1 (0 : Int))
 let v67 : Int := (List.getD x.2.2.2.2.2.1 2 (0 : Int))
 let v68 : Int := (Q1f BinOp.xor IntKind.u32 v65 (Q1f BinOp.and IntKind.u32 v66 v67))
 let v69 : Int := (IntKind.wrap IntKind.u32 (v62 + v68))
 let v70 : Int := (IntKind.wrap IntKind.u32 (v57 + v69))
 let v71 : Int := (List.getD x.2.2.2.2.2.1 0 (0 : Int))
 let v72 : Int := (List.getD x.2.2.2.2.2.1 1 (0 : Int))
 let v73 : Int := (List.getD x.2.2.2.2.2.1 2 (0 : Int))
 let v74 : Int := (List.getD x.2.2.2.2.2.1 3 (0 : Int))
 let v75 : Int := (IntKind.wrap IntKind.u32 (v74 + v57))
 let v76 : Int := (List.getD x.2.2.2.2.2.1 4 (0 : Int))
 let v77 : Int := (List.getD x.2.2.2.2.2.1 5 (0 : Int))
 let v78 : Int := (List.getD x.2.2.2.2.2.1 6 (0 : Int))
 let v79 : (List Int) := (List.set (List.set (List.set (List.set (List.set (List.set (List.set (List.set (List.replicate 8 (0 : Int)) 0 v70) 1 v71) 2 v72) 3 v73) 4 v75) 5 v76) 6 v77) 7 v78)
 let v80 : Int := (IntKind.wrap IntKind.i64 (x.1 + (1 : Int)))
 kn (v80, (x.2.1, (x.2.2.1, (x.2.2.2.1, (x.2.2.2.2.1, (v79, ()))))))) else (none)) else (none)) else (ke (x.2.1, (x.2.2.1, (x.2.2.2.2.2.1, ()))))
def Q5.l1 (k : Nat) : Nat → Q5.l1.σ → Option Q5.l1.τ := Q1p (Q5.l1.r k)
def Q5.l1.T : StT := ⟨us 2 ++ .ptr 0 [] :: us 1 ++ .ptr 1 [] :: .ptr 2 [] :: .ptr 3 [] :: us 3 ++ .ptr 4 [] :: .dat (.int .i64) :: us 177, [.dat QfC, .dat QfC, .dat QfB, .dat QfB, .dat QfC]⟩
def Q5.l1.os : List Out := [⟨(.exit 2), [.mask [2, 4, 10], .auto 0], ⟨us 2 ++ .ptr 0 [] :: us 1 ++ .ptr 1 [] :: us 5 ++ .ptr 2 [] :: us 178, [.dat QfC, .dat QfC, .dat QfC]⟩⟩]
abbrev Q5.l2.σ : Type := Int × (List Int) × (List Int) × (List Int) × Unit
abbrev Q5.l2.τ : Type := ((List Int) × (List Int) × Unit)
def Q5.l2.r (k : Nat) {ρ : Type} (x : Q5.l2.σ) (kn : Q5.l2.σ → Option ρ) (ke : Q5.l2.τ → Option ρ) : Option ρ :=
 bif (decide (x.1 < (8 : Int))) then (bif (decide (((0 : Int) ≤ x.1) ∧ (x.1 < ((8 : Nat) : Int)))) then (let v82 : Int := (List.getD x.2.1 (Int.toNat x.1) (0 : Int))
 bif (decide (((0 : Int) ≤ x.1) ∧ (x.1 < ((8 : Nat) : Int)))) then (let v83 : Int := (List.getD x.2.2.2.1 (Int.toNat x.1) (0 : Int))
 let v84 : Int := (IntKind.wrap IntKind.u32 (v82 + v83))
 bif (decide (((0 : Int) ≤ x.1) ∧ (x.1 < ((8 : Nat) : Int)))) then (let v85 : Int := (IntKind.wrap IntKind.i64 (x.1 + (1 : Int)))
 kn (v85, ((List.set x.2.1 (Int.toNat x.1) v84), (x.2.2.1, (x.2.2.2.1, ()))))) else (none)) else (none)) else (none)) else (ke (x.2.1, (x.2.2.1, ())))
def Q5.l2 (k : Nat) : Nat → Q5.l2.σ → Option Q5.l2.τ := Q1p (Q5.l2.r k)
def Q5.l2.T : StT := ⟨us 2 ++ .ptr 0 [] :: us 1 ++ .ptr 1 [] :: us 5 ++ .ptr 2 [] :: us 5 ++ .dat (.int .i64) :: us 172, [.dat QfC, .dat QfC, .dat QfC]⟩
def Q5.l2.os : List Out := [⟨(.exit 4), [.mask [2, 4], .auto 0], ⟨us 2 ++ .ptr 0 [] :: us 1 ++ .ptr 1 [] :: us 184, [.dat QfC, .dat QfC]⟩⟩]
def Q5.c (k : Nat) {ρ : Type} (s : (List Int)) (block : (List Int)) (K : (List Int) × Unit → Option ρ) : Option ρ :=
 (Q0j k ).bind fun t0 => let v1 : (List Int) := (List.replicate 64 (0 : Int))
 (Q5.l0 k k ((0 : Int), (s, (block, ((List.replicate 8 (0 : Int)), (t0.1, (v1, ()))))))).bind fun t38 => let v39 : (List Int) := t38.1
 (Q5.l1 k k ((0 : Int), (t38.1, (t38.2.1, (t38.2.2.1, (t38.2.2.2.1, (v39, ()))))))).bind fun t81 => (Q5.l2 k k ((0 : Int), (t81.1, (t81.2.1, (t81.2.2.1, ()))))).bind fun t86 => let v87 : (List Int) := t86.1
 K (v87, ())
def Q5 (k : Nat) (s : (List Int)) (block : (List Int)) : Option QfE := Q5.c k s block some
def Q5.tin : List Ty := [QfC, (.arr 64 (.int .u8))]
def Q5.tout : List Ty := [QfC]
def Q5.sem (k : Nat) : QS := Q1l Q5.tin Q5.tout fun x => Q5 k x.1 x.2.1
noncomputable def Q5.ctx (k : Nat) : Ctx := ⟨Try.prog, gam [(102, (Q0j.sem k)), (103, (Q0h.sem k))]⟩
theorem Q5.gok (k : Nat) : ∀ f, Qz Try.prog f ((Q5.ctx k).Γ f) := (Qk (Q0j.sem_ok k) (Qk (Q0h.sem_ok k) Q0f))
theorem Q5.l0.round (k : Nat) : Q1n (Q5.ctx k) (QV (Func.code Try.f96) [1, 1, 1, 0, 1, 0, 0]) (.nil) Q5.l0.T [.mask [2, 3, 4, 5, 6, 7], .auto 0] Q5.l0.os (Q5.l0.r k) := by
 intro ρ x kn ke; kernel_rfl
theorem Q5.l0.ok (k : Nat) : StOK 0 Try.prog (.loop (QV (Func.code Try.f96) [1, 1, 1, 0, 1, 0, 0])) (Qf Q5.l0.T Q5.l0.os (Q5.l0 k k)) :=
 Q1o (C := Q5.ctx k) (Q5.gok k) Try.mix Q1.nil (by kernel_rfl) (by kernel_rfl) (by kernel_rfl) (Q5.l0.round k) k
theorem Q5.l1.round (k : Nat) : Q1n (Q5.ctx k) (QV (Func.code Try.f96) [1, 1, 1, 1, 1, 0, 1, 0, 0]) (.nil) Q5.l1.T [.mask [2, 4, 5, 6, 10, 11], .auto 0] Q5.l1.os (Q5.l1.r k) := by
 intro ρ x kn ke; kernel_rfl
theorem Q5.l1.ok (k : Nat) : StOK 0 Try.prog (.loop (QV (Func.code Try.f96) [1, 1, 1, 1, 1, 0, 1, 0, 0])) (Qf Q5.l1.T Q5.l1.os (Q5.l1 k k)) :=
 Q1o (C := Q5.ctx k) (Q5.gok k) Try.mix Q1.nil (by kernel_rfl) (by kernel_rfl) (by kernel_rfl) (Q5.l1.round k) k
theorem Q5.l2.round (k : Nat) : Q1n (Q5.ctx k) (QV (Func.code Try.f96) [1, 1, 1, 1, 1, 1, 0, 1, 0, 0]) (.nil) Q5.l2.T [.mask [2, 4, 10, 16], .auto 0] Q5.l2.os (Q5.l2.r k) := by
 intro ρ x kn ke; kernel_rfl
theorem Q5.l2.ok (k : Nat) : StOK 0 Try.prog (.loop (QV (Func.code Try.f96) [1, 1, 1, 1, 1, 1, 0, 1, 0, 0])) (Qf Q5.l2.T Q5.l2.os (Q5.l2 k k)) :=
 Q1o (C := Q5.ctx k) (Q5.gok k) Try.mix Q1.nil (by kernel_rfl) (by kernel_rfl) (by kernel_rfl) (Q5.l2.round k) k
def Q5.ann (k : Nat) : Ann := .node [] none (.nil) (.node [] none (.nil) (.node [] none (.nil) (.node [] none (.node [] none (.nil) (.node [] none (.node [.mask [2, 3, 4, 5, 6, 7], .auto 0] (some (Qf Q5.l0.T Q5.l0.os (Q5.l0 k k))) .nil .nil) (.nil))) (.node [] none (.nil) (.node [] none (.node [] none (.nil) (.node [] none (.node [.mask [2, 4, 5, 6, 10, 11], .auto 0] (some (Qf Q5.l1.T Q5.l1.os (Q5.l1 k k))) .nil .nil) (.nil))) (.node [] none (.node [] none (.nil) (.node [] none (.node [.mask [2, 4, 10, 16], .auto 0] (some (Qf Q5.l2.T Q5.l2.os (Q5.l2 k k))) .nil .nil) (.nil))) (.nil)))))))
theorem Q5.body (k : Nat) : Q1M (Q5.ctx k) Try.f96 (Func.code Try.f96) (Q5.ann k) Q5.tin Q5.tout (fun x K => Q5.c k x.1 x.2.1 K) := by
 intro ρ x K; kernel_rfl
theorem Q5.sem_ok (k : Nat) : Qz Try.prog 96 (Q5.sem k) :=
 Q1k (C := Q5.ctx k) (Q5.gok k) Try.mix (c := Func.code Try.f96) (ann := Q5.ann k) (tin := Q5.tin) (tout := Q5.tout) (fun x K => Q5.c k x.1 x.2.1 K) Try.func96 (by kernel_rfl) (by kernel_rfl) (Q1.seq Q1.nil (Q1.seq Q1.nil (Q1.seq Q1.nil (Q1.seq (Q1.seq Q1.nil (Q1.block (Q1.loop (by kernel_rfl) (Q5.l0.ok k)))) (Q1.seq Q1.nil (Q1.seq (Q1.seq Q1.nil (Q1.block (Q1.loop (by kernel_rfl) (Q5.l1.ok k)))) (Q1.seq (Q1.seq Q1.nil (Q1.block (Q1.loop (by kernel_rfl) (Q5.l2.ok k)))) Q1.nil))))))) (Q5.body k)
abbrev Qb.l1.σ : Type := Int × Int × (List Int) × (List Int) × (List Int) × Unit
abbrev Qb.l1.τ : Type := (Int × (List Int) × (List Int) × (List Int) × Unit)
def Qb.l1.r (k : Nat) {ρ : Type} (x : Qb.l1.σ) (kn : Qb.l1.σ → Option ρ) (ke : Qb.l1.τ → Option ρ) : Option ρ :=
 bif (decide (x.2.1 < (4 : Int))) then (let v1 : Int := (IntKind.wrap IntKind.i64 ((4 : Int) * x.1))
 let v2 : Int := (IntKind.wrap IntKind.i64 (v1 + x.2.1))
 bif (decide (((0 : Int) ≤ x.1) ∧ (x.1 < ((8 : Nat) : Int)))) then (let v3 : Int := (List.getD x.2.2.1 (Int.toNat x.1) (0 : Int))
 let v4 : Int := (IntKind.wrap IntKind.i64 ((8 : Int) * x.2.1))
 let v5 : Int := (IntKind.wrap IntKind.i64 ((24 : Int) - v4))
 bif (decide ((0 : Int) ≤ v5)) then (bif (decide (((0 : Int) ≤ v2) ∧ (v2 < ((32 : Nat) : Int)))) then (let v6 : Int := (IntKind.wrap IntKind.i64 (x.2.1 + (1 : Int)))
 kn (x.1, (v6, (x.2.2.1, (x.2.2.2.1, ((List.set x.2.2.2.2.1 (Int.toNat v2) (IntKind.wrap IntKind.u8 (Q2l IntKind.u32 v3 v5))), ())))))) else (none)) else (none)) else (none)) else (ke (x.1, (x.2.2.1, (x.2.2.2.1, (x.2.2.2.2.1, ())))))
def Qb.l1 (k : Nat) : Nat → Qb.l1.σ → Option Qb.l1.τ := Q1p (Qb.l1.r k)
def Qb.l1.T : StT := ⟨us 1 ++ .ptr 0 [] :: .ptr 1 [] :: .ptr 2 [] :: .dat (.int .i64) :: .dat (.int .i64) :: us 23, [.dat QfC, .dat QfD, .dat QfD]⟩
def Qb.l1.os : List Out := [⟨(.exit 2), [.mask [1, 2, 3, 4], .auto 0], ⟨us 1 ++ .ptr 0 [] :: .ptr 1 [] :: .ptr 2 [] :: .dat (.int .i64) :: us 24, [.dat QfC, .dat QfD, .dat QfD]⟩⟩]
abbrev Qb.l0.σ : Type := Int × (List Int) × (List Int) × (List Int) × Unit
abbrev Qb.l0.τ : Type := ((List Int) × (List Int) × Unit)
def Qb.l0.r (k : Nat) {ρ : Type} (x : Qb.l0.σ) (kn : Qb.l0.σ → Option ρ) (ke : Qb.l0.τ → Option ρ) : Option ρ :=
 bif (decide (x.1 < (8 : Int))) then ((Qb.l1 k k (x.1, ((0 : Int), (x.2.1, (x.2.2.1, (x.2.2.2.1, ())))))).bind fun t7 => let v8 : Int := (IntKind.wrap IntKind.i64 (t7.1 + (1 : Int)))
 kn (v8, (t7.2.1, (t7.2.2.1, (t7.2.2.2.1, ()))))) else (ke (x.2.2.1, (x.2.2.2.1, ())))
def Qb.l0 (k : Nat) : Nat → Qb.l0.σ → Option Qb.l0.τ := Q1p (Qb.l0.r k)
def Qb.l0.T : StT := ⟨us 1 ++ .ptr 0 [] :: .ptr 1 [] :: .ptr 2 [] :: .dat (.int .i64) :: us 24, [.dat QfC, .dat QfD, .dat QfD]⟩
def Qb.l0.os : List Out := [⟨(.exit 0), [.mask [2, 3], .auto 0], ⟨us 2 ++ .ptr 0 [] :: .ptr 1 [] :: us 25, [.dat QfD, .dat QfD]⟩⟩]
def Qb.c (k : Nat) {ρ : Type} (x_0 : (List Int)) (K : (List Int) × Unit → Option ρ) : Option ρ :=
 let v0 : (List Int) := (List.replicate 32 (0 : Int))
 (Qb.l0 k k ((0 : Int), (x_0, ((List.replicate 32 (0 : Int)), (v0, ()))))).bind fun t9 => let v10 : (List Int) := t9.2.1
 K (v10, ())
def Qb (k : Nat) (x_0 : (List Int)) : Option QfE := Qb.c k x_0 some
def Qb.tin : List Ty := [QfC]
def Qb.tout : List Ty := [QfD]
def Qb.sem (k : Nat) : QS := Q1l Qb.tin Qb.tout fun x => Qb k x.1
noncomputable def Qb.ctx (k : Nat) : Ctx := ⟨Try.prog, gam []⟩
theorem Qb.gok (k : Nat) : ∀ f, Qz Try.prog f ((Qb.ctx k).Γ f) := Q0f
theorem Qb.l1.round (k : Nat) : Q1n (Qb.ctx k) (QV (Func.code Try.f97) [1, 1, 0, 1, 0, 0, 1, 0, 0, 1, 0, 0]) (.nil) Qb.l1.T [.mask [1, 2, 3, 4, 5], .auto 0] Qb.l1.os (Qb.l1.r k) := by
 intro ρ x kn ke; kernel_rfl
theorem Qb.l1.ok (k : Nat) : StOK 0 Try.prog (.loop (QV (Func.code Try.f97) [1, 1, 0, 1, 0, 0, 1, 0, 0, 1, 0, 0])) (Qf Qb.l1.T Qb.l1.os (Qb.l1 k k)) :=
 Q1o (C := Qb.ctx k) (Qb.gok k) Try.mix Q1.nil (by kernel_rfl) (by kernel_rfl) (by kernel_rfl) (Qb.l1.round k) k
theorem Qb.l0.round (k : Nat) : Q1n (Qb.ctx k) (QV (Func.code Try.f97) [1, 1, 0, 1, 0, 0]) (.node [] none (.nil) (.node [] none (.node [] none (.node [] none (.nil) (.node [] none (.node [.mask [1, 2, 3, 4, 5], .auto 0] (some (Qf Qb.l1.T Qb.l1.os (Qb.l1 k k))) .nil .nil) (.nil))) (.nil)) (.nil))) Qb.l0.T [.mask [1, 2, 3, 4], .auto 0] Qb.l0.os (Qb.l0.r k) := by
 intro ρ x kn ke; kernel_rfl
theorem Qb.l0.ok (k : Nat) : StOK 0 Try.prog (.loop (QV (Func.code Try.f97) [1, 1, 0, 1, 0, 0])) (Qf Qb.l0.T Qb.l0.os (Qb.l0 k k)) :=
 Q1o (C := Qb.ctx k) (Qb.gok k) Try.mix (Q1.seq Q1.nil (Q1.seq (Q1.block (Q1.seq Q1.nil (Q1.block (Q1.loop (by kernel_rfl) (Qb.l1.ok k))))) Q1.nil)) (by kernel_rfl) (by kernel_rfl) (by kernel_rfl) (Qb.l0.round k) k
def Qb.ann (k : Nat) : Ann := .node [] none (.nil) (.node [] none (.nil) (.node [] none (.node [] none (.nil) (.node [] none (.node [.mask [1, 2, 3, 4], .auto 0] (some (Qf Qb.l0.T Qb.l0.os (Qb.l0 k k))) .nil .nil) (.nil))) (.nil)))
theorem Qb.body (k : Nat) : Q1M (Qb.ctx k) Try.f97 (Func.code Try.f97) (Qb.ann k) Qb.tin Qb.tout (fun x K => Qb.c k x.1 K) := by
 intro ρ x K; kernel_rfl
theorem Qb.sem_ok (k : Nat) : Qz Try.prog 97 (Qb.sem k) :=
 Q1k (C := Qb.ctx k) (Qb.gok k) Try.mix (c := Func.code Try.f97) (ann := Qb.ann k) (tin := Qb.tin) (tout := Qb.tout) (fun x K => Qb.c k x.1 K) Try.func97 (by kernel_rfl) (by kernel_rfl) (Q1.seq Q1.nil (Q1.seq Q1.nil (Q1.seq (Q1.seq Q1.nil (Q1.block (Q1.loop (by kernel_rfl) (Qb.l0.ok k)))) Q1.nil))) (Qb.body k)
abbrev Qe.l1.σ : Type := ByteArray × Int × Int × (List Int) × (List Int) × (List Int) × Unit
abbrev Qe.l1.τ : Type := (ByteArray × Int × (List Int) × (List Int) × (List Int) × Unit)
def Qe.l1.r (k : Nat) {ρ : Type} (x : Qe.l1.σ) (kn : Qe.l1.σ → Option ρ) (ke : Qe.l1.τ → Option ρ) : Option ρ :=
 bif (decide (x.2.2.1 < (64 : Int))) then (let v5 : Int := (IntKind.wrap IntKind.i64 (x.2.1 + x.2.2.1))
 bif (decide (((0 : Int) ≤ v5) ∧ (v5 < (((ByteArray.size x.1) : Nat) : Int)))) then (let v6 : Int := (Q1I x.1 (Int.toNat v5))
 bif (decide (((0 : Int) ≤ x.2.2.1) ∧ (x.2.2.1 < ((64 : Nat) : Int)))) then (let v7 : Int := (IntKind.wrap IntKind.i64 (x.2.2.1 + (1 : Int)))
 kn (x.1, (x.2.1, (v7, (x.2.2.2.1, (x.2.2.2.2.1, ((List.set x.2.2.2.2.2.1 (Int.toNat x.2.2.1) v6), ()))))))) else (none)) else (none)) else (ke (x.1, (x.2.1, (x.2.2.2.1, (x.2.2.2.2.1, (x.2.2.2.2.2.1, ()))))))
def Qe.l1 (k : Nat) : Nat → Qe.l1.σ → Option Qe.l1.τ := Q1p (Qe.l1.r k)
def Qe.l1.T : StT := ⟨.dat .str :: us 1 ++ .ptr 0 [] :: .ptr 1 [] :: .dat (.int .i64) :: .ptr 2 [] :: .dat (.int .i64) :: us 30, [.dat QfD, .dat QfC, .dat (.arr 64 (.int .u8))]⟩
def Qe.l1.os : List Out := [⟨(.exit 2), [.mask [0, 2, 3, 4, 5], .auto 0], ⟨.dat .str :: us 1 ++ .ptr 0 [] :: .ptr 1 [] :: .dat (.int .i64) :: .ptr 2 [] :: us 31, [.dat QfD, .dat QfC, .dat (.arr 64 (.int .u8))]⟩⟩]
abbrev Qe.l0.σ : Type := ByteArray × Int × (List Int) × (List Int) × Unit
abbrev Qe.l0.τ : Type := ((List Int) × (List Int) × Unit)
def Qe.l0.r (k : Nat) {ρ : Type} (x : Qe.l0.σ) (kn : Qe.l0.σ → Option ρ) (ke : Qe.l0.τ → Option ρ) : Option ρ :=
 let v3 : Int := (((ByteArray.size x.1) : Nat) : Int)
 bif (decide (x.2.1 < v3)) then (let v4 : (List Int) := (List.replicate 64 (0 : Int))
 (Qe.l1 k k (x.1, (x.2.1, ((0 : Int), (x.2.2.1, (x.2.2.2.1, (v4, ()))))))).bind fun t8 => let v9 : (List Int) := t8.2.2.2.1
 let v10 : (List Int) := t8.2.2.2.2.1
 (Q5 k v9 v10).bind fun t11 => let v12 : Int := (IntKind.wrap IntKind.i64 (t8.2.1 + (64 : Int)))
 kn (t8.1, (v12, (t8.2.2.1, (t11.1, ()))))) else (ke (x.2.2.1, (x.2.2.2.1, ())))
def Qe.l0 (k : Nat) : Nat → Qe.l0.σ → Option Qe.l0.τ := Q1p (Qe.l0.r k)
def Qe.l0.T : StT := ⟨.dat .str :: us 1 ++ .ptr 0 [] :: .ptr 1 [] :: .dat (.int .i64) :: us 32, [.dat QfD, .dat QfC]⟩
def Qe.l0.os : List Out := [⟨(.exit 0), [.mask [2, 3], .auto 0], ⟨us 2 ++ .ptr 0 [] :: .ptr 1 [] :: us 33, [.dat QfD, .dat QfC]⟩⟩]
def Qe.c (k : Nat) {ρ : Type} (s : ByteArray) (K : (List Int) × Unit → Option ρ) : Option ρ :=
 (Qd k (IntKind.wrap IntKind.u64 (((ByteArray.size s) : Nat) : Int))).bind fun t0 => bif (Nat.ble ((ByteArray.size s) + (ByteArray.size t0.1)) 9223372036854775807) then (let v1 : ByteArray := (s ++ t0.1)
 (Q0H k ).bind fun t2 => (Qe.l0 k k (v1, ((0 : Int), ((List.replicate 32 (0 : Int)), (t2.1, ()))))).bind fun t13 => let v14 : (List Int) := t13.2.1
 (Qb k v14).bind fun t15 => K (t15.1, ())) else (none)
def Qe (k : Nat) (s : ByteArray) : Option QfE := Qe.c k s some
def Qe.tin : List Ty := [.str]
def Qe.tout : List Ty := [QfD]
def Qe.sem (k : Nat) : QS := Q1l Qe.tin Qe.tout fun x => Qe k x.1
noncomputable def Qe.ctx (k : Nat) : Ctx := ⟨Try.prog, gam [(94, (Qd.sem k)), (95, (Q0H.sem k)), (96, (Q5.sem k)), (97, (Qb.sem k))]⟩
theorem Qe.gok (k : Nat) : ∀ f, Qz Try.prog f ((Qe.ctx k).Γ f) := (Qk (Qd.sem_ok k) (Qk (Q0H.sem_ok k) (Qk (Q5.sem_ok k) (Qk (Qb.sem_ok k) Q0f))))
theorem Qe.l1.round (k : Nat) : Q1n (Qe.ctx k) (QV (Func.code Try.f85) [1, 1, 1, 0, 1, 0, 0, 1, 0, 0, 1, 0, 1, 0, 0]) (.nil) Qe.l1.T [.mask [0, 2, 3, 4, 5, 6], .auto 0] Qe.l1.os (Qe.l1.r k) := by
 intro ρ x kn ke; kernel_rfl
theorem Qe.l1.ok (k : Nat) : StOK 0 Try.prog (.loop (QV (Func.code Try.f85) [1, 1, 1, 0, 1, 0, 0, 1, 0, 0, 1, 0, 1, 0, 0])) (Qf Qe.l1.T Qe.l1.os (Qe.l1 k k)) :=
 Q1o (C := Qe.ctx k) (Qe.gok k) Try.mix Q1.nil (by kernel_rfl) (by kernel_rfl) (by kernel_rfl) (Qe.l1.round k) k
theorem Qe.l0.round (k : Nat) : Q1n (Qe.ctx k) (QV (Func.code Try.f85) [1, 1, 1, 0, 1, 0, 0]) (.node [] none (.nil) (.node [] none (.node [] none (.node [] none (.nil) (.node [] none (.node [] none (.nil) (.node [] none (.node [.mask [0, 2, 3, 4, 5, 6], .auto 0] (some (Qf Qe.l1.T Qe.l1.os (Qe.l1 k k))) .nil .nil) (.nil))) (.nil))) (.nil)) (.nil))) Qe.l0.T [.mask [0, 2, 3, 4], .auto 0] Qe.l0.os (Qe.l0.r k) := by
 intro ρ x kn ke; kernel_rfl
theorem Qe.l0.ok (k : Nat) : StOK 0 Try.prog (.loop (QV (Func.code Try.f85) [1, 1, 1, 0, 1, 0, 0])) (Qf Qe.l0.T Qe.l0.os (Qe.l0 k k)) :=
 Q1o (C := Qe.ctx k) (Qe.gok k) Try.mix (Q1.seq Q1.nil (Q1.seq (Q1.block (Q1.seq Q1.nil (Q1.seq (Q1.seq Q1.nil (Q1.block (Q1.loop (by kernel_rfl) (Qe.l1.ok k)))) Q1.nil))) Q1.nil)) (by kernel_rfl) (by kernel_rfl) (by kernel_rfl) (Qe.l0.round k) k
def Qe.ann (k : Nat) : Ann := .node [] none (.nil) (.node [] none (.nil) (.node [] none (.nil) (.node [] none (.node [] none (.nil) (.node [] none (.node [.mask [0, 2, 3, 4], .auto 0] (some (Qf Qe.l0.T Qe.l0.os (Qe.l0 k k))) .nil .nil) (.nil))) (.nil))))
theorem Qe.body (k : Nat) : Q1M (Qe.ctx k) Try.f85 (Func.code Try.f85) (Qe.ann k) Qe.tin Qe.tout (fun x K => Qe.c k x.1 K) := by
 intro ρ x K; kernel_rfl
theorem Qe.sem_ok (k : Nat) : Qz Try.prog 85 (Qe.sem k) :=
 Q1k (C := Qe.ctx k) (Qe.gok k) Try.mix (c := Func.code Try.f85) (ann := Qe.ann k) (tin := Qe.tin) (tout := Qe.tout) (fun x K => Qe.c k x.1 K) Try.func85 (by kernel_rfl) (by kernel_rfl) (Q1.seq Q1.nil (Q1.seq Q1.nil (Q1.seq Q1.nil (Q1.seq (Q1.seq Q1.nil (Q1.block (Q1.loop (by kernel_rfl) (Qe.l0.ok k)))) Q1.nil)))) (Qe.body k)
def Q0y.c (k : Nat) {ρ : Type} (s : ByteArray) (K : (List Int) × Unit → Option ρ) : Option ρ :=
 (Qe k s).bind fun t0 => let v1 : ByteArray := (bytesOf (List.take 32 (List.drop 0 t0.1)))
 (Qe k v1).bind fun t2 => K (t2.1, ())
def Q0y (k : Nat) (s : ByteArray) : Option QfE := Q0y.c k s some
def Q0y.tin : List Ty := [.str]
def Q0y.tout : List Ty := [QfD]
def Q0y.sem (k : Nat) : QS := Q1l Q0y.tin Q0y.tout fun x => Q0y k x.1
noncomputable def Q0y.ctx (k : Nat) : Ctx := ⟨Try.prog, gam [(85, (Qe.sem k))]⟩
theorem Q0y.gok (k : Nat) : ∀ f, Qz Try.prog f ((Q0y.ctx k).Γ f) := (Qk (Qe.sem_ok k) Q0f)
def Q0y.ann (k : Nat) : Ann := .nil
theorem Q0y.body (k : Nat) : Q1M (Q0y.ctx k) Try.f69 (Func.code Try.f69) (Q0y.ann k) Q0y.tin Q0y.tout (fun x K => Q0y.c k x.1 K) := by
 intro ρ x K; kernel_rfl
theorem Q0y.sem_ok (k : Nat) : Qz Try.prog 69 (Q0y.sem k) :=
 Q1k (C := Q0y.ctx k) (Q0y.gok k) Try.mix (c := Func.code Try.f69) (ann := Q0y.ann k) (tin := Q0y.tin) (tout := Q0y.tout) (fun x K => Q0y.c k x.1 K) Try.func69 (by kernel_rfl) (by kernel_rfl) Q1.nil (Q0y.body k)
def Q0w.c (k : Nat) {ρ : Type} (s : ByteArray) (K : ByteArray × Unit → Option ρ) : Option ρ :=
 (Q0y k s).bind fun t0 => let v1 : ByteArray := (bytesOf (List.take 4 (List.drop 0 t0.1)))
 K (v1, ())
def Q0w (k : Nat) (s : ByteArray) : Option (ByteArray × Unit) := Q0w.c k s some
def Q0w.tin : List Ty := [.str]
def Q0w.tout : List Ty := [.str]
def Q0w.sem (k : Nat) : QS := Q1l Q0w.tin Q0w.tout fun x => Q0w k x.1
noncomputable def Q0w.ctx (k : Nat) : Ctx := ⟨Try.prog, gam [(69, (Q0y.sem k))]⟩
theorem Q0w.gok (k : Nat) : ∀ f, Qz Try.prog f ((Q0w.ctx k).Γ f) := (Qk (Q0y.sem_ok k) Q0f)
def Q0w.ann (k : Nat) : Ann := .nil
theorem Q0w.body (k : Nat) : Q1M (Q0w.ctx k) Try.f42 (Func.code Try.f42) (Q0w.ann k) Q0w.tin Q0w.tout (fun x K => Q0w.c k x.1 K) := by
 intro ρ x K; kernel_rfl
theorem Q0w.sem_ok (k : Nat) : Qz Try.prog 42 (Q0w.sem k) :=
 Q1k (C := Q0w.ctx k) (Q0w.gok k) Try.mix (c := Func.code Try.f42) (ann := Q0w.ann k) (tin := Q0w.tin) (tout := Q0w.tout) (fun x K => Q0w.c k x.1 K) Try.func42 (by kernel_rfl) (by kernel_rfl) Q1.nil (Q0w.body k)
def Q0I.c (k : Nat) {ρ : Type} (epoch : Int) (K : ByteArray × Unit → Option ρ) : Option ρ :=
 (Qs k epoch (8 : Int)).bind fun t0 => bif (Nat.ble (8 + (ByteArray.size t0.1)) 9223372036854775807) then (let v1 : ByteArray := ((⟨(List.toArray [98, 101, 100, 114, 111, 99, 107, 106])⟩ : ByteArray) ++ t0.1)
 (Q0w k v1).bind fun t2 => bif (Nat.ble ((ByteArray.size v1) + (ByteArray.size t2.1)) 9223372036854775807) then (let v3 : ByteArray := (v1 ++ t2.1)
 K (v3, ())) else (none)) else (none)
def Q0I (k : Nat) (epoch : Int) : Option (ByteArray × Unit) := Q0I.c k epoch some
def Q0I.tin : List Ty := [(.int .u64)]
def Q0I.tout : List Ty := [.str]
def Q0I.sem (k : Nat) : QS := Q1l Q0I.tin Q0I.tout fun x => Q0I k x.1
noncomputable def Q0I.ctx (k : Nat) : Ctx := ⟨Try.prog, gam [(41, (Qs.sem k)), (42, (Q0w.sem k))]⟩
theorem Q0I.gok (k : Nat) : ∀ f, Qz Try.prog f ((Q0I.ctx k).Γ f) := (Qk (Qs.sem_ok k) (Qk (Q0w.sem_ok k) Q0f))
def Q0I.ann (k : Nat) : Ann := .nil
theorem Q0I.body (k : Nat) : Q1M (Q0I.ctx k) Try.f10 (Func.code Try.f10) (Q0I.ann k) Q0I.tin Q0I.tout (fun x K => Q0I.c k x.1 K) := by
 intro ρ x K; kernel_rfl
theorem Q0I.sem_ok (k : Nat) : Qz Try.prog 10 (Q0I.sem k) :=
 Q1k (C := Q0I.ctx k) (Q0I.gok k) Try.mix (c := Func.code Try.f10) (ann := Q0I.ann k) (tin := Q0I.tin) (tout := Q0I.tout) (fun x K => Q0I.c k x.1 K) Try.func10 (by kernel_rfl) (by kernel_rfl) Q1.nil (Q0I.body k)
end Go.Am
namespace Go.Am
open Go Go.Proofs
set_option maxRecDepth 100000
def Q0s.c (k : Nat) {ρ : Type} (epoch : Int) (number : Int) (s : ByteArray) (K : ByteArray × Unit → Option ρ) : Option ρ :=
 (Qs k (IntKind.wrap IntKind.u64 (((ByteArray.size s) : Nat) : Int)) (4 : Int)).bind fun t0 => (Qs k number (8 : Int)).bind fun t1 => bif (Nat.ble ((ByteArray.size t0.1) + (ByteArray.size t1.1)) 9223372036854775807) then (let v2 : ByteArray := (t0.1 ++ t1.1)
 bif (Nat.ble ((ByteArray.size v2) + (ByteArray.size s)) 9223372036854775807) then (let v3 : ByteArray := (v2 ++ s)
 (Qs k epoch (8 : Int)).bind fun t4 => bif (Nat.ble ((ByteArray.size t4.1) + (ByteArray.size v3)) 9223372036854775807) then (let v5 : ByteArray := (t4.1 ++ v3)
 (Q0w k v5).bind fun t6 => bif (Nat.ble ((ByteArray.size v3) + (ByteArray.size t6.1)) 9223372036854775807) then (let v7 : ByteArray := (v3 ++ t6.1)
 K (v7, ())) else (none)) else (none)) else (none)) else (none)
def Q0s (k : Nat) (epoch : Int) (number : Int) (s : ByteArray) : Option (ByteArray × Unit) := Q0s.c k epoch number s some
def Q0s.tin : List Ty := [(.int .u64), (.int .u64), .str]
def Q0s.tout : List Ty := [.str]
def Q0s.sem (k : Nat) : QS := Q1l Q0s.tin Q0s.tout fun x => Q0s k x.1 x.2.1 x.2.2.1
noncomputable def Q0s.ctx (k : Nat) : Ctx := ⟨Try.prog, gam [(41, (Qs.sem k)), (42, (Q0w.sem k))]⟩
theorem Q0s.gok (k : Nat) : ∀ f, Qz Try.prog f ((Q0s.ctx k).Γ f) := (Qk (Qs.sem_ok k) (Qk (Q0w.sem_ok k) Q0f))
def Q0s.ann (k : Nat) : Ann := .nil
theorem Q0s.body (k : Nat) : Q1M (Q0s.ctx k) Try.f11 (Func.code Try.f11) (Q0s.ann k) Q0s.tin Q0s.tout (fun x K => Q0s.c k x.1 x.2.1 x.2.2.1 K) := by
 intro ρ x K; kernel_rfl
theorem Q0s.sem_ok (k : Nat) : Qz Try.prog 11 (Q0s.sem k) :=
 Q1k (C := Q0s.ctx k) (Q0s.gok k) Try.mix (c := Func.code Try.f11) (ann := Q0s.ann k) (tin := Q0s.tin) (tout := Q0s.tout) (fun x K => Q0s.c k x.1 x.2.1 x.2.2.1 K) Try.func11 (by kernel_rfl) (by kernel_rfl) Q1.nil (Q0s.body k)
end Go.Am
namespace Go.Am
open Go Go.Proofs
set_option maxRecDepth 100000
abbrev QB.l0.σ : Type := ByteArray × Int × Int × Unit
abbrev QB.l0.τ : Type := (Int × Unit)
def QB.l0.r (k : Nat) {ρ : Type} (x : QB.l0.σ) (kn : QB.l0.σ → Option ρ) (ke : QB.l0.τ → Option ρ) : Option ρ :=
 bif (decide (x.2.2.1 ≥ (0 : Int))) then (let v1 : Int := (IntKind.wrap IntKind.u64 ((256 : Int) * x.2.1))
 bif (decide (((0 : Int) ≤ x.2.2.1) ∧ (x.2.2.1 < (((ByteArray.size x.1) : Nat) : Int)))) then (let v2 : Int := (Q1I x.1 (Int.toNat x.2.2.1))
 let v3 : Int := (IntKind.wrap IntKind.u64 (v1 + (IntKind.wrap IntKind.u64 v2)))
 let v4 : Int := (IntKind.wrap IntKind.i64 (x.2.2.1 - (1 : Int)))
 kn (x.1, (v3, (v4, ())))) else (none)) else (ke (x.2.1, ()))
def QB.l0 (k : Nat) : Nat → QB.l0.σ → Option QB.l0.τ := Q1p (QB.l0.r k)
def QB.l0.T : StT := ⟨.dat .str :: us 2 ++ .dat (.int .u64) :: .dat (.int .i64) :: us 15, []⟩
def QB.l0.os : List Out := [⟨(.exit 0), [.mask [3], .auto 0], ⟨us 3 ++ .dat (.int .u64) :: us 16, []⟩⟩]
def QB.c (k : Nat) {ρ : Type} (s : ByteArray) (K : Int × Unit → Option ρ) : Option ρ :=
 let v0 : Int := (IntKind.wrap IntKind.i64 ((((ByteArray.size s) : Nat) : Int) - (1 : Int)))
 (QB.l0 k k (s, ((0 : Int), (v0, ())))).bind fun t5 => K (t5.1, ())
def QB (k : Nat) (s : ByteArray) : Option (Int × Unit) := QB.c k s some
def QB.tin : List Ty := [.str]
def QB.tout : List Ty := [(.int .u64)]
def QB.sem (k : Nat) : QS := Q1l QB.tin QB.tout fun x => QB k x.1
noncomputable def QB.ctx (k : Nat) : Ctx := ⟨Try.prog, gam []⟩
theorem QB.gok (k : Nat) : ∀ f, Qz Try.prog f ((QB.ctx k).Γ f) := Q0f
theorem QB.l0.round (k : Nat) : Q1n (QB.ctx k) (QV (Func.code Try.f49) [1, 1, 0, 1, 0, 0]) (.nil) QB.l0.T [.mask [0, 3, 4], .auto 0] QB.l0.os (QB.l0.r k) := by
 intro ρ x kn ke; kernel_rfl
theorem QB.l0.ok (k : Nat) : StOK 0 Try.prog (.loop (QV (Func.code Try.f49) [1, 1, 0, 1, 0, 0])) (Qf QB.l0.T QB.l0.os (QB.l0 k k)) :=
 Q1o (C := QB.ctx k) (QB.gok k) Try.mix Q1.nil (by kernel_rfl) (by kernel_rfl) (by kernel_rfl) (QB.l0.round k) k
def QB.ann (k : Nat) : Ann := .node [] none (.nil) (.node [] none (.nil) (.node [] none (.node [] none (.nil) (.node [] none (.node [] (some (Qf QB.l0.T QB.l0.os (QB.l0 k k))) .nil .nil) (.nil))) (.nil)))
theorem QB.body (k : Nat) : Q1M (QB.ctx k) Try.f49 (Func.code Try.f49) (QB.ann k) QB.tin QB.tout (fun x K => QB.c k x.1 K) := by
 intro ρ x K; kernel_rfl
theorem QB.sem_ok (k : Nat) : Qz Try.prog 49 (QB.sem k) :=
 Q1k (C := QB.ctx k) (QB.gok k) Try.mix (c := Func.code Try.f49) (ann := QB.ann k) (tin := QB.tin) (tout := QB.tout) (fun x K => QB.c k x.1 K) Try.func49 (by kernel_rfl) (by kernel_rfl) (Q1.seq Q1.nil (Q1.seq Q1.nil (Q1.seq (Q1.seq Q1.nil (Q1.block (Q1.loop (by kernel_rfl) (QB.l0.ok k)))) Q1.nil))) (QB.body k)
abbrev Qh.p1.σ : Type := ByteArray × Int × Int × Int × (List ByteArray) × Unit
abbrev Qh.p1.τ : Type := (ByteArray × Int × Int × (List ByteArray) × Unit) ⊕ (ByteArray × Int × Int × Int × (List ByteArray) × Unit)
def Qh.p1.r (k : Nat) {ρ : Type} (x : Qh.p1.σ) (K : Qh.p1.τ → Option ρ) : Option ρ :=
 bif (decide (x.2.2.2.1 > (65536 : Int))) then (K (.inl (x.1, (x.2.1, (x.2.2.1, (x.2.2.2.2.1, ())))))) else (let v7 : Int := (((ByteArray.size x.1) : Nat) : Int)
 let v8 : Int := (IntKind.wrap IntKind.i64 (v7 - x.2.2.1))
 let v9 : Int := (IntKind.wrap IntKind.i64 (v8 - (16 : Int)))
 bif (decide ((IntKind.wrap IntKind.u64 v9) < x.2.2.2.1)) then (K (.inl (x.1, (x.2.1, (x.2.2.1, (x.2.2.2.2.1, ())))))) else (K (.inr (x.1, (x.2.1, (x.2.2.1, (x.2.2.2.1, (x.2.2.2.2.1, ()))))))))
def Qh.p1 (k : Nat) (x : Qh.p1.σ) : Option Qh.p1.τ := Qh.p1.r k x some
def Qh.p1.T : StT := ⟨.dat .str :: us 5 ++ .dat (.int .u64) :: .vsl 0 :: .dat (.int .i64) :: .dat (.int .u64) :: us 75, [.vec .str]⟩
def Qh.p1.os : List Out := [⟨(.exit 0), [.mask [0, 6, 7, 8], .auto 0], ⟨.dat .str :: us 5 ++ .dat (.int .u64) :: .vsl 0 :: .dat (.int .i64) :: us 76, [.vec .str]⟩⟩, ⟨.normal, [.mask [0, 6, 7, 8, 9], .auto 0], ⟨.dat .str :: us 5 ++ .dat (.int .u64) :: .vsl 0 :: .dat (.int .i64) :: .dat (.int .u64) :: us 75, [.vec .str]⟩⟩]
abbrev Qh.l0.σ : Type := ByteArray × Int × Int × (List ByteArray) × Unit
abbrev Qh.l0.τ : Type := (ByteArray × Int × Int × (List ByteArray) × Unit)
def Qh.l0.r (k : Nat) {ρ : Type} (x : Qh.l0.σ) (kn : Qh.l0.σ → Option ρ) (ke : Qh.l0.τ → Option ρ) : Option ρ :=
  let v2 : Int := (((ByteArray.size x.1) : Nat) : Int)
  let v3 : Int := (IntKind.wrap IntKind.i64 (v2 - x.2.2.1))
  bif (decide (v3 ≥ (16 : Int))) then (let v4 : Int := (IntKind.wrap IntKind.i64 (x.2.2.1 + (4 : Int)))
  bif (decide (((0 : Int) ≤ x.2.2.1) ∧ ((x.2.2.1 ≤ v4) ∧ (v4 ≤ (((ByteArray.size x.1) : Nat) : Int))))) then (let v5 : ByteArray := (ByteArray.extract x.1 (Int.toNat x.2.2.1) (Int.toNat v4))
  (QB k v5).bind fun t6 => (Qh.p1 k (x.1, (x.2.1, (x.2.2.1, (t6.1, (x.2.2.2.1, ())))))).bind fun t10 => (match t10 with
 | .inl t11 => (ke (t11.1, (t11.2.1, (t11.2.2.1, (t11.2.2.2.1, ())))))
 | .inr (t12) => (let v13 : Int := (IntKind.wrap IntKind.i64 (t12.2.2.1 + (12 : Int)))
  let v14 : Int := (IntKind.wrap IntKind.i64 (t12.2.2.1 + (12 : Int)))
  let v15 : Int := (IntKind.wrap IntKind.i64 t12.2.2.2.1)
  let v16 : Int := (IntKind.wrap IntKind.i64 (v14 + v15))
  bif (decide (((0 : Int) ≤ v13) ∧ ((v13 ≤ v16) ∧ (v16 ≤ (((ByteArray.size t12.1) : Nat) : Int))))) then (let v17 : ByteArray := (ByteArray.extract t12.1 (Int.toNat v13) (Int.toNat v16))
  let v18 : Int := (IntKind.wrap IntKind.i64 (t12.2.2.1 + (16 : Int)))
  let v19 : Int := (IntKind.wrap IntKind.i64 t12.2.2.2.1)
  let v20 : Int := (IntKind.wrap IntKind.i64 (v18 + v19))
  bif (decide (((0 : Int) ≤ t12.2.2.1) ∧ ((t12.2.2.1 ≤ v20) ∧ (v20 ≤ (((ByteArray.size t12.1) : Nat) : Int))))) then (let v21 : ByteArray := (ByteArray.extract t12.1 (Int.toNat t12.2.2.1) (Int.toNat v20))
  let v22 : Int := (((List.length t12.2.2.2.2.1) : Nat) : Int)
  (Q0s k t12.2.1 (IntKind.wrap IntKind.u64 v22) v17).bind fun t23 => bif (!(Q1Q v21 t23.1)) then (ke (t12.1, (t12.2.1, (t12.2.2.1, (t12.2.2.2.2.1, ()))))) else (bif (Nat.ble (((List.length t12.2.2.2.2.1) + (List.length (List.set (List.replicate 1 ByteArray.empty) 0 v17))) * 16) 140737488355328) then (let v24 : Int := (IntKind.wrap IntKind.i64 t12.2.2.2.1)
  let v25 : Int := (IntKind.wrap IntKind.i64 ((16 : Int) + v24))
  let v26 : Int := (IntKind.wrap IntKind.i64 (t12.2.2.1 + v25))
  kn (t12.1, (t12.2.1, (v26, ((t12.2.2.2.2.1 ++ (List.set (List.replicate 1 ByteArray.empty) 0 v17)), ()))))) else (none))) else (none)) else (none)))) else (none)) else (ke (x.1, (x.2.1, (x.2.2.1, (x.2.2.2.1, ())))))
def Qh.l0 (k : Nat) : Nat → Qh.l0.σ → Option Qh.l0.τ := Q1p (Qh.l0.r k)
def Qh.l0.T : StT := ⟨.dat .str :: us 5 ++ .dat (.int .u64) :: .vsl 0 :: .dat (.int .i64) :: us 76, [.vec .str]⟩
def Qh.l0.os : List Out := [⟨(.exit 0), [.mask [0, 6, 7, 8], .auto 0], ⟨.dat .str :: us 5 ++ .dat (.int .u64) :: .vsl 0 :: .dat (.int .i64) :: us 76, [.vec .str]⟩⟩]
def Qh.c (k : Nat) {ρ : Type} (s : ByteArray) (K : Int × (List ByteArray) × Int × Bool × Unit → Option ρ) : Option ρ :=
 bif (decide ((((ByteArray.size s) : Nat) : Int) < (20 : Int))) then (K ((0 : Int), ([], ((0 : Int), (false, ()))))) else (bif (decide (((0 : Int) ≤ (8 : Int)) ∧ (((8 : Int) ≤ (16 : Int)) ∧ ((16 : Int) ≤ (((ByteArray.size s) : Nat) : Int))))) then ((QB k (ByteArray.extract s 8 16)).bind fun t0 => bif (decide (((0 : Int) ≤ (0 : Int)) ∧ (((0 : Int) ≤ (20 : Int)) ∧ ((20 : Int) ≤ (((ByteArray.size s) : Nat) : Int))))) then ((Q0I k t0.1).bind fun t1 => bif (!(Q1Q (ByteArray.extract s 0 20) t1.1)) then (K ((0 : Int), ([], ((0 : Int), (false, ()))))) else ((Qh.l0 k k (s, (t0.1, ((20 : Int), ((List.replicate 0 ByteArray.empty), ()))))).bind fun t27 => let v28 : Int := (((ByteArray.size t27.1) : Nat) : Int)
 let v29 : Int := (IntKind.wrap IntKind.i64 (v28 - t27.2.2.1))
 K (t27.2.1, (t27.2.2.2.1, (v29, (true, ())))))) else (none)) else (none))
def Qh (k : Nat) (s : ByteArray) : Option (Int × (List ByteArray) × Int × Bool × Unit) := Qh.c k s some
def Qh.tin : List Ty := [.str]
def Qh.tout : List Ty := [(.int .u64), (.sl .str), (.int .i64), .bool]
def Qh.sem (k : Nat) : QS := Q1l Qh.tin Qh.tout fun x => Qh k x.1
noncomputable def Qh.ctx (k : Nat) : Ctx := ⟨Try.prog, gam [(49, (QB.sem k)), (10, (Q0I.sem k)), (11, (Q0s.sem k))]⟩
theorem Qh.gok (k : Nat) : ∀ f, Qz Try.prog f ((Qh.ctx k).Γ f) := (Qk (QB.sem_ok k) (Qk (Q0I.sem_ok k) (Qk (Q0s.sem_ok k) Q0f)))
theorem Qh.p1.is (k : Nat) : Q1t (Qh.ctx k) (QV (Func.code Try.f13) [1, 1, 1, 1, 1, 1, 0, 0, 0, 1, 0, 1, 0]) (.nil) Qh.p1.T Qh.p1.os (Qh.p1.r k) := by
 intro ρ x K; kernel_rfl
theorem Qh.p1.ok (k : Nat) : StOK 0 Try.prog (QV (Func.code Try.f13) [1, 1, 1, 1, 1, 1, 0, 0, 0, 1, 0, 1, 0]) (Qf Qh.p1.T Qh.p1.os (Qh.p1 k)) :=
 Q1m (C := Qh.ctx k) (T := Qh.p1.T) (os := Qh.p1.os) (Qh.gok k) Try.mix (fun x K => Qh.p1.r k x K) Q1.nil (by kernel_rfl) (by kernel_rfl) (Qh.p1.is k)
theorem Qh.l0.round (k : Nat) : Q1n (Qh.ctx k) (QV (Func.code Try.f13) [1, 1, 1, 1, 1, 1, 0, 0, 0]) (.node [] none (.nil) (.node [] none (.node [] none (.nil) (.node [] none (.node [.mask [0, 6, 7, 8, 9], .auto 0] (some (Qf Qh.p1.T Qh.p1.os (Qh.p1 k))) .nil .nil) (.nil))) (.nil))) Qh.l0.T [.mask [0, 6, 7, 8], .auto 0] Qh.l0.os (Qh.l0.r k) := by
 intro ρ x kn ke; kernel_rfl
theorem Qh.l0.ok (k : Nat) : StOK 0 Try.prog (.loop (QV (Func.code Try.f13) [1, 1, 1, 1, 1, 1, 0, 0, 0])) (Qf Qh.l0.T Qh.l0.os (Qh.l0 k k)) :=
 Q1o (C := Qh.ctx k) (Qh.gok k) Try.mix (Q1.seq Q1.nil (Q1.block (Q1.seq Q1.nil (Q1.seq (Q1.loop (by kernel_rfl) (Qh.p1.ok k)) Q1.nil)))) (by kernel_rfl) (by kernel_rfl) (by kernel_rfl) (Qh.l0.round k) k
def Qh.ann (k : Nat) : Ann := .node [] none (.nil) (.node [] none (.nil) (.node [] none (.nil) (.node [] none (.nil) (.node [] none (.nil) (.node [] none (.nil) (.node [] none (.node [] none (.node [.mask [0, 6, 7, 8], .auto 0] (some (Qf Qh.l0.T Qh.l0.os (Qh.l0 k k))) .nil .nil) (.nil)) (.nil)))))))
theorem Qh.body (k : Nat) : Q1M (Qh.ctx k) Try.f13 (Func.code Try.f13) (Qh.ann k) Qh.tin Qh.tout (fun x K => Qh.c k x.1 K) := by
 intro ρ x K; kernel_rfl
theorem Qh.sem_ok (k : Nat) : Qz Try.prog 13 (Qh.sem k) :=
 Q1k (C := Qh.ctx k) (Qh.gok k) Try.mix (c := Func.code Try.f13) (ann := Qh.ann k) (tin := Qh.tin) (tout := Qh.tout) (fun x K => Qh.c k x.1 K) Try.func13 (by kernel_rfl) (by kernel_rfl) (Q1.seq Q1.nil (Q1.seq Q1.nil (Q1.seq Q1.nil (Q1.seq Q1.nil (Q1.seq Q1.nil (Q1.seq Q1.nil (Q1.seq (Q1.block (Q1.loop (by kernel_rfl) (Qh.l0.ok k))) Q1.nil))))))) (Qh.body k)
end Go.Am
namespace Go.Am
open Go Go.Proofs
set_option maxRecDepth 100000
abbrev QK.l0.σ : Type := (List ByteArray) × (List ByteArray) × Int × Int × Unit
abbrev QK.l0.τ : Type := (Bool × Unit) ⊕ (Unit)
def QK.l0.r (k : Nat) {ρ : Type} (x : QK.l0.σ) (kn : QK.l0.σ → Option ρ) (ke : QK.l0.τ → Option ρ) : Option ρ :=
 bif (decide (x.2.2.2.1 < x.2.2.1)) then (bif (decide (((0 : Int) ≤ x.2.2.2.1) ∧ (x.2.2.2.1 < (((List.length x.1) : Nat) : Int)))) then (let v0 : ByteArray := (List.getD x.1 (Int.toNat x.2.2.2.1) ByteArray.empty)
 bif (decide (((0 : Int) ≤ x.2.2.2.1) ∧ (x.2.2.2.1 < (((List.length x.2.1) : Nat) : Int)))) then (let v1 : ByteArray := (List.getD x.2.1 (Int.toNat x.2.2.2.1) ByteArray.empty)
 bif (!(Q1Q v0 v1)) then (ke (.inl (false, ()))) else (let v2 : Int := (IntKind.wrap IntKind.i64 (x.2.2.2.1 + (1 : Int)))
 kn (x.1, (x.2.1, (x.2.2.1, (v2, ())))))) else (none)) else (none)) else (ke (.inr ()))
def QK.l0 (k : Nat) : Nat → QK.l0.σ → Option QK.l0.τ := Q1p (QK.l0.r k)
def QK.l0.T : StT := ⟨.dat (.sl .str) :: .dat (.sl .str) :: us 10 ++ .dat (.int .i64) :: .dat (.int .i64) :: us 12, []⟩
def QK.l0.os : List Out := [⟨.ret, [.mask [4], .auto 0], ⟨us 4 ++ .dat .bool :: us 21, []⟩⟩, ⟨(.exit 0), [.mask [], .auto 0], ⟨us 26, []⟩⟩]
def QK.c (k : Nat) {ρ : Type} (a : (List ByteArray)) (b : (List ByteArray)) (K : Bool × Unit → Option ρ) : Option ρ :=
  bif ((((List.length a) : Nat) : Int) != (((List.length b) : Nat) : Int)) then (K (false, ())) else ((QK.l0 k k (a, (b, ((((List.length a) : Nat) : Int), ((0 : Int), ()))))).bind fun t3 => (match t3 with
 | .inl t4 => (K (t4.1, ()))
 | .inr (t5) => (K (true, ()))))
def QK (k : Nat) (a : (List ByteArray)) (b : (List ByteArray)) : Option (Bool × Unit) := QK.c k a b some
def QK.tin : List Ty := [(.sl .str), (.sl .str)]
def QK.tout : List Ty := [.bool]
def QK.sem (k : Nat) : QS := Q1l QK.tin QK.tout fun x => QK k x.1 x.2.1
noncomputable def QK.ctx (k : Nat) : Ctx := ⟨Try.prog, gam []⟩
theorem QK.gok (k : Nat) : ∀ f, Qz Try.prog f ((QK.ctx k).Γ f) := Q0f
theorem QK.l0.round (k : Nat) : Q1n (QK.ctx k) (QV (Func.code Try.f14) [1, 1, 0, 1, 0, 0]) (.nil) QK.l0.T [.mask [0, 1, 12, 13], .auto 0] QK.l0.os (QK.l0.r k) := by
 intro ρ x kn ke; kernel_rfl
theorem QK.l0.ok (k : Nat) : StOK 0 Try.prog (.loop (QV (Func.code Try.f14) [1, 1, 0, 1, 0, 0])) (Qf QK.l0.T QK.l0.os (QK.l0 k k)) :=
 Q1o (C := QK.ctx k) (QK.gok k) Try.mix Q1.nil (by kernel_rfl) (by kernel_rfl) (by kernel_rfl) (QK.l0.round k) k
def QK.ann (k : Nat) : Ann := .node [] none (.nil) (.node [] none (.nil) (.node [] none (.node [] none (.nil) (.node [] none (.node [] (some (Qf QK.l0.T QK.l0.os (QK.l0 k k))) .nil .nil) (.nil))) (.nil)))
theorem QK.body (k : Nat) : Q1M (QK.ctx k) Try.f14 (Func.code Try.f14) (QK.ann k) QK.tin QK.tout (fun x K => QK.c k x.1 x.2.1 K) := by
 intro ρ x K; kernel_rfl
theorem QK.sem_ok (k : Nat) : Qz Try.prog 14 (QK.sem k) :=
 Q1k (C := QK.ctx k) (QK.gok k) Try.mix (c := Func.code Try.f14) (ann := QK.ann k) (tin := QK.tin) (tout := QK.tout) (fun x K => QK.c k x.1 x.2.1 K) Try.func14 (by kernel_rfl) (by kernel_rfl) (Q1.seq Q1.nil (Q1.seq Q1.nil (Q1.seq (Q1.seq Q1.nil (Q1.block (Q1.loop (by kernel_rfl) (QK.l0.ok k)))) Q1.nil))) (QK.body k)
end Go.Am
namespace Go.Am
open Go
theorem Q8y {σ τ : Type} {r : {ρ : Type} → σ → (σ → Option ρ) → (τ → Option ρ) → Option ρ} (S : Nat → σ) (n : Nat) (T : τ) (a : Nat)
  (hstep : ∀ i, a ≤ i → i < n → ∀ (kn : σ → Option τ) (ke : τ → Option τ), r (S i) kn ke = kn (S (i + 1))) (hend : ∀ (kn : σ → Option τ) (ke : τ → Option τ), r (S n) kn ke = ke T) :
  ∀ {fuel : Nat}, a ≤ n → n - a < fuel → Q1p r fuel (S a) = some T := by
 intro fuel ha hf
 have key : ∀ (d i fuel : Nat), a ≤ i → i + d = n → d < fuel → Q1p r fuel (S i) = some T := by
  intro d
  induction d with
  | zero =>
   intro i fuel _ hi hf
   cases fuel with
   | zero => omega
   | succ fuel =>
    have : i = n := by omega
    subst this
    exact hend _ _
  | succ d ih =>
   intro i fuel hai hi hf
   cases fuel with
   | zero => omega
   | succ fuel =>
    show r (S i) (Q1p r fuel) some = _
    rw [hstep i hai (by omega)]
    exact ih (i + 1) fuel (by omega) (by omega) (by omega)
 exact key (n - a) a fuel (Nat.le_refl _) (by omega) hf
theorem Q1H {σ τ : Type} {r : {ρ : Type} → σ → (σ → Option ρ) → (τ → Option ρ) → Option ρ} (S : Nat → σ) (n : Nat) (T : τ)
  (hstep : ∀ i, i < n → ∀ (kn : σ → Option τ) (ke : τ → Option τ), r (S i) kn ke = kn (S (i + 1))) (hend : ∀ (kn : σ → Option τ) (ke : τ → Option τ), r (S n) kn ke = ke T)
  {fuel : Nat} (hf : n < fuel) : Q1p r fuel (S 0) = some T := Q8y S n T 0 (fun i _ hi => hstep i hi) hend (Nat.zero_le _) (by omega)
theorem Qd7 {σ τ : Type} {r : {ρ : Type} → σ → (σ → Option ρ) → (τ → Option ρ) → Option ρ} (I : Nat → σ → Prop) (T : τ → Prop)
  (h : ∀ n s, I n s → (∃ s' m, m < n ∧ I m s' ∧ ∀ (kn : σ → Option τ) (ke : τ → Option τ), r s kn ke = kn s') ∨ (∃ t, T t ∧ ∀ (kn : σ → Option τ) (ke : τ → Option τ), r s kn ke = ke t)) :
  ∀ (n fuel : Nat) (s : σ), n < fuel → I n s → ∃ t, T t ∧ Q1p r fuel s = some t
 | n, fuel + 1, s, hf, hi => by
  rcases h n s hi with ⟨s', m, hm, hI, hr⟩ | ⟨t, ht, hr⟩
  ·obtain ⟨t, ht, h2⟩ := Qd7 I T h m fuel s' (by omega) hI
   exact ⟨t, ht, (hr (Q1p r fuel) some).trans h2⟩
  ·exact ⟨t, ht, hr (Q1p r fuel) some⟩
theorem i64_in {n : Int} (h : -9223372036854775808 ≤ n ∧ n ≤ 9223372036854775807) : IntKind.i64.wrap n = n := IntWalk.i64_in n h
theorem u64_in {n : Int} (h : 0 ≤ n ∧ n ≤ 18446744073709551615) : IntKind.u64.wrap n = n := IntWalk.u64_in n h
theorem u8_in {n : Int} (h : 0 ≤ n ∧ n ≤ 255) : IntKind.u8.wrap n = n := IntWalk.u8_in n h
theorem Q2a {a b : Nat} (h : a ≤ b) : Nat.ble a b = true := by rw [Nat.ble_eq]; exact h
theorem Qbz (n : Int) : IntKind.u8.wrap n = n % 256 := IntKind.wrap_u8 n
theorem Q6t (n : Int) : IntKind.u32.wrap n = n % 4294967296 := IntKind.wrap_u32 n
theorem Q9R (n : Int) : IntKind.u64.wrap n = n % 18446744073709551616 := IntKind.wrap_u64 n
theorem Q47 {n : Int} (h : 0 ≤ n ∧ n ≤ 4294967295) : IntKind.u32.wrap n = n := by rw [Q6t]; omega
theorem Q1C {α : Type} {b : Bool} {x y : α} (h : b = true) : (bif b then x else y) = x := by rw [h]; rfl
theorem Q20 {α : Type} {b : Bool} {x y : α} (h : b = false) : (bif b then x else y) = y := by rw [h]; rfl
theorem Q13 {α : Type} {p : Prop} [Decidable p] {x y : α} (h : p) : (bif decide p then x else y) = x := by rw [decide_eq_true h]; rfl
theorem Q1R {α : Type} {p : Prop} [Decidable p] {x y : α} (h : ¬ p) : (bif decide p then x else y) = y := by rw [decide_eq_false h]; rfl
theorem Qaa (k : IntKind) (x y : Int) : Q1f .or k x y = Q1f .or k y x := by
 simp only [Q1f, BitVec.or_comm]
theorem QdP (k : IntKind) (x y : Int) : Q1f .xor k x y = Q1f .xor k y x := by
 simp only [Q1f, BitVec.xor_comm]
theorem QdO (k : IntKind) (x y : Int) : Q1f .and k x y = Q1f .and k y x := by
 simp only [Q1f, BitVec.and_comm]
theorem toNat_ofInt (w A : Nat) (h : A < 2 ^ w) : (BitVec.ofInt w (A : Int)).toNat = A := by
 rw [BitVec.toNat_ofInt]
 have : ((A : Int) % ((2 : Nat) ^ w : Nat)).toNat = A % 2 ^ w := by
  rw [← Int.natCast_emod]; rfl
 rw [this]
 exact Nat.mod_eq_of_lt h
theorem Qfe {A B : Nat} (ha : A < 4294967296) (hb : B < 4294967296) : Q1f .and .u32 (A : Int) (B : Int) = ((A &&& B : Nat) : Int) := by
 show IntKind.u32.wrap (((BitVec.ofInt 32 (A : Int) &&& BitVec.ofInt 32 (B : Int) : BitVec 32).toNat : Nat) : Int) = _
 rw [BitVec.toNat_and, toNat_ofInt 32 A (by simpa using ha), toNat_ofInt 32 B (by simpa using hb)]
 exact Q47 ⟨by omega, by have : A &&& B ≤ A := Nat.and_le_left; omega⟩
theorem QeL {A B : Nat} (ha : A < 4294967296) (hb : B < 4294967296) : Q1f .or .u32 (A : Int) (B : Int) = ((A ||| B : Nat) : Int) := by
 show IntKind.u32.wrap (((BitVec.ofInt 32 (A : Int) ||| BitVec.ofInt 32 (B : Int) : BitVec 32).toNat : Nat) : Int) = _
 rw [BitVec.toNat_or, toNat_ofInt 32 A (by simpa using ha), toNat_ofInt 32 B (by simpa using hb)]
 exact Q47 ⟨by omega, by have : A ||| B < 2 ^ 32 := Nat.or_lt_two_pow (by simpa using ha) (by simpa using hb); simp at this; omega⟩
theorem QdV {A B : Nat} (ha : A < 4294967296) (hb : B < 4294967296) : Q1f .xor .u32 (A : Int) (B : Int) = ((A ^^^ B : Nat) : Int) := by
 show IntKind.u32.wrap (((BitVec.ofInt 32 (A : Int) ^^^ BitVec.ofInt 32 (B : Int) : BitVec 32).toNat : Nat) : Int) = _
 rw [BitVec.toNat_xor, toNat_ofInt 32 A (by simpa using ha), toNat_ofInt 32 B (by simpa using hb)]
 exact Q47 ⟨by omega, by have : A ^^^ B < 2 ^ 32 := Nat.xor_lt_two_pow (by simpa using ha) (by simpa using hb); simp at this; omega⟩
theorem Qej {x : Int} (h : 0 ≤ x ∧ x ≤ 4294967295) : notI .u32 x = 4294967295 - x := by
 obtain ⟨A, rfl⟩ := Int.eq_ofNat_of_zero_le h.1
 show Q1f .xor .u32 (4294967295 : Int) (A : Int) = _
 rw [show (4294967295 : Int) = ((4294967295 : Nat) : Int) from rfl, QdV (by omega) (by omega)]
 have : 4294967295 ^^^ A = 4294967295 - A := by
  have h1 : (BitVec.allOnes 32 ^^^ BitVec.ofNat 32 A).toNat = 4294967295 - A := by
   rw [BitVec.allOnes_xor, BitVec.toNat_not, BitVec.toNat_ofNat, Nat.mod_eq_of_lt (by omega)]
  rw [← h1, BitVec.toNat_xor, BitVec.toNat_allOnes, BitVec.toNat_ofNat, Nat.mod_eq_of_lt (show A < 2 ^ 32 by omega)]
 rw [this]; omega
theorem QdM (op : BinOp) (x y : Int) (h : op = .and ∨ op = .or ∨ op = .xor) : 0 ≤ Q1f op .u32 x y ∧ Q1f op .u32 x y ≤ 4294967295 := by
 rcases h with rfl | rfl | rfl <;> simp only [Q1f] <;> rw [Q6t] <;> omega
theorem QeM {A B j : Nat} (ha : A < 2 ^ j) : A ||| B * 2 ^ j = B * 2 ^ j + A := by
 rw [Nat.or_comm, Nat.mul_comm, ← Nat.two_pow_add_eq_or_of_lt ha]
theorem Q4E {A B j : Nat} (ha : A < 2 ^ j) (hlt : B * 2 ^ j + A < 4294967296) : Q1f .or .u32 ((B * 2 ^ j : Nat) : Int) (A : Int) = ((B * 2 ^ j + A : Nat) : Int) := by
 rw [QeL (by omega) (by omega), Nat.or_comm, QeM ha]
theorem Q7S (x : Int) {j : Nat} (hj : j ≤ 32) : Q3l .u32 x (j : Int) = (x * 2 ^ j) % 4294967296 := by
 unfold Q3l
 rw [show min (j : Int).toNat IntKind.u32.bits = j by simp [IntKind.bits]; omega, Q6t]
theorem Qfd {x : Int} {j : Nat} (hj : j ≤ 32) : Q2l .u32 x (j : Int) = x / 2 ^ j := by
 unfold Q2l
 rw [show min (j : Int).toNat IntKind.u32.bits = j by simp [IntKind.bits]; omega]
 exact Int.fdiv_eq_ediv_of_nonneg _ (Int.le_of_lt (Int.pow_pos (by omega)))
def Qfl (a b c d : Int) : Int := ((a * 256 + b) * 256 + c) * 256 + d
def Qfi (x : Int) : Prop := 0 ≤ x ∧ x < 256
def Qfk (x : Int) : Prop := 0 ≤ x ∧ x ≤ 4294967295
end Go.Am
namespace Go.Am
open Go
def kc : List Int := [1116352408, 1899447441, 3049323471, 3921009573, 961987163, 1508970993, 2453635748, 2870763221, 3624381080, 310598401, 607225278, 1426881987, 1925078388, 2162078206, 2614888103, 3248222580, 3835390401, 4022224774, 264347078, 604807628, 770255983, 1249150122, 1555081692, 1996064986, 2554220882, 2821834349, 2952996808, 3210313671, 3336571891, 3584528711, 113926993, 338241895, 666307205, 773529912, 1294757372, 1396182291, 1695183700, 1986661051, 2177026350, 2456956037, 2730485921, 2820302411, 3259730800, 3345764771, 3516065817, 3600352804, 4094571909, 275423344, 430227734, 506948616, 659060556, 883997877, 958139571, 1322822218, 1537002063, 1747873779, 1955562222, 2024104815, 2227730452, 2361852424, 2428436474, 2756734187, 3204031479, 3329325298]
theorem Q7I {α : Type} {f : Nat → α} {y : List α} {i : Nat} (hi : i < y.length) : ((List.range i).map f ++ y.drop i).set i (f i) = (List.range (i + 1)).map f ++ y.drop (i + 1) := by
 rw [List.set_append_right _ _ (by simp)]
 simp only [List.length_map, List.length_range, Nat.sub_self]
 rw [List.drop_eq_getElem_cons hi, List.set_cons_zero, List.range_succ, List.map_append]
 simp
theorem Qcr {α : Type} {f : Nat → α} {y : List α} {i : Nat} (d : α) : ((List.range i).map f ++ y.drop i).getD i d = y.getD i d := by
 rw [List.getD_eq_getElem?_getD, List.getElem?_append_right (by simp)]
 simp [List.getD_eq_getElem?_getD]
theorem Q82 {α : Type} {f : Nat → α} {y : List α} {n : Nat} (h : y.length ≤ n) : (List.range n).map f ++ y.drop n = (List.range n).map f := by
 rw [List.drop_eq_nil_of_le h]; simp
def rotr (x n : Int) : Int := Q1f .or .u32 (Q2l .u32 x n) (Q3l .u32 x (32 - n))
theorem Q2E (k : Nat) (x : Int) {n : Int} (h : 0 ≤ n ∧ n ≤ 32) : Q0h k x n = some (rotr x n, ()) := by
 unfold Q0h Q0h.c
 rw [i64_in (n := 32 - n) (by omega)]
 dsimp only
 rw [Q13 h.1, Q13 (by omega)]
 rfl
theorem Qbm (n : Nat) (h : n < 18446744073709551616) : Q1f .and .u64 (n : Int) (31 : Int) = ((n % 32 : Nat) : Int) := by
 show IntKind.u64.wrap (((BitVec.ofInt 64 (n : Int) &&& BitVec.ofInt 64 ((31 : Nat) : Int) : BitVec 64).toNat : Nat) : Int) = _
 rw [BitVec.toNat_and, toNat_ofInt 64 n (by simpa using h), toNat_ofInt 64 31 (by decide)]
 rw [show (31 : Nat) = 2 ^ 5 - 1 from rfl, Nat.and_two_pow_sub_one_eq_mod]
 exact u64_in (by omega)
theorem Q1U (k : Nat) (x : Int) {n : Int} (h : 0 < n ∧ n < 32) : Q1b k x n = some (rotr x n, ()) := by
 unfold Q1b Q1b.c Q0e Q0e.c
 rw [i64_in (n := 0 - n) (by omega)]
 dsimp only
 have e : IntKind.u64.wrap (0 - n) = (((18446744073709551616 - n).toNat : Nat) : Int) := by rw [Q9R]; omega
 rw [e, Qbm _ (by omega)]
 have e2 : (((18446744073709551616 - n).toNat % 32 : Nat) : Int) = 32 - n := by omega
 rw [e2, u64_in (n := 32 - (32 - n)) (by omega), show (32 : Int) - (32 - n) = n by omega]
 rw [Q13 (by omega), Q13 (by omega)]
 simp only [Option.bind_some]
 rw [Qaa]
 rfl
def part (blk : List Int) (i : Nat) : Nat → Int
 | 0 => 0
 | j + 1 => part blk i j * 256 + blk.getD (4 * i + j) 0
def Q1V (lo hi : Int) (l : List Int) : Prop := ∀ x ∈ l, lo ≤ x ∧ x ≤ hi
theorem Q2q {lo hi : Int} {l : List Int} (h : Q1V lo hi l) (h0 : lo ≤ 0 ∧ 0 ≤ hi) (i : Nat) : lo ≤ l.getD i 0 ∧ l.getD i 0 ≤ hi := by
 rw [List.getD_eq_getElem?_getD]
 cases hi' : l[i]? with
 | none => simpa using h0
 | some x => exact h x (List.mem_of_getElem? hi')
theorem Q8R {blk : List Int} (hb : Q1V 0 255 blk) (i : Nat) : ∀ j, 0 ≤ part blk i j ∧ part blk i j < 256 ^ j
 | 0 => by simp [part]
 | j + 1 => by
  have ih := Q8R hb i j
  have hx := Q2q hb (by omega) (4 * i + j)
  simp only [part, Int.pow_succ]
  have : part blk i j + 1 ≤ 256 ^ j := by omega
  omega
def sig1 (x : Int) : Int := Q1f .xor .u32 (Q1f .xor .u32 (rotr x 17) (rotr x 19)) (Q2l .u32 x 10)
def sig0 (x : Int) : Int := Q1f .xor .u32 (Q1f .xor .u32 (rotr x 7) (rotr x 18)) (Q2l .u32 x 3)
def ext (w : List Int) (t : Nat) : Int :=
 IntKind.u32.wrap (IntKind.u32.wrap (IntKind.u32.wrap (sig1 (w.getD (t - 2) 0) + w.getD (t - 7) 0) + sig0 (w.getD (t - 15) 0)) + w.getD (t - 16) 0)
def wl (blk : List Int) : Nat → List Int
 | 0 => []
 | n + 1 => wl blk n ++ [if n < 16 then part blk n 4 else ext (wl blk n) n]
theorem Q36 (blk : List Int) : ∀ n, (wl blk n).length = n
 | 0 => rfl
 | n + 1 => by simp [wl, Q36 blk n]
def wz (blk : List Int) (n : Nat) : List Int := wl blk n ++ List.replicate (64 - n) 0
theorem Q9T (blk : List Int) {n : Nat} (h : n < 64) (v : Int) (hv : v = if n < 16 then part blk n 4 else ext (wl blk n) n) : (wz blk n).set n v = wz blk (n + 1) := by
 unfold wz
 rw [List.set_append_right _ _ (by rw [Q36]; omega), Q36, Nat.sub_self, show 64 - n = (64 - (n + 1)) + 1 by omega, List.replicate_succ, List.set_cons_zero, wl, hv]
 simp
theorem Q4O (blk : List Int) {n i : Nat} (h : i < n) : (wz blk n).getD i 0 = (wl blk n).getD i 0 := by
 unfold wz
 rw [List.getD_eq_getElem?_getD, List.getD_eq_getElem?_getD, List.getElem?_append_left (by rw [Q36]; exact h)]
theorem QdX (blk : List Int) {n : Nat} : (wz blk n).getD n 0 = 0 := by
 unfold wz
 rw [List.getD_eq_getElem?_getD, List.getElem?_append_right (by rw [Q36]; omega), Q36, Nat.sub_self]
 cases h : 64 - n <;> simp [List.replicate_succ]
theorem QcB (blk : List Int) {n : Nat} (h : n ≤ 64) : (wz blk n).length = 64 := by
 simp [wz, Q36]; omega
theorem QdT {x b : Int} (hx : 0 ≤ x ∧ x < 16777216) (hb : 0 ≤ b ∧ b ≤ 255) : Q1f .or .u32 (Q3l .u32 x 8) (IntKind.u32.wrap b) = x * 256 + b := by
 rw [Q47 (n := b) (by omega), show (8 : Int) = ((8 : Nat) : Int) from rfl, Q7S x (by omega)]
 obtain ⟨X, rfl⟩ := Int.eq_ofNat_of_zero_le hx.1
 obtain ⟨B, rfl⟩ := Int.eq_ofNat_of_zero_le hb.1
 have : ((X : Int) * 2 ^ 8) % 4294967296 = ((X * 2 ^ 8 : Nat) : Int) := by simp; omega
 rw [this, Q4E (by omega) (by omega)]
 omega
theorem Qds (k : Nat) {blk : List Int} (hb : Q1V 0 255 blk) (hlen : blk.length = 64) {i : Nat} (hi : i < 16) (z : List Int) {fuel : Nat} (hf : 4 < fuel) :
  Qw.l1 k fuel ((i : Int), (i : Int), (4 * i, 4), (4 : Int), (0 : Int), blk, z, wz blk i, ()) = some ((i : Int), blk, z, wz blk (i + 1), ()) := by
 have h0 : (wz blk i).set i 0 = wz blk i := by
  have := QdX blk (n := i)
  apply List.ext_getElem?
  intro j
  rw [List.getElem?_set]
  split
  ·rename_i e
   subst e
   split
   ·rename_i hlt
    rw [List.getD_eq_getElem?_getD, List.getElem?_eq_getElem hlt] at this
    simp only [Option.getD_some] at this
    rw [List.getElem?_eq_getElem hlt, this]
   ·rename_i hlt
    rw [List.getElem?_eq_none (by omega)]
  ·rfl
 have := Q1H (r := Qw.l1.r k) (fun j => ((i : Int), (i : Int), (4 * i, 4), (4 : Int), (j : Int), blk, z, (wz blk i).set i (part blk i j), ())) 4 ((i : Int), blk, z, wz blk (i + 1), ()) ?_ ?_ hf
 ·rw [part, h0] at this
  exact this
 ·intro j hj kn ke
  simp only [Qw.l1.r]
  rw [Q13 (by omega), Q13 (by omega), Q13 (by omega)]
  rw [Q13 (by omega), i64_in (by omega), show (i : Int).toNat = i by omega, show (j : Int).toNat = j by omega]
  have hlt : i < (wz blk i).length := by rw [QcB blk (by omega)]; omega
  have e1 : ((wz blk i).set i (part blk i j)).getD i 0 = part blk i j := by
   rw [List.getD_eq_getElem?_getD, List.getElem?_set_self hlt]; rfl
  have hp := Q8R hb i j
  have hp3 : (256 : Int) ^ j ≤ 16777216 := by
   have : j = 0 ∨ j = 1 ∨ j = 2 ∨ j = 3 := by omega
   rcases this with rfl | rfl | rfl | rfl <;> decide
  rw [e1, QdT (by omega) (Q2q hb (by omega) _), List.set_set]
  rfl
 ·intro kn ke
  simp only [Qw.l1.r]
  rw [Q1R (by omega), Q9T blk (by omega) _ (by rw [if_pos hi])]
theorem QdC (k : Nat) (hk : 64 < k) {blk : List Int} (hb : Q1V 0 255 blk) (hlen : blk.length = 64) (z : List Int) :
  Qw.l0 k k ((0 : Int), blk, z, wz blk 0, ()) = some (blk, z, wz blk 16, ()) := by
 refine Q1H (r := Qw.l0.r k) (fun i => ((i : Int), blk, z, wz blk i, ())) 16 _ ?_ ?_ (by omega)
 ·intro i hi kn ke
  simp only [Qw.l0.r]
  rw [Q13 (by omega), i64_in (n := 4 * (i : Int)) (by omega), i64_in (n := (i : Int) + 1) (by omega), i64_in (n := 4 * ((i : Int) + 1)) (by omega), Q13 (by omega)]
  rw [show (4 * (i : Int)).toNat = 4 * i by omega, show (4 * ((i : Int) + 1) - 4 * (i : Int)).toNat = 4 by omega]
  have := Qds k hb hlen hi z (fuel := k) (by omega)
  show (Qw.l1 k k ((i : Int), (i : Int), (4 * i, 4), (4 : Int), (0 : Int), blk, z, wz blk i, ())).bind _ = _
  rw [this]
  simp only [Option.bind_some]
  rw [i64_in (by omega)]
  rfl
 ·intro kn ke
  simp only [Qw.l0.r]
  rw [Q1R (by omega)]
theorem Qdk (k : Nat) (hk : 64 < k) (blk b z : List Int) :
  Qw.l2 k k ((16 : Int), b, z, wz blk 16, ()) = some (b, z, wz blk 64, ()) := by
 refine Q8y (r := Qw.l2.r k) (fun i => ((i : Int), b, z, wz blk i, ())) 64 _ 16 ?_ ?_ (by omega) (by omega)
 ·intro i h16 hi kn ke
  simp only [Qw.l2.r]
  rw [Q13 (by omega), i64_in (n := (i : Int) - 2) (by omega), i64_in (n := (i : Int) - 15) (by omega), i64_in (n := (i : Int) - 7) (by omega), i64_in (n := (i : Int) - 16) (by omega), i64_in (n := (i : Int) + 1) (by omega)]
  rw [Q13 (by omega), Q13 (by omega)]
  simp only [Q1U k _ (show (0 : Int) < 17 ∧ (17 : Int) < 32 by omega), Q1U k _ (show (0 : Int) < 19 ∧ (19 : Int) < 32 by omega), Q1U k _ (show (0 : Int) < 7 ∧ (7 : Int) < 32 by omega), Q1U k _ (show (0 : Int) < 18 ∧ (18 : Int) < 32 by omega), Option.bind_some]
  rw [Q13 (by omega), Q13 (by omega), Q13 (by omega)]
  rw [show ((i : Int) - 2).toNat = i - 2 by omega, show ((i : Int) - 15).toNat = i - 15 by omega, show ((i : Int) - 7).toNat = i - 7 by omega, show ((i : Int) - 16).toNat = i - 16 by omega, show (i : Int).toNat = i by omega]
  rw [Q4O blk (show i - 2 < i by omega), Q4O blk (show i - 15 < i by omega), Q4O blk (show i - 7 < i by omega), Q4O blk (show i - 16 < i by omega)]
  rw [Q9T blk (by omega) _ (by rw [if_neg (by omega)]; rfl)]
  rfl
 ·intro kn ke
  simp only [Qw.l2.r]
  rw [Q1R (by omega)]
theorem wz_0 (blk : List Int) : List.replicate 64 (0 : Int) = wz blk 0 := rfl
theorem Qeu (blk : List Int) : wz blk 64 = wl blk 64 := by simp [wz]
theorem Q9X {k : Nat} (hk : 64 < k) {blk : List Int} (hb : Q1V 0 255 blk) (hlen : blk.length = 64) : Qw k blk = some (wl blk 64, blk, ()) := by
 unfold Qw Qw.c
 rw [wz_0 blk, QdC k hk hb hlen]
 simp only [Option.bind_some]
 show (Qw.l2 k k ((16 : Int), blk, wz blk 0, wz blk 16, ())).bind _ = _
 rw [Qdk k hk, Qeu]
 rfl
theorem Q6Z (k : Nat) : Q14 k = some (kc, ()) := rfl
theorem Q6Q (k : Nat) : Q0j k = some (kc, ()) := rfl
def big1 (e : Int) : Int := Q1f .xor .u32 (Q1f .xor .u32 (rotr e 6) (rotr e 11)) (rotr e 25)
def big0 (a : Int) : Int := Q1f .xor .u32 (Q1f .xor .u32 (rotr a 2) (rotr a 13)) (rotr a 22)
def chF (e f g : Int) : Int := Q1f .xor .u32 (Q1f .and .u32 e f) (Q1f .and .u32 (4294967295 - e) g)
def majF (a b c : Int) : Int := Q1f .xor .u32 (Q1f .xor .u32 (Q1f .and .u32 a b) (Q1f .and .u32 a c)) (Q1f .and .u32 b c)
def Q28 (a b : Int) : Int := IntKind.u32.wrap (a + b)
theorem QaG (a b c : Int) : Q28 (Q28 a b) c = Q28 a (Q28 b c) := by
 unfold Q28; simp only [Q6t]; omega
theorem Qbx (a b : Int) : Q28 a b = Q28 b a := by
 unfold Q28; rw [Int.add_comm]
theorem Q7s (a b : Int) : 0 ≤ Q28 a b ∧ Q28 a b ≤ 4294967295 := by unfold Q28; rw [Q6t]; omega
def rnd (y : List Int) (kt wt : Int) : List Int :=
 let t1 := Q28 (Q28 (Q28 (Q28 (y.getD 7 0) (big1 (y.getD 4 0))) (chF (y.getD 4 0) (y.getD 5 0) (y.getD 6 0))) kt) wt
 [Q28 t1 (Q28 (big0 (y.getD 0 0)) (majF (y.getD 0 0) (y.getD 1 0) (y.getD 2 0))), y.getD 0 0, y.getD 1 0, y.getD 2 0, Q28 (y.getD 3 0) t1, y.getD 4 0, y.getD 5 0, y.getD 6 0]
def rndN (w x : List Int) : Nat → List Int
 | 0 => x
 | t + 1 => rnd (rndN w x t) (kc.getD t 0) (w.getD t 0)
theorem QeJ {y : List Int} (hy : Q1V 0 4294967295 y) (kt wt : Int) : Q1V 0 4294967295 (rnd y kt wt) := by
 intro v hv
 simp only [rnd, List.mem_cons, List.not_mem_nil, or_false] at hv
 rcases hv with rfl | rfl | rfl | rfl | rfl | rfl | rfl | rfl <;> first | exact Q7s _ _ | exact Q2q hy (by omega) _
theorem Qa7 {w x : List Int} (hx : Q1V 0 4294967295 x) : ∀ t, Q1V 0 4294967295 (rndN w x t)
 | 0 => hx
 | t + 1 => QeJ (Qa7 hx t) _ _
theorem Qed (k : Nat) (hk : 64 < k) {x0 : List Int} (hx : Q1V 0 4294967295 x0) (z w : List Int) :
  Q0l.l0 k k ((0 : Int), x0, z, w, kc, x0, ()) = some (x0, z, rndN w x0 64, ()) := by
 refine Q1H (r := Q0l.l0.r k) (fun i => ((i : Int), x0, z, w, kc, rndN w x0 i, ())) 64 _ ?_ ?_ (by omega)
 ·intro i hi kn ke
  simp only [Q0l.l0.r]
  rw [Q13 (by omega)]
  simp only [Q1U k _ (show (0 : Int) < 6 ∧ (6 : Int) < 32 by omega), Q1U k _ (show (0 : Int) < 11 ∧ (11 : Int) < 32 by omega), Q1U k _ (show (0 : Int) < 25 ∧ (25 : Int) < 32 by omega), Q1U k _ (show (0 : Int) < 2 ∧ (2 : Int) < 32 by omega), Q1U k _ (show (0 : Int) < 13 ∧ (13 : Int) < 32 by omega), Q1U k _ (show (0 : Int) < 22 ∧ (22 : Int) < 32 by omega), Option.bind_some]
  rw [Q13 (by omega), Q13 (by omega), i64_in (n := (i : Int) + 1) (by omega), show (i : Int).toNat = i by omega]
  have hr := Qa7 (w := w) hx i
  rw [Qej (Q2q hr (by omega) 4)]
  show kn ((i : Int) + 1, x0, z, w, kc, [Q28 (Q28 _ _) _, _, _, _, _, _, _, _], ()) = _
  rw [QaG]
  rfl
 ·intro kn ke
  simp only [Q0l.l0.r]
  rw [Q1R (by omega)]
theorem Qel (k : Nat) (hk : 64 < k) (x z y : List Int) (hy : y.length = 8) :
  Q0l.l1 k k ((0 : Int), x, z, y, ()) = some (z, (List.range 8).map (fun j => Q28 (y.getD j 0) (x.getD j 0)), ()) := by
 have := Q1H (r := Q0l.l1.r k) (fun i => ((i : Int), x, z, (List.range i).map (fun j => Q28 (y.getD j 0) (x.getD j 0)) ++ y.drop i, ())) 8 (z, (List.range 8).map (fun j => Q28 (y.getD j 0) (x.getD j 0)), ()) ?_ ?_ (fuel := k) (by omega)
 ·simp only [List.range_zero, List.map_nil, List.nil_append, List.drop_zero] at this
  exact this
 ·intro i hi kn ke
  simp only [Q0l.l1.r]
  rw [Q13 (by omega), Q13 (by omega), Q13 (by omega), Q13 (by omega), i64_in (n := (i : Int) + 1) (by omega), show (i : Int).toNat = i by omega, Qcr]
  show kn ((i : Int) + 1, x, z, List.set _ i (Q28 (y.getD i 0) (x.getD i 0)), ()) = _
  rw [Q7I (f := fun j => Q28 (y.getD j 0) (x.getD j 0)) (by omega)]
  rfl
 ·intro kn ke
  simp only [Q0l.l1.r]
  rw [Q1R (by omega), Q82 (by omega)]
def Q7j (x blk : List Int) : List Int := (List.range 8).map fun j => Q28 ((rndN (wl blk 64) x 64).getD j 0) (x.getD j 0)
theorem Qb6 {w x : List Int} (hx : x.length = 8) : ∀ t, (rndN w x t).length = 8
 | 0 => hx
 | _ + 1 => rfl
theorem Qa0 (x blk : List Int) : (Q7j x blk).length = 8 := by simp [Q7j]
theorem QdD (x blk : List Int) : Q1V 0 4294967295 (Q7j x blk) := by
 intro v hv
 simp only [Q7j, List.mem_map] at hv
 obtain ⟨j, _, rfl⟩ := hv
 exact Q7s _ _
theorem QaC {k : Nat} (hk : 64 < k) {x blk : List Int} (hx : Q1V 0 4294967295 x) (hxl : x.length = 8) (hb : Q1V 0 255 blk) (hlen : blk.length = 64) : Q0l k x blk = some (Q7j x blk, ()) := by
 unfold Q0l Q0l.c
 rw [Q9X hk hb hlen, Q6Z]
 simp only [Option.bind_some]
 rw [Qed k hk hx]
 simp only [Option.bind_some]
 rw [Qel k hk _ _ _ (Qb6 hxl 64)]
 rfl
theorem QeE (k : Nat) (hk : 64 < k) {blk : List Int} (hb : Q1V 0 255 blk) (hlen : blk.length = 64) (s z kk : List Int) :
  Q5.l0 k k ((0 : Int), s, blk, z, kk, wz blk 0, ()) = some (s, z, kk, wl blk 64, ()) := by
 rw [← Qeu blk]
 refine Q1H (r := Q5.l0.r k) (fun i => ((i : Int), s, blk, z, kk, wz blk i, ())) 64 _ ?_ ?_ (by omega)
 ·intro i hi kn ke
  simp only [Q5.l0.r]
  rw [Q13 (by omega)]
  by_cases h16 : i < 16
  ·rw [Q13 (by omega), i64_in (n := 4 * (i : Int)) (by omega), i64_in (n := 4 * (i : Int) + 1) (by omega), i64_in (n := 4 * (i : Int) + 2) (by omega), i64_in (n := 4 * (i : Int) + 3) (by omega), i64_in (n := (i : Int) + 1) (by omega)]
   rw [Q13 (by omega), Q13 (by omega), Q13 (by omega), Q13 (by omega), Q13 (by omega)]
   rw [show (4 * (i : Int)).toNat = 4 * i by omega, show (4 * (i : Int) + 1).toNat = 4 * i + 1 by omega, show (4 * (i : Int) + 2).toNat = 4 * i + 2 by omega, show (4 * (i : Int) + 3).toNat = 4 * i + 3 by omega, show (i : Int).toNat = i by omega]
   have b0 := Q2q hb (by omega) (4 * i)
   have b1 := Q2q hb (by omega) (4 * i + 1)
   have b2 := Q2q hb (by omega) (4 * i + 2)
   have b3 := Q2q hb (by omega) (4 * i + 3)
   have hp : part blk i 4 = ((blk.getD (4 * i) 0 * 256 + blk.getD (4 * i + 1) 0) * 256 + blk.getD (4 * i + 2) 0) * 256 + blk.getD (4 * i + 3) 0 := by
    simp [part]
   rw [Q9T blk (by omega) _ ?_]
   ·rfl
   ·rw [if_pos h16, hp]
    generalize blk.getD (4 * i) 0 = x0 at *
    generalize blk.getD (4 * i + 1) 0 = x1 at *
    generalize blk.getD (4 * i + 2) 0 = x2 at *
    generalize blk.getD (4 * i + 3) 0 = x3 at *
    obtain ⟨X0, rfl⟩ := Int.eq_ofNat_of_zero_le b0.1
    obtain ⟨X1, rfl⟩ := Int.eq_ofNat_of_zero_le b1.1
    obtain ⟨X2, rfl⟩ := Int.eq_ofNat_of_zero_le b2.1
    obtain ⟨X3, rfl⟩ := Int.eq_ofNat_of_zero_le b3.1
    simp only [Q47 (show 0 ≤ ((X0 : Nat) : Int) ∧ ((X0 : Nat) : Int) ≤ 4294967295 by omega), Q47 (show 0 ≤ ((X1 : Nat) : Int) ∧ ((X1 : Nat) : Int) ≤ 4294967295 by omega), Q47 (show 0 ≤ ((X2 : Nat) : Int) ∧ ((X2 : Nat) : Int) ≤ 4294967295 by omega), Q47 (show 0 ≤ ((X3 : Nat) : Int) ∧ ((X3 : Nat) : Int) ≤ 4294967295 by omega)]
    rw [show (24 : Int) = ((24 : Nat) : Int) from rfl, show (16 : Int) = ((16 : Nat) : Int) from rfl, show (8 : Int) = ((8 : Nat) : Int) from rfl, Q7S _ (by omega), Q7S _ (by omega), Q7S _ (by omega)]
    rw [show ((X0 : Int) * 2 ^ 24) % 4294967296 = ((X0 * 2 ^ 24 : Nat) : Int) by simp; omega, show ((X1 : Int) * 2 ^ 16) % 4294967296 = ((X1 * 2 ^ 16 : Nat) : Int) by simp; omega, show ((X2 : Int) * 2 ^ 8) % 4294967296 = ((X2 * 2 ^ 8 : Nat) : Int) by simp; omega]
    rw [Q4E (A := X1 * 2 ^ 16) (B := X0) (j := 24) (by omega) (by omega)]
    rw [show X0 * 2 ^ 24 + X1 * 2 ^ 16 = (X0 * 256 + X1) * 2 ^ 16 by omega, Q4E (A := X2 * 2 ^ 8) (j := 16) (by omega) (by omega)]
    rw [show (X0 * 256 + X1) * 2 ^ 16 + X2 * 2 ^ 8 = ((X0 * 256 + X1) * 256 + X2) * 2 ^ 8 by omega, Q4E (A := X3) (j := 8) (by omega) (by omega)]
    omega
  ·rw [Q1R (by omega), i64_in (n := (i : Int) - 2) (by omega), i64_in (n := (i : Int) - 15) (by omega), i64_in (n := (i : Int) - 7) (by omega), i64_in (n := (i : Int) - 16) (by omega), i64_in (n := (i : Int) + 1) (by omega)]
   rw [Q13 (by omega), Q13 (by omega)]
   simp only [Q2E k _ (show (0 : Int) ≤ 17 ∧ (17 : Int) ≤ 32 by omega), Q2E k _ (show (0 : Int) ≤ 19 ∧ (19 : Int) ≤ 32 by omega), Q2E k _ (show (0 : Int) ≤ 7 ∧ (7 : Int) ≤ 32 by omega), Q2E k _ (show (0 : Int) ≤ 18 ∧ (18 : Int) ≤ 32 by omega), Option.bind_some]
   rw [Q13 (by omega), Q13 (by omega), Q13 (by omega)]
   rw [show ((i : Int) - 2).toNat = i - 2 by omega, show ((i : Int) - 15).toNat = i - 15 by omega, show ((i : Int) - 7).toNat = i - 7 by omega, show ((i : Int) - 16).toNat = i - 16 by omega, show (i : Int).toNat = i by omega]
   rw [Q4O blk (show i - 2 < i by omega), Q4O blk (show i - 15 < i by omega), Q4O blk (show i - 7 < i by omega), Q4O blk (show i - 16 < i by omega)]
   rw [Q9T blk (by omega) _ (by rw [if_neg (by omega)]; rfl)]
   rfl
 ·intro kn ke
  simp only [Q5.l0.r]
  rw [Q1R (by omega)]
theorem QeX (k : Nat) (hk : 64 < k) {x0 : List Int} (hx : Q1V 0 4294967295 x0) (s z w : List Int) :
  Q5.l1 k k ((0 : Int), s, z, kc, w, x0, ()) = some (s, z, rndN w x0 64, ()) := by
 refine Q1H (r := Q5.l1.r k) (fun i => ((i : Int), s, z, kc, w, rndN w x0 i, ())) 64 _ ?_ ?_ (by omega)
 ·intro i hi kn ke
  simp only [Q5.l1.r]
  rw [Q13 (by omega)]
  simp only [Q2E k _ (show (0 : Int) ≤ 6 ∧ (6 : Int) ≤ 32 by omega), Q2E k _ (show (0 : Int) ≤ 11 ∧ (11 : Int) ≤ 32 by omega), Q2E k _ (show (0 : Int) ≤ 25 ∧ (25 : Int) ≤ 32 by omega), Q2E k _ (show (0 : Int) ≤ 2 ∧ (2 : Int) ≤ 32 by omega), Q2E k _ (show (0 : Int) ≤ 13 ∧ (13 : Int) ≤ 32 by omega), Q2E k _ (show (0 : Int) ≤ 22 ∧ (22 : Int) ≤ 32 by omega), Option.bind_some]
  rw [Q13 (by omega), Q13 (by omega), i64_in (n := (i : Int) + 1) (by omega), show (i : Int).toNat = i by omega]
  have hr := Q2q (Qa7 (w := w) hx i) (by omega) 4
  rw [Q47 (n := 4294967295 - (rndN w x0 i).getD 4 0) (by omega)]
  rfl
 ·intro kn ke
  simp only [Q5.l1.r]
  rw [Q1R (by omega)]
theorem QeF (k : Nat) (hk : 64 < k) (x z y : List Int) (hx : x.length = 8) :
  Q5.l2 k k ((0 : Int), x, z, y, ()) = some ((List.range 8).map (fun j => Q28 (x.getD j 0) (y.getD j 0)), z, ()) := by
 have := Q1H (r := Q5.l2.r k) (fun i => ((i : Int), (List.range i).map (fun j => Q28 (x.getD j 0) (y.getD j 0)) ++ x.drop i, z, y, ())) 8 ((List.range 8).map (fun j => Q28 (x.getD j 0) (y.getD j 0)), z, ()) ?_ ?_ (fuel := k) (by omega)
 ·simp only [List.range_zero, List.map_nil, List.nil_append, List.drop_zero] at this
  exact this
 ·intro i hi kn ke
  simp only [Q5.l2.r]
  rw [Q13 (by omega), Q13 (by omega), Q13 (by omega), Q13 (by omega), i64_in (n := (i : Int) + 1) (by omega), show (i : Int).toNat = i by omega, Qcr]
  show kn ((i : Int) + 1, List.set _ i (Q28 (x.getD i 0) (y.getD i 0)), z, y, ()) = _
  rw [Q7I (f := fun j => Q28 (x.getD j 0) (y.getD j 0)) (by omega)]
  rfl
 ·intro kn ke
  simp only [Q5.l2.r]
  rw [Q1R (by omega), Q82 (by omega)]
theorem Qap {k : Nat} (hk : 64 < k) {x blk : List Int} (hx : Q1V 0 4294967295 x) (hxl : x.length = 8) (hb : Q1V 0 255 blk) (hlen : blk.length = 64) : Q5 k x blk = some (Q7j x blk, ()) := by
 unfold Q5 Q5.c
 rw [Q6Q, wz_0 blk]
 simp only [Option.bind_some]
 rw [QeE k hk hb hlen]
 simp only [Option.bind_some]
 rw [QeX k hk hx]
 simp only [Option.bind_some]
 rw [QeF k hk _ _ _ hxl]
 simp only [Option.bind_some]
 have e : (List.range 8).map (fun j => Q28 (x.getD j 0) ((rndN (wl blk 64) x 64).getD j 0)) = Q7j x blk := List.map_congr_left fun j _ => Qbx _ _
 rw [e]
end Go.Am
