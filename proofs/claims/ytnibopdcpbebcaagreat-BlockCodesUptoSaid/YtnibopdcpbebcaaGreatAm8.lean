/- A part of a proof: a machine of abstract values that tells what functions of the program compute, and the plain facts on them. -/
import Derived.Test.YtnibopdcpbebcaaGreatAm7
import Derived.KernelRfl
set_option linter.unusedVariables false
set_option linter.unusedSimpArgs false
set_option linter.unnecessarySimpa false
set_option linter.unusedSectionVars false
namespace Go.Am
abbrev Qhc : Ty := (.sl (.int .u64))
abbrev Qhb : Type := ((List Int) × Unit)
abbrev Qha : Ty := (.arr 4 (.int .u64))
abbrev Qh9 : Ty := (.arr 32 (.int .u8))
abbrev Qh8 : Ty := (.arr 40 (.int .i64))
abbrev Qh7 : Type := ((List Int) × (List Int) × Unit)
abbrev Qh6 : Type := (List (Int × (ByteArray × Unit)))
abbrev Qh5 : Type := (List ((List Int) × (Int × (ByteArray × (Int × Unit)))))
abbrev Qh4 : Ty := (.sl (.pair  Qh9  (.pair (.int .u32) (.pair .str (.pair (.int .u32) .unit)))))
abbrev Qh3 : Type := (Int × ( Qh5  × ( Qh6  × (Int × Unit))))
abbrev Qh2 : Type := ( Qh3  × Unit)
abbrev Qh1 : Type := (ByteArray ×  Qh3  × Unit)
abbrev Qh0 : Ty := (.pair (.int .u32) (.pair  Qh4  (.pair (.sl (.pair (.int .u64) (.pair .str .unit))) (.pair (.int .u32) .unit))))
end Go.Am
namespace Go.Am
open Go Go.Proofs
set_option maxRecDepth 100000
abbrev Qu.l0.σ : Type := Int × Int × Int × (List Int) × Unit
abbrev Qu.l0.τ : Type := Qhb 
def Qu.l0.r (k : Nat) {ρ : Type} (x : Qu.l0.σ) (kn : Qu.l0.σ → Option ρ) (ke : Qu.l0.τ → Option ρ) : Option ρ :=
 bif (decide (x.2.2.1 < x.2.1)) then (let v0 : Int := (Int.tmod x.1 (256 : Int))
 bif (Nat.ble (((List.length x.2.2.2.1) + (List.length (List.set (List.replicate 1 (0 : Int)) 0 (IntKind.wrap IntKind.u8 v0)))) * 1) 140737488355328) then (let v1 : Int := (IntKind.wrap IntKind.u64 (Int.tdiv x.1 (256 : Int)))
 let v2 : Int := (IntKind.wrap IntKind.i64 (x.2.2.1 + (1 : Int)))
 kn (v1, (x.2.1, (v2, ((x.2.2.2.1 ++ (List.set (List.replicate 1 (0 : Int)) 0 (IntKind.wrap IntKind.u8 v0))), ()))))) else (none)) else (ke (x.2.2.2.1, ()))
def Qu.l0 (k : Nat) : Nat → Qu.l0.σ → Option Qu.l0.τ := Q15 (Qu.l0.r k)
def Qu.l0.T : StT := ⟨.dat (.int .u64) :: .dat (.int .i64) :: us 3 ++ .vsl 0 :: .dat (.int .i64) :: us 16, [.vec (.int .u8)]⟩
def Qu.l0.os : List Out := [⟨(.exit 0), [.mask [5], .auto 0], ⟨us 5 ++ .vsl 0 :: us 17, [.vec (.int .u8)]⟩⟩]
def Qu.c (k : Nat) {ρ : Type} (n : Int) (bytes : Int) (K : ByteArray × Unit → Option ρ) : Option ρ :=
 (Qu.l0 k k (n, (bytes, ((0 : Int), ((List.replicate 0 (0 : Int)), ()))))).bind fun t3 => K ((bytesOf t3.1), ())
def Qu (k : Nat) (n : Int) (bytes : Int) : Option (ByteArray × Unit) := Qu.c k n bytes some
def Qu.tin : List Ty := [(.int .u64), (.int .i64)]
def Qu.tout : List Ty := [.str]
def Qu.sem (k : Nat) : QT := Q00 Qu.tin Qu.tout fun x => Qu k x.1 x.2.1
noncomputable def Qu.ctx (k : Nat) : Ctx := ⟨Tryz.prog, gam []⟩
theorem Qu.gok (k : Nat) : ∀ f, QI Tryz.prog f ((Qu.ctx k).Γ f) := Q01
theorem Qu.l0.round (k : Nat) : Q14 (Qu.ctx k) (QP (Func.code Tryz.f76) [1, 1, 0, 1, 0, 0]) (.nil) Qu.l0.T [.mask [0, 1, 5, 6], .auto 0] Qu.l0.os (Qu.l0.r k) := by
 intro ρ x kn ke; kernel_rfl
theorem Qu.l0.ok (k : Nat) : StOK 0 Tryz.prog (.loop (QP (Func.code Tryz.f76) [1, 1, 0, 1, 0, 0])) (Qp Qu.l0.T Qu.l0.os (Qu.l0 k k)) :=
 Q16 (C := Qu.ctx k) (Qu.gok k) Tryz.mix Q1.nil (by kernel_rfl) (by kernel_rfl) (by kernel_rfl) (Qu.l0.round k) k
def Qu.ann (k : Nat) : Ann := .node [] none (.nil) (.node [] none (.nil) (.node [] none (.node [] none (.nil) (.node [] none (.node [.mask [0, 1, 5, 6], .auto 0] (some (Qp Qu.l0.T Qu.l0.os (Qu.l0 k k))) .nil .nil) (.nil))) (.nil)))
theorem Qu.body (k : Nat) : Q0W (Qu.ctx k) Tryz.f76 (Func.code Tryz.f76) (Qu.ann k) Qu.tin Qu.tout (fun x K => Qu.c k x.1 x.2.1 K) := by
 intro ρ x K; kernel_rfl
theorem Qu.sem_ok (k : Nat) : QI Tryz.prog 76 (Qu.sem k) :=
 QG (C := Qu.ctx k) (Qu.gok k) Tryz.mix (c := Func.code Tryz.f76) (ann := Qu.ann k) (tin := Qu.tin) (tout := Qu.tout) (fun x K => Qu.c k x.1 x.2.1 K) Tryz.func76 (by kernel_rfl) (by kernel_rfl) (Q1.seq Q1.nil (Q1.seq Q1.nil (Q1.seq (Q1.seq Q1.nil (Q1.block (Q1.loop (by kernel_rfl) (Qu.l0.ok k)))) Q1.nil))) (Qu.body k)
def Q04.c (k : Nat) {ρ : Type} (n : Int) (K : ByteArray × Unit → Option ρ) : Option ρ :=
 bif (decide (n < (253 : Int))) then ((Qu k n (1 : Int)).bind fun t0 => K (t0.1, ())) else (bif (decide (n < (65536 : Int))) then ((Qu k n (2 : Int)).bind fun t1 => bif (Nat.ble (1 + (ByteArray.size t1.1)) 9223372036854775807) then (let v2 : ByteArray := ((⟨(List.toArray [253])⟩ : ByteArray) ++ t1.1)
 K (v2, ())) else (none)) else (bif (decide (n < (4294967296 : Int))) then ((Qu k n (4 : Int)).bind fun t3 => bif (Nat.ble (1 + (ByteArray.size t3.1)) 9223372036854775807) then (let v4 : ByteArray := ((⟨(List.toArray [254])⟩ : ByteArray) ++ t3.1)
 K (v4, ())) else (none)) else ((Qu k n (8 : Int)).bind fun t5 => bif (Nat.ble (1 + (ByteArray.size t5.1)) 9223372036854775807) then (let v6 : ByteArray := ((⟨(List.toArray [255])⟩ : ByteArray) ++ t5.1)
 K (v6, ())) else (none))))
def Q04 (k : Nat) (n : Int) : Option (ByteArray × Unit) := Q04.c k n some
def Q04.tin : List Ty := [(.int .u64)]
def Q04.tout : List Ty := [.str]
def Q04.sem (k : Nat) : QT := Q00 Q04.tin Q04.tout fun x => Q04 k x.1
noncomputable def Q04.ctx (k : Nat) : Ctx := ⟨Tryz.prog, gam [(76, (Qu.sem k))]⟩
theorem Q04.gok (k : Nat) : ∀ f, QI Tryz.prog f ((Q04.ctx k).Γ f) := (Ql (Qu.sem_ok k) Q01)
def Q04.ann (k : Nat) : Ann := .nil
theorem Q04.body (k : Nat) : Q0W (Q04.ctx k) Tryz.f77 (Func.code Tryz.f77) (Q04.ann k) Q04.tin Q04.tout (fun x K => Q04.c k x.1 K) := by
 intro ρ x K; kernel_rfl
theorem Q04.sem_ok (k : Nat) : QI Tryz.prog 77 (Q04.sem k) :=
 QG (C := Q04.ctx k) (Q04.gok k) Tryz.mix (c := Func.code Tryz.f77) (ann := Q04.ann k) (tin := Q04.tin) (tout := Q04.tout) (fun x K => Q04.c k x.1 K) Tryz.func77 (by kernel_rfl) (by kernel_rfl) Q1.nil (Q04.body k)
abbrev Q9.l0.σ : Type := ByteArray × Qh5 × Int × Int × Qh3 × Unit
abbrev Q9.l0.τ : Type := Qh1 
def Q9.l0.r (k : Nat) {ρ : Type} (x : Q9.l0.σ) (kn : Q9.l0.σ → Option ρ) (ke : Q9.l0.τ → Option ρ) : Option ρ :=
 bif (decide (x.2.2.2.1 < x.2.2.1)) then (bif (decide (((0 : Int) ≤ x.2.2.2.1) ∧ (x.2.2.2.1 < (((List.length x.2.1) : Nat) : Int)))) then (let v8 : ByteArray := (bytesOf (List.take 32 (List.drop 0 (List.getD x.2.1 (Int.toNat x.2.2.2.1) ((List.replicate 32 (0 : Int)), ((0 : Int), (ByteArray.empty, ((0 : Int), ()))))).1)))
 let v9 : Int := (List.getD x.2.1 (Int.toNat x.2.2.2.1) ((List.replicate 32 (0 : Int)), ((0 : Int), (ByteArray.empty, ((0 : Int), ()))))).2.1
 (Qu k (IntKind.wrap IntKind.u64 v9) (4 : Int)).bind fun t10 => bif (Nat.ble ((ByteArray.size v8) + (ByteArray.size t10.1)) 9223372036854775807) then (let v11 : ByteArray := (v8 ++ t10.1)
 let v12 : ByteArray := (List.getD x.2.1 (Int.toNat x.2.2.2.1) ((List.replicate 32 (0 : Int)), ((0 : Int), (ByteArray.empty, ((0 : Int), ()))))).2.2.1
 (Q04 k (IntKind.wrap IntKind.u64 (((ByteArray.size v12) : Nat) : Int))).bind fun t13 => bif (Nat.ble ((ByteArray.size v11) + (ByteArray.size t13.1)) 9223372036854775807) then (let v14 : ByteArray := (v11 ++ t13.1)
 let v15 : ByteArray := (List.getD x.2.1 (Int.toNat x.2.2.2.1) ((List.replicate 32 (0 : Int)), ((0 : Int), (ByteArray.empty, ((0 : Int), ()))))).2.2.1
 bif (Nat.ble ((ByteArray.size v14) + (ByteArray.size v15)) 9223372036854775807) then (let v16 : ByteArray := (v14 ++ v15)
 let v17 : Int := (List.getD x.2.1 (Int.toNat x.2.2.2.1) ((List.replicate 32 (0 : Int)), ((0 : Int), (ByteArray.empty, ((0 : Int), ()))))).2.2.2.1
 (Qu k (IntKind.wrap IntKind.u64 v17) (4 : Int)).bind fun t18 => bif (Nat.ble ((ByteArray.size v16) + (ByteArray.size t18.1)) 9223372036854775807) then (let v19 : ByteArray := (v16 ++ t18.1)
 bif (Nat.ble ((ByteArray.size x.1) + (ByteArray.size v19)) 9223372036854775807) then (let v20 : ByteArray := (x.1 ++ v19)
 let v21 : Int := (IntKind.wrap IntKind.i64 (x.2.2.2.1 + (1 : Int)))
 kn (v20, (x.2.1, (x.2.2.1, (v21, ((x.2.2.2.2.1.1, (x.2.2.2.2.1.2.1, (x.2.2.2.2.1.2.2.1, (x.2.2.2.2.1.2.2.2.1, ())))), ())))))) else (none)) else (none)) else (none)) else (none)) else (none)) else (none)) else (ke (x.1, ((x.2.2.2.2.1.1, (x.2.2.2.2.1.2.1, (x.2.2.2.2.1.2.2.1, (x.2.2.2.2.1.2.2.2.1, ())))), ())))
def Q9.l0 (k : Nat) : Nat → Q9.l0.σ → Option Q9.l0.τ := Q15 (Q9.l0.r k)
def Q9.l0.T : StT := ⟨us 1 ++ .ptr 0 [] :: us 1 ++ .dat .str :: us 15 ++ .dat Qh4 :: .dat (.int .i64) :: .dat (.int .i64) :: us 63, [.dat Qh0]⟩
def Q9.l0.os : List Out := [⟨(.exit 0), [.mask [1, 3], .auto 0], ⟨us 1 ++ .ptr 0 [] :: us 1 ++ .dat .str :: us 81, [.dat Qh0]⟩⟩]
abbrev Q9.l1.σ : Type := ByteArray × Qh6 × Int × Int × Qh3 × Unit
abbrev Q9.l1.τ : Type := Qh1 
def Q9.l1.r (k : Nat) {ρ : Type} (x : Q9.l1.σ) (kn : Q9.l1.σ → Option ρ) (ke : Q9.l1.τ → Option ρ) : Option ρ :=
 bif (decide (x.2.2.2.1 < x.2.2.1)) then (bif (decide (((0 : Int) ≤ x.2.2.2.1) ∧ (x.2.2.2.1 < (((List.length x.2.1) : Nat) : Int)))) then (let v29 : Int := (List.getD x.2.1 (Int.toNat x.2.2.2.1) ((0 : Int), (ByteArray.empty, ()))).1
 (Qu k v29 (8 : Int)).bind fun t30 => let v31 : ByteArray := (List.getD x.2.1 (Int.toNat x.2.2.2.1) ((0 : Int), (ByteArray.empty, ()))).2.1
 (Q04 k (IntKind.wrap IntKind.u64 (((ByteArray.size v31) : Nat) : Int))).bind fun t32 => bif (Nat.ble ((ByteArray.size t30.1) + (ByteArray.size t32.1)) 9223372036854775807) then (let v33 : ByteArray := (t30.1 ++ t32.1)
 let v34 : ByteArray := (List.getD x.2.1 (Int.toNat x.2.2.2.1) ((0 : Int), (ByteArray.empty, ()))).2.1
 bif (Nat.ble ((ByteArray.size v33) + (ByteArray.size v34)) 9223372036854775807) then (let v35 : ByteArray := (v33 ++ v34)
 bif (Nat.ble ((ByteArray.size x.1) + (ByteArray.size v35)) 9223372036854775807) then (let v36 : ByteArray := (x.1 ++ v35)
 let v37 : Int := (IntKind.wrap IntKind.i64 (x.2.2.2.1 + (1 : Int)))
 kn (v36, (x.2.1, (x.2.2.1, (v37, ((x.2.2.2.2.1.1, (x.2.2.2.2.1.2.1, (x.2.2.2.2.1.2.2.1, (x.2.2.2.2.1.2.2.2.1, ())))), ())))))) else (none)) else (none)) else (none)) else (none)) else (ke (x.1, ((x.2.2.2.2.1.1, (x.2.2.2.2.1.2.1, (x.2.2.2.2.1.2.2.1, (x.2.2.2.2.1.2.2.2.1, ())))), ())))
def Q9.l1 (k : Nat) : Nat → Q9.l1.σ → Option Q9.l1.τ := Q15 (Q9.l1.r k)
def Q9.l1.T : StT := ⟨us 1 ++ .ptr 0 [] :: us 1 ++ .dat .str :: us 54 ++ .dat (.sl (.pair (.int .u64) (.pair .str .unit))) :: .dat (.int .i64) :: .dat (.int .i64) :: us 24, [.dat Qh0]⟩
def Q9.l1.os : List Out := [⟨(.exit 2), [.mask [1, 3], .auto 0], ⟨us 1 ++ .ptr 0 [] :: us 1 ++ .dat .str :: us 81, [.dat Qh0]⟩⟩]
def Q9.c (k : Nat) {ρ : Type} (t : Qh3) (K : ByteArray × Unit → Option ρ) : Option ρ :=
 let v0 : Int := t.1
 (Qu k (IntKind.wrap IntKind.u64 v0) (4 : Int)).bind fun t1 => let v2 : Qh5 := t.2.1
 let v3 : Int := (((List.length v2) : Nat) : Int)
 (Q04 k (IntKind.wrap IntKind.u64 v3)).bind fun t4 => bif (Nat.ble ((ByteArray.size t1.1) + (ByteArray.size t4.1)) 9223372036854775807) then (let v5 : ByteArray := (t1.1 ++ t4.1)
 let v6 : Qh5 := t.2.1
 let v7 : Int := (((List.length v6) : Nat) : Int)
 (Q9.l0 k k (v5, (v6, (v7, ((0 : Int), ((t.1, (t.2.1, (t.2.2.1, (t.2.2.2.1, ())))), ())))))).bind fun t22 => let v23 : Qh6 := t22.2.1.2.2.1
 let v24 : Int := (((List.length v23) : Nat) : Int)
 (Q04 k (IntKind.wrap IntKind.u64 v24)).bind fun t25 => bif (Nat.ble ((ByteArray.size t22.1) + (ByteArray.size t25.1)) 9223372036854775807) then (let v26 : ByteArray := (t22.1 ++ t25.1)
 let v27 : Qh6 := t22.2.1.2.2.1
 let v28 : Int := (((List.length v27) : Nat) : Int)
 (Q9.l1 k k (v26, (v27, (v28, ((0 : Int), ((t22.2.1.1, (t22.2.1.2.1, (t22.2.1.2.2.1, (t22.2.1.2.2.2.1, ())))), ())))))).bind fun t38 => let v39 : Int := t38.2.1.2.2.2.1
 (Qu k (IntKind.wrap IntKind.u64 v39) (4 : Int)).bind fun t40 => bif (Nat.ble ((ByteArray.size t38.1) + (ByteArray.size t40.1)) 9223372036854775807) then (let v41 : ByteArray := (t38.1 ++ t40.1)
 K (v41, ())) else (none)) else (none)) else (none)
def Q9 (k : Nat) (t : Qh3) : Option (ByteArray × Unit) := Q9.c k t some
def Q9.tin : List Ty := [Qh0]
def Q9.tout : List Ty := [.str]
def Q9.sem (k : Nat) : QT := Q00 Q9.tin Q9.tout fun x => Q9 k x.1
noncomputable def Q9.ctx (k : Nat) : Ctx := ⟨Tryz.prog, gam [(76, (Qu.sem k)), (77, (Q04.sem k))]⟩
theorem Q9.gok (k : Nat) : ∀ f, QI Tryz.prog f ((Q9.ctx k).Γ f) := (Ql (Qu.sem_ok k) (Ql (Q04.sem_ok k) Q01))
theorem Q9.l0.round (k : Nat) : Q14 (Q9.ctx k) (QP (Func.code Tryz.f46) [1, 1, 0, 1, 0, 0]) (.nil) Q9.l0.T [.mask [1, 3, 19, 20, 21], .auto 0] Q9.l0.os (Q9.l0.r k) := by
 intro ρ x kn ke; kernel_rfl
theorem Q9.l0.ok (k : Nat) : StOK 0 Tryz.prog (.loop (QP (Func.code Tryz.f46) [1, 1, 0, 1, 0, 0])) (Qp Q9.l0.T Q9.l0.os (Q9.l0 k k)) :=
 Q16 (C := Q9.ctx k) (Q9.gok k) Tryz.mix Q1.nil (by kernel_rfl) (by kernel_rfl) (by kernel_rfl) (Q9.l0.round k) k
theorem Q9.l1.round (k : Nat) : Q14 (Q9.ctx k) (QP (Func.code Tryz.f46) [1, 1, 1, 1, 0, 1, 0, 0]) (.nil) Q9.l1.T [.mask [1, 3, 58, 59, 60], .auto 0] Q9.l1.os (Q9.l1.r k) := by
 intro ρ x kn ke; kernel_rfl
theorem Q9.l1.ok (k : Nat) : StOK 0 Tryz.prog (.loop (QP (Func.code Tryz.f46) [1, 1, 1, 1, 0, 1, 0, 0])) (Qp Q9.l1.T Q9.l1.os (Q9.l1 k k)) :=
 Q16 (C := Q9.ctx k) (Q9.gok k) Tryz.mix Q1.nil (by kernel_rfl) (by kernel_rfl) (by kernel_rfl) (Q9.l1.round k) k
def Q9.ann (k : Nat) : Ann := .node [] none (.nil) (.node [] none (.nil) (.node [] none (.node [] none (.nil) (.node [] none (.node [.mask [1, 3, 19, 20, 21], .auto 0] (some (Qp Q9.l0.T Q9.l0.os (Q9.l0 k k))) .nil .nil) (.nil))) (.node [] none (.nil) (.node [] none (.node [] none (.nil) (.node [] none (.node [.mask [1, 3, 58, 59, 60], .auto 0] (some (Qp Q9.l1.T Q9.l1.os (Q9.l1 k k))) .nil .nil) (.nil))) (.nil)))))
theorem Q9.body (k : Nat) : Q0W (Q9.ctx k) Tryz.f46 (Func.code Tryz.f46) (Q9.ann k) Q9.tin Q9.tout (fun x K => Q9.c k x.1 K) := by
 intro ρ x K; kernel_rfl
theorem Q9.sem_ok (k : Nat) : QI Tryz.prog 46 (Q9.sem k) :=
 QG (C := Q9.ctx k) (Q9.gok k) Tryz.mix (c := Func.code Tryz.f46) (ann := Q9.ann k) (tin := Q9.tin) (tout := Q9.tout) (fun x K => Q9.c k x.1 K) Tryz.func46 (by kernel_rfl) (by kernel_rfl) (Q1.seq Q1.nil (Q1.seq Q1.nil (Q1.seq (Q1.seq Q1.nil (Q1.block (Q1.loop (by kernel_rfl) (Q9.l0.ok k)))) (Q1.seq Q1.nil (Q1.seq (Q1.seq Q1.nil (Q1.block (Q1.loop (by kernel_rfl) (Q9.l1.ok k)))) Q1.nil))))) (Q9.body k)
end Go.Am
namespace Go.Am
open Go Go.Proofs
set_option maxRecDepth 100000
abbrev Qd.l0.σ : Type := Qh5 × Int × Int × Qh3 × Unit
abbrev Qd.l0.τ : Type := (Int × Unit) ⊕ Qh2 
def Qd.l0.r (k : Nat) {ρ : Type} (x : Qd.l0.σ) (kn : Qd.l0.σ → Option ρ) (ke : Qd.l0.τ → Option ρ) : Option ρ :=
 bif (decide (x.2.2.1 < x.2.1)) then (bif (decide (((0 : Int) ≤ x.2.2.1) ∧ (x.2.2.1 < (((List.length x.1) : Nat) : Int)))) then (let v2 : ByteArray := (List.getD x.1 (Int.toNat x.2.2.1) ((List.replicate 32 (0 : Int)), ((0 : Int), (ByteArray.empty, ((0 : Int), ()))))).2.2.1
 bif (decide ((((ByteArray.size v2) : Nat) : Int) > (520 : Int))) then (ke (.inl ((100 : Int), ()))) else (let v3 : Int := (IntKind.wrap IntKind.i64 (x.2.2.1 + (1 : Int)))
 kn (x.1, (x.2.1, (v3, ((x.2.2.2.1.1, (x.2.2.2.1.2.1, (x.2.2.2.1.2.2.1, (x.2.2.2.1.2.2.2.1, ())))), ())))))) else (none)) else (ke (.inr ((x.2.2.2.1.1, (x.2.2.2.1.2.1, (x.2.2.2.1.2.2.1, (x.2.2.2.1.2.2.2.1, ())))), ())))
def Qd.l0 (k : Nat) : Nat → Qd.l0.σ → Option Qd.l0.τ := Q15 (Qd.l0.r k)
def Qd.l0.T : StT := ⟨us 1 ++ .ptr 0 [] :: us 6 ++ .dat Qh4 :: .dat (.int .i64) :: .dat (.int .i64) :: us 24, [.dat Qh0]⟩
def Qd.l0.os : List Out := [⟨.ret, [.mask [2], .auto 0], ⟨us 2 ++ .dat (.int .i64) :: us 32, []⟩⟩, ⟨(.exit 0), [.mask [1], .auto 0], ⟨us 1 ++ .ptr 0 [] :: us 33, [.dat Qh0]⟩⟩]
abbrev Qd.l1.σ : Type := Qh6 × Int × Int × Qh3 × Unit
abbrev Qd.l1.τ : Type := (Int × Unit) ⊕ Qh2 
def Qd.l1.r (k : Nat) {ρ : Type} (x : Qd.l1.σ) (kn : Qd.l1.σ → Option ρ) (ke : Qd.l1.τ → Option ρ) : Option ρ :=
 bif (decide (x.2.2.1 < x.2.1)) then (bif (decide (((0 : Int) ≤ x.2.2.1) ∧ (x.2.2.1 < (((List.length x.1) : Nat) : Int)))) then (let v9 : ByteArray := (List.getD x.1 (Int.toNat x.2.2.1) ((0 : Int), (ByteArray.empty, ()))).2.1
 bif (decide ((((ByteArray.size v9) : Nat) : Int) > (520 : Int))) then (ke (.inl ((100 : Int), ()))) else (let v10 : Int := (IntKind.wrap IntKind.i64 (x.2.2.1 + (1 : Int)))
 kn (x.1, (x.2.1, (v10, ((x.2.2.2.1.1, (x.2.2.2.1.2.1, (x.2.2.2.1.2.2.1, (x.2.2.2.1.2.2.2.1, ())))), ())))))) else (none)) else (ke (.inr ((x.2.2.2.1.1, (x.2.2.2.1.2.1, (x.2.2.2.1.2.2.1, (x.2.2.2.1.2.2.2.1, ())))), ())))
def Qd.l1 (k : Nat) : Nat → Qd.l1.σ → Option Qd.l1.τ := Q15 (Qd.l1.r k)
def Qd.l1.T : StT := ⟨us 1 ++ .ptr 0 [] :: us 18 ++ .dat (.sl (.pair (.int .u64) (.pair .str .unit))) :: .dat (.int .i64) :: .dat (.int .i64) :: us 12, [.dat Qh0]⟩
def Qd.l1.os : List Out := [⟨.ret, [.mask [2], .auto 0], ⟨us 2 ++ .dat (.int .i64) :: us 32, []⟩⟩, ⟨(.exit 2), [.mask [1], .auto 0], ⟨us 1 ++ .ptr 0 [] :: us 33, [.dat Qh0]⟩⟩]
def Qd.c (k : Nat) {ρ : Type} (t : Qh3) (K : Int × Unit → Option ρ) : Option ρ :=
 let v0 : Qh5 := t.2.1
 let v1 : Int := (((List.length v0) : Nat) : Int)
 (Qd.l0 k k (v0, (v1, ((0 : Int), ((t.1, (t.2.1, (t.2.2.1, (t.2.2.2.1, ())))), ()))))).bind fun t4 => (match t4 with | .inl t5 => (K (t5.1, ())) | .inr (t6) => (let v7 : Qh6 := t6.1.2.2.1
 let v8 : Int := (((List.length v7) : Nat) : Int)
 (Qd.l1 k k (v7, (v8, ((0 : Int), ((t6.1.1, (t6.1.2.1, (t6.1.2.2.1, (t6.1.2.2.2.1, ())))), ()))))).bind fun t11 => (match t11 with | .inl t12 => (K (t12.1, ())) | .inr (t13) => ((Q9 k (t13.1.1, (t13.1.2.1, (t13.1.2.2.1, (t13.1.2.2.2.1, ()))))).bind fun t14 => let v15 : Int := (((ByteArray.size t14.1) : Nat) : Int)
 bif (decide (v15 > (4096 : Int))) then (K ((101 : Int), ())) else (K ((0 : Int), ()))))))
def Qd (k : Nat) (t : Qh3) : Option (Int × Unit) := Qd.c k t some
def Qd.tin : List Ty := [Qh0]
def Qd.tout : List Ty := [(.int .i64)]
def Qd.sem (k : Nat) : QT := Q00 Qd.tin Qd.tout fun x => Qd k x.1
noncomputable def Qd.ctx (k : Nat) : Ctx := ⟨Tryz.prog, gam [(46, (Q9.sem k))]⟩
theorem Qd.gok (k : Nat) : ∀ f, QI Tryz.prog f ((Qd.ctx k).Γ f) := (Ql (Q9.sem_ok k) Q01)
theorem Qd.l0.round (k : Nat) : Q14 (Qd.ctx k) (QP (Func.code Tryz.f47) [1, 0, 1, 0, 0]) (.nil) Qd.l0.T [.mask [1, 8, 9, 10], .auto 0] Qd.l0.os (Qd.l0.r k) := by
 intro ρ x kn ke; kernel_rfl
theorem Qd.l0.ok (k : Nat) : StOK 0 Tryz.prog (.loop (QP (Func.code Tryz.f47) [1, 0, 1, 0, 0])) (Qp Qd.l0.T Qd.l0.os (Qd.l0 k k)) :=
 Q16 (C := Qd.ctx k) (Qd.gok k) Tryz.mix Q1.nil (by kernel_rfl) (by kernel_rfl) (by kernel_rfl) (Qd.l0.round k) k
theorem Qd.l1.round (k : Nat) : Q14 (Qd.ctx k) (QP (Func.code Tryz.f47) [1, 1, 0, 1, 0, 0]) (.nil) Qd.l1.T [.mask [1, 20, 21, 22], .auto 0] Qd.l1.os (Qd.l1.r k) := by
 intro ρ x kn ke; kernel_rfl
theorem Qd.l1.ok (k : Nat) : StOK 0 Tryz.prog (.loop (QP (Func.code Tryz.f47) [1, 1, 0, 1, 0, 0])) (Qp Qd.l1.T Qd.l1.os (Qd.l1 k k)) :=
 Q16 (C := Qd.ctx k) (Qd.gok k) Tryz.mix Q1.nil (by kernel_rfl) (by kernel_rfl) (by kernel_rfl) (Qd.l1.round k) k
def Qd.ann (k : Nat) : Ann := .node [] none (.nil) (.node [] none (.node [] none (.nil) (.node [] none (.node [.mask [1, 8, 9, 10], .auto 0] (some (Qp Qd.l0.T Qd.l0.os (Qd.l0 k k))) .nil .nil) (.nil))) (.node [] none (.node [] none (.nil) (.node [] none (.node [.mask [1, 20, 21, 22], .auto 0] (some (Qp Qd.l1.T Qd.l1.os (Qd.l1 k k))) .nil .nil) (.nil))) (.nil)))
theorem Qd.body (k : Nat) : Q0W (Qd.ctx k) Tryz.f47 (Func.code Tryz.f47) (Qd.ann k) Qd.tin Qd.tout (fun x K => Qd.c k x.1 K) := by
 intro ρ x K; kernel_rfl
theorem Qd.sem_ok (k : Nat) : QI Tryz.prog 47 (Qd.sem k) :=
 QG (C := Qd.ctx k) (Qd.gok k) Tryz.mix (c := Func.code Tryz.f47) (ann := Qd.ann k) (tin := Qd.tin) (tout := Qd.tout) (fun x K => Qd.c k x.1 K) Tryz.func47 (by kernel_rfl) (by kernel_rfl) (Q1.seq Q1.nil (Q1.seq (Q1.seq Q1.nil (Q1.block (Q1.loop (by kernel_rfl) (Qd.l0.ok k)))) (Q1.seq (Q1.seq Q1.nil (Q1.block (Q1.loop (by kernel_rfl) (Qd.l1.ok k)))) Q1.nil))) (Qd.body k)
end Go.Am
namespace Go.Am
open Go Go.Proofs
set_option maxRecDepth 100000
def Q1D.c (k : Nat) {ρ : Type} (n : Int) (K : (List Int) × Unit → Option ρ) : Option ρ :=
 let v0 : (List Int) := (List.set (List.replicate 4 (0 : Int)) 0 n)
 K (v0, ())
def Q1D (k : Nat) (n : Int) : Option Qhb := Q1D.c k n some
def Q1D.tin : List Ty := [(.int .u64)]
def Q1D.tout : List Ty := [Qha]
def Q1D.sem (k : Nat) : QT := Q00 Q1D.tin Q1D.tout fun x => Q1D k x.1
noncomputable def Q1D.ctx (k : Nat) : Ctx := ⟨Tryz.prog, gam []⟩
theorem Q1D.gok (k : Nat) : ∀ f, QI Tryz.prog f ((Q1D.ctx k).Γ f) := Q01
def Q1D.ann (k : Nat) : Ann := .nil
theorem Q1D.body (k : Nat) : Q0W (Q1D.ctx k) Tryz.f118 (Func.code Tryz.f118) (Q1D.ann k) Q1D.tin Q1D.tout (fun x K => Q1D.c k x.1 K) := by
 intro ρ x K; kernel_rfl
theorem Q1D.sem_ok (k : Nat) : QI Tryz.prog 118 (Q1D.sem k) :=
 QG (C := Q1D.ctx k) (Q1D.gok k) Tryz.mix (c := Func.code Tryz.f118) (ann := Q1D.ann k) (tin := Q1D.tin) (tout := Q1D.tout) (fun x K => Q1D.c k x.1 K) Tryz.func118 (by kernel_rfl) (by kernel_rfl) Q1.nil (Q1D.body k)
def Q1Y (k : Nat) (a0 : (List Int)) (a1 : Int) : Option Qhb := none
def Q1Y.tin : List Ty := [Qha, (.int .i64)]
def Q1Y.tout : List Ty := [Qha]
def Q1Y.sem (k : Nat) : QT := Q00 Q1Y.tin Q1Y.tout fun x => Q1Y k x.1 x.2.1
theorem Q1Y.sem_ok (k : Nat) : QI Tryz.prog 128 (Q1Y.sem k) := QbV fun _ => rfl
def Q1r.c (k : Nat) {ρ : Type} (a : (List Int)) (K : Bool × Unit → Option ρ) : Option ρ :=
 let v0 : (List Int) := (List.replicate 4 (0 : Int))
 K ((decide (a = v0)), ())
def Q1r (k : Nat) (a : (List Int)) : Option (Bool × Unit) := Q1r.c k a some
def Q1r.tin : List Ty := [Qha]
def Q1r.tout : List Ty := [.bool]
def Q1r.sem (k : Nat) : QT := Q00 Q1r.tin Q1r.tout fun x => Q1r k x.1
noncomputable def Q1r.ctx (k : Nat) : Ctx := ⟨Tryz.prog, gam []⟩
theorem Q1r.gok (k : Nat) : ∀ f, QI Tryz.prog f ((Q1r.ctx k).Γ f) := Q01
def Q1r.ann (k : Nat) : Ann := .nil
theorem Q1r.body (k : Nat) : Q0W (Q1r.ctx k) Tryz.f103 (Func.code Tryz.f103) (Q1r.ann k) Q1r.tin Q1r.tout (fun x K => Q1r.c k x.1 K) := by
 intro ρ x K; kernel_rfl
theorem Q1r.sem_ok (k : Nat) : QI Tryz.prog 103 (Q1r.sem k) :=
 QG (C := Q1r.ctx k) (Q1r.gok k) Tryz.mix (c := Func.code Tryz.f103) (ann := Q1r.ann k) (tin := Q1r.tin) (tout := Q1r.tout) (fun x K => Q1r.c k x.1 K) Tryz.func103 (by kernel_rfl) (by kernel_rfl) Q1.nil (Q1r.body k)
abbrev Qn.p0.σ : Type := Int × Int × Unit
abbrev Qn.p0.τ : Type := (Int × Int × Unit)
def Qn.p0.r (k : Nat) {ρ : Type} (x : Qn.p0.σ) (K : Qn.p0.τ → Option ρ) : Option ρ :=
 bif (decide (x.1 ≥ (4294967296 : Int))) then (let v0 : Int := (Q2c IntKind.u64 x.1 (32 : Int))
 K (v0, ((32 : Int), ()))) else (K (x.1, (x.2.1, ())))
def Qn.p0 (k : Nat) (x : Qn.p0.σ) : Option Qn.p0.τ := Qn.p0.r k x some
def Qn.p0.T : StT := ⟨.dat (.int .u64) :: us 1 ++ .dat (.int .i64) :: us 22, []⟩
def Qn.p0.os : List Out := [⟨.normal, [.mask [0, 2], .auto 0], ⟨.dat (.int .u64) :: us 1 ++ .dat (.int .i64) :: us 22, []⟩⟩]
abbrev Qn.p1.σ : Type := Int × Int × Unit
abbrev Qn.p1.τ : Type := (Int × Int × Unit)
def Qn.p1.r (k : Nat) {ρ : Type} (x : Qn.p1.σ) (K : Qn.p1.τ → Option ρ) : Option ρ :=
 bif (decide (x.1 ≥ (65536 : Int))) then (let v2 : Int := (Q2c IntKind.u64 x.1 (16 : Int))
 let v3 : Int := (IntKind.wrap IntKind.i64 (x.2.1 + (16 : Int)))
 K (v2, (v3, ()))) else (K (x.1, (x.2.1, ())))
def Qn.p1 (k : Nat) (x : Qn.p1.σ) : Option Qn.p1.τ := Qn.p1.r k x some
def Qn.p1.T : StT := ⟨.dat (.int .u64) :: us 1 ++ .dat (.int .i64) :: us 22, []⟩
def Qn.p1.os : List Out := [⟨.normal, [.mask [0, 2], .auto 0], ⟨.dat (.int .u64) :: us 1 ++ .dat (.int .i64) :: us 22, []⟩⟩]
def Qn.c (k : Nat) {ρ : Type} (x_0 : Int) (K : Int × Unit → Option ρ) : Option ρ :=
 (Qn.p0 k (x_0, ((0 : Int), ()))).bind fun t1 => (Qn.p1 k (t1.1, (t1.2.1, ()))).bind fun t4 => bif (decide (t4.1 ≥ (256 : Int))) then (let v5 : Int := (Q2c IntKind.u64 t4.1 (8 : Int))
 let v6 : Int := (IntKind.wrap IntKind.i64 (t4.2.1 + (8 : Int)))
 bif (decide (((0 : Int) ≤ (IntKind.wrap IntKind.u8 v5)) ∧ ((IntKind.wrap IntKind.u8 v5) < ((256 : Nat) : Int)))) then (let v7 : Int := (Q1v (⟨(List.toArray (List.append (List.append [0, 1, 2, 2, 3, 3, 3, 3, 4, 4, 4, 4, 4, 4, 4, 4, 5, 5, 5, 5, 5, 5, 5, 5, 5, 5, 5, 5, 5, 5, 5, 5, 6, 6, 6, 6, 6, 6, 6, 6, 6, 6, 6, 6, 6, 6, 6, 6, 6, 6, 6, 6, 6, 6, 6, 6, 6, 6, 6, 6, 6, 6, 6, 6] [7, 7, 7, 7, 7, 7, 7, 7, 7, 7, 7, 7, 7, 7, 7, 7, 7, 7, 7, 7, 7, 7, 7, 7, 7, 7, 7, 7, 7, 7, 7, 7, 7, 7, 7, 7, 7, 7, 7, 7, 7, 7, 7, 7, 7, 7, 7, 7, 7, 7, 7, 7, 7, 7, 7, 7, 7, 7, 7, 7, 7, 7, 7, 7]) (List.append [8, 8, 8, 8, 8, 8, 8, 8, 8, 8, 8, 8, 8, 8, 8, 8, 8, 8, 8, 8, 8, 8, 8, 8, 8, 8, 8, 8, 8, 8, 8, 8, 8, 8, 8, 8, 8, 8, 8, 8, 8, 8, 8, 8, 8, 8, 8, 8, 8, 8, 8, 8, 8, 8, 8, 8, 8, 8, 8, 8, 8, 8, 8, 8] [8, 8, 8, 8, 8, 8, 8, 8, 8, 8, 8, 8, 8, 8, 8, 8, 8, 8, 8, 8, 8, 8, 8, 8, 8, 8, 8, 8, 8, 8, 8, 8, 8, 8, 8, 8, 8, 8, 8, 8, 8, 8, 8, 8, 8, 8, 8, 8, 8, 8, 8, 8, 8, 8, 8, 8, 8, 8, 8, 8, 8, 8, 8, 8])))⟩ : ByteArray) (Int.toNat (IntKind.wrap IntKind.u8 v5)))
 let v8 : Int := (IntKind.wrap IntKind.i64 (v6 + (IntKind.wrap IntKind.i64 v7)))
 K (v8, ())) else (none)) else (let v9 : Int := (IntKind.wrap IntKind.u8 t4.1)
 bif (decide (((0 : Int) ≤ v9) ∧ (v9 < ((256 : Nat) : Int)))) then (let v10 : Int := (Q1v (⟨(List.toArray (List.append (List.append [0, 1, 2, 2, 3, 3, 3, 3, 4, 4, 4, 4, 4, 4, 4, 4, 5, 5, 5, 5, 5, 5, 5, 5, 5, 5, 5, 5, 5, 5, 5, 5, 6, 6, 6, 6, 6, 6, 6, 6, 6, 6, 6, 6, 6, 6, 6, 6, 6, 6, 6, 6, 6, 6, 6, 6, 6, 6, 6, 6, 6, 6, 6, 6] [7, 7, 7, 7, 7, 7, 7, 7, 7, 7, 7, 7, 7, 7, 7, 7, 7, 7, 7, 7, 7, 7, 7, 7, 7, 7, 7, 7, 7, 7, 7, 7, 7, 7, 7, 7, 7, 7, 7, 7, 7, 7, 7, 7, 7, 7, 7, 7, 7, 7, 7, 7, 7, 7, 7, 7, 7, 7, 7, 7, 7, 7, 7, 7]) (List.append [8, 8, 8, 8, 8, 8, 8, 8, 8, 8, 8, 8, 8, 8, 8, 8, 8, 8, 8, 8, 8, 8, 8, 8, 8, 8, 8, 8, 8, 8, 8, 8, 8, 8, 8, 8, 8, 8, 8, 8, 8, 8, 8, 8, 8, 8, 8, 8, 8, 8, 8, 8, 8, 8, 8, 8, 8, 8, 8, 8, 8, 8, 8, 8] [8, 8, 8, 8, 8, 8, 8, 8, 8, 8, 8, 8, 8, 8, 8, 8, 8, 8, 8, 8, 8, 8, 8, 8, 8, 8, 8, 8, 8, 8, 8, 8, 8, 8, 8, 8, 8, 8, 8, 8, 8, 8, 8, 8, 8, 8, 8, 8, 8, 8, 8, 8, 8, 8, 8, 8, 8, 8, 8, 8, 8, 8, 8, 8])))⟩ : ByteArray) (Int.toNat v9))
 let v11 : Int := (IntKind.wrap IntKind.i64 (t4.2.1 + (IntKind.wrap IntKind.i64 v10)))
 K (v11, ())) else (none))
def Qn (k : Nat) (x_0 : Int) : Option (Int × Unit) := Qn.c k x_0 some
def Qn.tin : List Ty := [(.int .u64)]
def Qn.tout : List Ty := [(.int .i64)]
def Qn.sem (k : Nat) : QT := Q00 Qn.tin Qn.tout fun x => Qn k x.1
noncomputable def Qn.ctx (k : Nat) : Ctx := ⟨Tryz.prog, gam []⟩
theorem Qn.gok (k : Nat) : ∀ f, QI Tryz.prog f ((Qn.ctx k).Γ f) := Q01
theorem Qn.p0.is (k : Nat) : Q22 (Qn.ctx k) (QP (Func.code Tryz.f130) [1, 0]) (.nil) Qn.p0.T Qn.p0.os (Qn.p0.r k) := by
 intro ρ x K; kernel_rfl
theorem Qn.p0.ok (k : Nat) : StOK 0 Tryz.prog (QP (Func.code Tryz.f130) [1, 0]) (Qp Qn.p0.T Qn.p0.os (Qn.p0 k)) :=
 Q1X (C := Qn.ctx k) (T := Qn.p0.T) (os := Qn.p0.os) (Qn.gok k) Tryz.mix (fun x K => Qn.p0.r k x K) Q1.nil (by kernel_rfl) (by kernel_rfl) (Qn.p0.is k)
theorem Qn.p1.is (k : Nat) : Q22 (Qn.ctx k) (QP (Func.code Tryz.f130) [1, 1, 0]) (.nil) Qn.p1.T Qn.p1.os (Qn.p1.r k) := by
 intro ρ x K; kernel_rfl
theorem Qn.p1.ok (k : Nat) : StOK 0 Tryz.prog (QP (Func.code Tryz.f130) [1, 1, 0]) (Qp Qn.p1.T Qn.p1.os (Qn.p1 k)) :=
 Q1X (C := Qn.ctx k) (T := Qn.p1.T) (os := Qn.p1.os) (Qn.gok k) Tryz.mix (fun x K => Qn.p1.r k x K) Q1.nil (by kernel_rfl) (by kernel_rfl) (Qn.p1.is k)
def Qn.ann (k : Nat) : Ann := .node [] none (.nil) (.node [] none (.node [] (some (Qp Qn.p0.T Qn.p0.os (Qn.p0 k))) .nil .nil) (.node [] none (.node [] (some (Qp Qn.p1.T Qn.p1.os (Qn.p1 k))) .nil .nil) (.nil)))
theorem Qn.body (k : Nat) : Q0W (Qn.ctx k) Tryz.f130 (Func.code Tryz.f130) (Qn.ann k) Qn.tin Qn.tout (fun x K => Qn.c k x.1 K) := by
 intro ρ x K; kernel_rfl
theorem Qn.sem_ok (k : Nat) : QI Tryz.prog 130 (Qn.sem k) :=
 QG (C := Qn.ctx k) (Qn.gok k) Tryz.mix (c := Func.code Tryz.f130) (ann := Qn.ann k) (tin := Qn.tin) (tout := Qn.tout) (fun x K => Qn.c k x.1 K) Tryz.func130 (by kernel_rfl) (by kernel_rfl) (Q1.seq Q1.nil (Q1.seq (Q1.loop (by kernel_rfl) (Qn.p0.ok k)) (Q1.seq (Q1.loop (by kernel_rfl) (Qn.p1.ok k)) Q1.nil))) (Qn.body k)
abbrev Q0T.l0.σ : Type := Int × (List Int) × Unit
abbrev Q0T.l0.τ : Type := (Int × Unit) ⊕ (Unit)
def Q0T.l0.r (k : Nat) {ρ : Type} (x : Q0T.l0.σ) (kn : Q0T.l0.σ → Option ρ) (ke : Q0T.l0.τ → Option ρ) : Option ρ :=
 bif (decide (x.1 ≥ (0 : Int))) then (bif (decide (((0 : Int) ≤ x.1) ∧ (x.1 < ((4 : Nat) : Int)))) then (let v0 : Int := (List.getD x.2.1 (Int.toNat x.1) (0 : Int))
 bif (v0 != (0 : Int)) then (let v1 : Int := (IntKind.wrap IntKind.i64 (x.1 * (64 : Int)))
 bif (decide (((0 : Int) ≤ x.1) ∧ (x.1 < ((4 : Nat) : Int)))) then (let v2 : Int := (List.getD x.2.1 (Int.toNat x.1) (0 : Int))
 (Qn k v2).bind fun t3 => let v4 : Int := (IntKind.wrap IntKind.i64 (v1 + t3.1))
 ke (.inl (v4, ()))) else (none)) else (let v5 : Int := (IntKind.wrap IntKind.i64 (x.1 - (1 : Int)))
 kn (v5, (x.2.1, ())))) else (none)) else (ke (.inr ()))
def Q0T.l0 (k : Nat) : Nat → Q0T.l0.σ → Option Q0T.l0.τ := Q15 (Q0T.l0.r k)
def Q0T.l0.T : StT := ⟨us 1 ++ .ptr 0 [] :: us 1 ++ .dat (.int .i64) :: us 15, [.dat Qha]⟩
def Q0T.l0.os : List Out := [⟨.ret, [.mask [2], .auto 0], ⟨us 2 ++ .dat (.int .i64) :: us 16, []⟩⟩, ⟨(.exit 0), [.mask [], .auto 0], ⟨us 19, []⟩⟩]
def Q0T.c (k : Nat) {ρ : Type} (a : (List Int)) (K : Int × Unit → Option ρ) : Option ρ :=
 (Q0T.l0 k k ((3 : Int), (a, ()))).bind fun t6 => (match t6 with | .inl t7 => (K (t7.1, ())) | .inr (t8) => (K ((0 : Int), ())))
def Q0T (k : Nat) (a : (List Int)) : Option (Int × Unit) := Q0T.c k a some
def Q0T.tin : List Ty := [Qha]
def Q0T.tout : List Ty := [(.int .i64)]
def Q0T.sem (k : Nat) : QT := Q00 Q0T.tin Q0T.tout fun x => Q0T k x.1
noncomputable def Q0T.ctx (k : Nat) : Ctx := ⟨Tryz.prog, gam [(130, (Qn.sem k))]⟩
theorem Q0T.gok (k : Nat) : ∀ f, QI Tryz.prog f ((Q0T.ctx k).Γ f) := (Ql (Qn.sem_ok k) Q01)
theorem Q0T.l0.round (k : Nat) : Q14 (Q0T.ctx k) (QP (Func.code Tryz.f120) [1, 0, 1, 0, 0]) (.nil) Q0T.l0.T [.mask [1, 3], .auto 0] Q0T.l0.os (Q0T.l0.r k) := by
 intro ρ x kn ke; kernel_rfl
theorem Q0T.l0.ok (k : Nat) : StOK 0 Tryz.prog (.loop (QP (Func.code Tryz.f120) [1, 0, 1, 0, 0])) (Qp Q0T.l0.T Q0T.l0.os (Q0T.l0 k k)) :=
 Q16 (C := Q0T.ctx k) (Q0T.gok k) Tryz.mix Q1.nil (by kernel_rfl) (by kernel_rfl) (by kernel_rfl) (Q0T.l0.round k) k
def Q0T.ann (k : Nat) : Ann := .node [] none (.nil) (.node [] none (.node [] none (.nil) (.node [] none (.node [.mask [1, 3], .auto 0] (some (Qp Q0T.l0.T Q0T.l0.os (Q0T.l0 k k))) .nil .nil) (.nil))) (.nil))
theorem Q0T.body (k : Nat) : Q0W (Q0T.ctx k) Tryz.f120 (Func.code Tryz.f120) (Q0T.ann k) Q0T.tin Q0T.tout (fun x K => Q0T.c k x.1 K) := by
 intro ρ x K; kernel_rfl
theorem Q0T.sem_ok (k : Nat) : QI Tryz.prog 120 (Q0T.sem k) :=
 QG (C := Q0T.ctx k) (Q0T.gok k) Tryz.mix (c := Func.code Tryz.f120) (ann := Q0T.ann k) (tin := Q0T.tin) (tout := Q0T.tout) (fun x K => Q0T.c k x.1 K) Tryz.func120 (by kernel_rfl) (by kernel_rfl) (Q1.seq Q1.nil (Q1.seq (Q1.seq Q1.nil (Q1.block (Q1.loop (by kernel_rfl) (Q0T.l0.ok k)))) Q1.nil)) (Q0T.body k)
abbrev Q0S.l0.σ : Type := Int × Int × (List Int) × (List Int) × (List Int) × Unit
abbrev Q0S.l0.τ : Type := (Int × (List Int) × (List Int) × (List Int) × Unit)
def Q0S.l0.r (k : Nat) {ρ : Type} (x : Q0S.l0.σ) (kn : Q0S.l0.σ → Option ρ) (ke : Q0S.l0.τ → Option ρ) : Option ρ :=
 let v5 : Int := (IntKind.wrap IntKind.i64 (Int.tdiv x.1 (64 : Int)))
 bif (decide (x.2.1 ≥ v5)) then (let v6 : Int := (IntKind.wrap IntKind.i64 (Int.tdiv x.1 (64 : Int)))
 let v7 : Int := (IntKind.wrap IntKind.i64 (x.2.1 - v6))
 bif (decide (((0 : Int) ≤ v7) ∧ (v7 < ((4 : Nat) : Int)))) then (let v8 : Int := (List.getD x.2.2.1 (Int.toNat v7) (0 : Int))
 let v9 : Int := (Int.tmod x.1 (64 : Int))
 bif (decide ((0 : Int) ≤ v9)) then (bif (decide (((0 : Int) ≤ x.2.1) ∧ (x.2.1 < ((4 : Nat) : Int)))) then (bif (decide (v7 > (0 : Int))) then (bif (decide (((0 : Int) ≤ x.2.1) ∧ (x.2.1 < ((4 : Nat) : Int)))) then (let v10 : Int := (List.getD (List.set x.2.2.2.2.1 (Int.toNat x.2.1) (Q2w IntKind.u64 v8 v9)) (Int.toNat x.2.1) (0 : Int))
 let v11 : Int := (IntKind.wrap IntKind.i64 (v7 - (1 : Int)))
 bif (decide (((0 : Int) ≤ v11) ∧ (v11 < ((4 : Nat) : Int)))) then (let v12 : Int := (List.getD x.2.2.1 (Int.toNat v11) (0 : Int))
 let v13 : Int := (Int.tmod x.1 (64 : Int))
 let v14 : Int := (IntKind.wrap IntKind.i64 ((64 : Int) - v13))
 bif (decide ((0 : Int) ≤ v14)) then (let v15 : Int := (Q12 BinOp.or IntKind.u64 v10 (Q2c IntKind.u64 v12 v14))
 bif (decide (((0 : Int) ≤ x.2.1) ∧ (x.2.1 < ((4 : Nat) : Int)))) then (let v16 : Int := (IntKind.wrap IntKind.i64 (x.2.1 - (1 : Int)))
 kn (x.1, (v16, (x.2.2.1, (x.2.2.2.1, ((List.set (List.set x.2.2.2.2.1 (Int.toNat x.2.1) (Q2w IntKind.u64 v8 v9)) (Int.toNat x.2.1) v15), ())))))) else (none)) else (none)) else (none)) else (none)) else (let v17 : Int := (IntKind.wrap IntKind.i64 (x.2.1 - (1 : Int)))
 kn (x.1, (v17, (x.2.2.1, (x.2.2.2.1, ((List.set x.2.2.2.2.1 (Int.toNat x.2.1) (Q2w IntKind.u64 v8 v9)), ()))))))) else (none)) else (none)) else (none)) else (ke (x.1, (x.2.2.1, (x.2.2.2.1, (x.2.2.2.2.1, ())))))
def Q0S.l0 (k : Nat) : Nat → Q0S.l0.σ → Option Q0S.l0.τ := Q15 (Q0S.l0.r k)
def Q0S.l0.T : StT := ⟨us 1 ++ .dat (.int .i64) :: .ptr 0 [] :: us 1 ++ .ptr 1 [] :: us 1 ++ .ptr 2 [] :: .dat (.int .i64) :: us 55, [.dat Qha, .dat Qha, .dat Qha]⟩
def Q0S.l0.os : List Out := [⟨(.exit 1), [.mask [1, 2, 4, 6], .auto 0], ⟨us 1 ++ .dat (.int .i64) :: .ptr 0 [] :: us 1 ++ .ptr 1 [] :: us 1 ++ .ptr 2 [] :: us 56, [.dat Qha, .dat Qha, .dat Qha]⟩⟩]
def Q0S.c (k : Nat) {ρ : Type} (a : (List Int)) (n : Int) (K : (List Int) × Bool × Unit → Option ρ) : Option ρ :=
 bif (decide (n < (0 : Int))) then (let v0 : Int := (if ((-(256 : Int)) > n) then (-(256 : Int)) else n)
 let v1 : Int := (IntKind.wrap IntKind.i64 ((0 : Int) - v0))
 (Q1Y k a v1).bind fun t2 => K (t2.1, (false, ()))) else (bif (decide (n ≥ (256 : Int))) then (let v3 : (List Int) := (List.replicate 4 (0 : Int))
 (Q1r k a).bind fun t4 => K (v3, ((!t4.1), ()))) else ((Q0S.l0 k k (n, ((3 : Int), (a, ((List.replicate 4 (0 : Int)), ((List.replicate 4 (0 : Int)), ())))))).bind fun t18 => let v19 : (List Int) := t18.2.2.2.1
 let v20 : (List Int) := t18.2.1
 (Q0T k v20).bind fun t21 => let v22 : Int := (IntKind.wrap IntKind.i64 (t21.1 + t18.1))
 K (v19, ((decide (v22 > (256 : Int))), ()))))
def Q0S (k : Nat) (a : (List Int)) (n : Int) : Option ((List Int) × Bool × Unit) := Q0S.c k a n some
def Q0S.tin : List Ty := [Qha, (.int .i64)]
def Q0S.tout : List Ty := [Qha, .bool]
def Q0S.sem (k : Nat) : QT := Q00 Q0S.tin Q0S.tout fun x => Q0S k x.1 x.2.1
noncomputable def Q0S.ctx (k : Nat) : Ctx := ⟨Tryz.prog, gam [(128, (Q1Y.sem k)), (103, (Q1r.sem k)), (120, (Q0T.sem k))]⟩
theorem Q0S.gok (k : Nat) : ∀ f, QI Tryz.prog f ((Q0S.ctx k).Γ f) := (Ql (Q1Y.sem_ok k) (Ql (Q1r.sem_ok k) (Ql (Q0T.sem_ok k) Q01)))
theorem Q0S.l0.round (k : Nat) : Q14 (Q0S.ctx k) (QP (Func.code Tryz.f129) [1, 1, 1, 0, 1, 0, 0]) (.nil) Q0S.l0.T [.mask [1, 2, 4, 6, 7], .auto 0] Q0S.l0.os (Q0S.l0.r k) := by
 intro ρ x kn ke; kernel_rfl
theorem Q0S.l0.ok (k : Nat) : StOK 0 Tryz.prog (.loop (QP (Func.code Tryz.f129) [1, 1, 1, 0, 1, 0, 0])) (Qp Q0S.l0.T Q0S.l0.os (Q0S.l0 k k)) :=
 Q16 (C := Q0S.ctx k) (Q0S.gok k) Tryz.mix Q1.nil (by kernel_rfl) (by kernel_rfl) (by kernel_rfl) (Q0S.l0.round k) k
def Q0S.ann (k : Nat) : Ann := .node [] none (.nil) (.node [] none (.nil) (.node [] none (.nil) (.node [] none (.node [] none (.nil) (.node [] none (.node [.mask [1, 2, 4, 6, 7], .auto 0] (some (Qp Q0S.l0.T Q0S.l0.os (Q0S.l0 k k))) .nil .nil) (.nil))) (.nil))))
theorem Q0S.body (k : Nat) : Q0W (Q0S.ctx k) Tryz.f129 (Func.code Tryz.f129) (Q0S.ann k) Q0S.tin Q0S.tout (fun x K => Q0S.c k x.1 x.2.1 K) := by
 intro ρ x K; kernel_rfl
theorem Q0S.sem_ok (k : Nat) : QI Tryz.prog 129 (Q0S.sem k) :=
 QG (C := Q0S.ctx k) (Q0S.gok k) Tryz.mix (c := Func.code Tryz.f129) (ann := Q0S.ann k) (tin := Q0S.tin) (tout := Q0S.tout) (fun x K => Q0S.c k x.1 x.2.1 K) Tryz.func129 (by kernel_rfl) (by kernel_rfl) (Q1.seq Q1.nil (Q1.seq Q1.nil (Q1.seq Q1.nil (Q1.seq (Q1.seq Q1.nil (Q1.block (Q1.loop (by kernel_rfl) (Q0S.l0.ok k)))) Q1.nil)))) (Q0S.body k)
abbrev Q0J.l0.σ : Type := Int × Int × (List Int) × (List Int) × (List Int) × Unit
abbrev Q0J.l0.τ : Type := Qh7 
def Q0J.l0.r (k : Nat) {ρ : Type} (x : Q0J.l0.σ) (kn : Q0J.l0.σ → Option ρ) (ke : Q0J.l0.τ → Option ρ) : Option ρ :=
 let v5 : Int := (IntKind.wrap IntKind.i64 (Int.tdiv x.1 (64 : Int)))
 let v6 : Int := (IntKind.wrap IntKind.i64 (x.2.1 + v5))
 bif (decide (v6 < (4 : Int))) then (let v7 : Int := (IntKind.wrap IntKind.i64 (Int.tdiv x.1 (64 : Int)))
 let v8 : Int := (IntKind.wrap IntKind.i64 (x.2.1 + v7))
 bif (decide (((0 : Int) ≤ v8) ∧ (v8 < ((4 : Nat) : Int)))) then (let v9 : Int := (List.getD x.2.2.1 (Int.toNat v8) (0 : Int))
 let v10 : Int := (Int.tmod x.1 (64 : Int))
 bif (decide ((0 : Int) ≤ v10)) then (bif (decide (((0 : Int) ≤ x.2.1) ∧ (x.2.1 < ((4 : Nat) : Int)))) then (let v11 : Int := (IntKind.wrap IntKind.i64 (v8 + (1 : Int)))
 bif (decide (v11 < (4 : Int))) then (bif (decide (((0 : Int) ≤ x.2.1) ∧ (x.2.1 < ((4 : Nat) : Int)))) then (let v12 : Int := (List.getD (List.set x.2.2.2.2.1 (Int.toNat x.2.1) (Q2c IntKind.u64 v9 v10)) (Int.toNat x.2.1) (0 : Int))
 let v13 : Int := (IntKind.wrap IntKind.i64 (v8 + (1 : Int)))
 bif (decide (((0 : Int) ≤ v13) ∧ (v13 < ((4 : Nat) : Int)))) then (let v14 : Int := (List.getD x.2.2.1 (Int.toNat v13) (0 : Int))
 let v15 : Int := (Int.tmod x.1 (64 : Int))
 let v16 : Int := (IntKind.wrap IntKind.i64 ((64 : Int) - v15))
 bif (decide ((0 : Int) ≤ v16)) then (let v17 : Int := (Q12 BinOp.or IntKind.u64 v12 (Q2w IntKind.u64 v14 v16))
 bif (decide (((0 : Int) ≤ x.2.1) ∧ (x.2.1 < ((4 : Nat) : Int)))) then (let v18 : Int := (IntKind.wrap IntKind.i64 (x.2.1 + (1 : Int)))
 kn (x.1, (v18, (x.2.2.1, (x.2.2.2.1, ((List.set (List.set x.2.2.2.2.1 (Int.toNat x.2.1) (Q2c IntKind.u64 v9 v10)) (Int.toNat x.2.1) v17), ())))))) else (none)) else (none)) else (none)) else (none)) else (let v19 : Int := (IntKind.wrap IntKind.i64 (x.2.1 + (1 : Int)))
 kn (x.1, (v19, (x.2.2.1, (x.2.2.2.1, ((List.set x.2.2.2.2.1 (Int.toNat x.2.1) (Q2c IntKind.u64 v9 v10)), ()))))))) else (none)) else (none)) else (none)) else (ke (x.2.2.2.1, (x.2.2.2.2.1, ())))
def Q0J.l0 (k : Nat) : Nat → Q0J.l0.σ → Option Q0J.l0.τ := Q15 (Q0J.l0.r k)
def Q0J.l0.T : StT := ⟨us 1 ++ .dat (.int .i64) :: .ptr 0 [] :: us 1 ++ .ptr 1 [] :: us 2 ++ .ptr 2 [] :: .dat (.int .i64) :: us 53, [.dat Qha, .dat Qha, .dat Qha]⟩
def Q0J.l0.os : List Out := [⟨(.exit 1), [.mask [4, 7], .auto 0], ⟨us 4 ++ .ptr 0 [] :: us 2 ++ .ptr 1 [] :: us 54, [.dat Qha, .dat Qha]⟩⟩]
def Q0J.c (k : Nat) {ρ : Type} (a : (List Int)) (n : Int) (K : (List Int) × Unit → Option ρ) : Option ρ :=
 bif (decide (n < (0 : Int))) then (let v0 : Int := (if ((-(256 : Int)) > n) then (-(256 : Int)) else n)
 let v1 : Int := (IntKind.wrap IntKind.i64 ((0 : Int) - v0))
 (Q0S k a v1).bind fun t2 => let v3 : (List Int) := t2.1
 K (v3, ())) else (bif (decide (n ≥ (256 : Int))) then (let v4 : (List Int) := (List.replicate 4 (0 : Int))
 K (v4, ())) else ((Q0J.l0 k k (n, ((0 : Int), (a, ((List.replicate 4 (0 : Int)), ((List.replicate 4 (0 : Int)), ())))))).bind fun t20 => let v21 : (List Int) := t20.2.1
 K (v21, ())))
def Q0J (k : Nat) (a : (List Int)) (n : Int) : Option Qhb := Q0J.c k a n some
def Q0J.tin : List Ty := [Qha, (.int .i64)]
def Q0J.tout : List Ty := [Qha]
def Q0J.sem (k : Nat) : QT := Q00 Q0J.tin Q0J.tout fun x => Q0J k x.1 x.2.1
noncomputable def Q0J.ctx (k : Nat) : Ctx := ⟨Tryz.prog, gam [(129, (Q0S.sem k))]⟩
theorem Q0J.gok (k : Nat) : ∀ f, QI Tryz.prog f ((Q0J.ctx k).Γ f) := (Ql (Q0S.sem_ok k) Q01)
theorem Q0J.l0.round (k : Nat) : Q14 (Q0J.ctx k) (QP (Func.code Tryz.f128) [1, 1, 1, 0, 1, 0, 0]) (.nil) Q0J.l0.T [.mask [1, 2, 4, 7, 8], .auto 0] Q0J.l0.os (Q0J.l0.r k) := by
 intro ρ x kn ke; kernel_rfl
theorem Q0J.l0.ok (k : Nat) : StOK 0 Tryz.prog (.loop (QP (Func.code Tryz.f128) [1, 1, 1, 0, 1, 0, 0])) (Qp Q0J.l0.T Q0J.l0.os (Q0J.l0 k k)) :=
 Q16 (C := Q0J.ctx k) (Q0J.gok k) Tryz.mix Q1.nil (by kernel_rfl) (by kernel_rfl) (by kernel_rfl) (Q0J.l0.round k) k
def Q0J.ann (k : Nat) : Ann := .node [] none (.nil) (.node [] none (.nil) (.node [] none (.nil) (.node [] none (.node [] none (.nil) (.node [] none (.node [.mask [1, 2, 4, 7, 8], .auto 0] (some (Qp Q0J.l0.T Q0J.l0.os (Q0J.l0 k k))) .nil .nil) (.nil))) (.nil))))
theorem Q0J.body (k : Nat) : Q0W (Q0J.ctx k) Tryz.f128 (Func.code Tryz.f128) (Q0J.ann k) Q0J.tin Q0J.tout (fun x K => Q0J.c k x.1 x.2.1 K) := by
 intro ρ x K; kernel_rfl
theorem Q0J.sem_ok (k : Nat) : QI Tryz.prog 128 (Q0J.sem k) :=
 QG (C := Q0J.ctx k) (Q0J.gok k) Tryz.mix (c := Func.code Tryz.f128) (ann := Q0J.ann k) (tin := Q0J.tin) (tout := Q0J.tout) (fun x K => Q0J.c k x.1 x.2.1 K) Tryz.func128 (by kernel_rfl) (by kernel_rfl) (Q1.seq Q1.nil (Q1.seq Q1.nil (Q1.seq Q1.nil (Q1.seq (Q1.seq Q1.nil (Q1.block (Q1.loop (by kernel_rfl) (Q0J.l0.ok k)))) Q1.nil)))) (Q0J.body k)
def Q10.c (k : Nat) {ρ : Type} (w : (List Int)) (bytes : Int) (K : (List Int) × Unit → Option ρ) : Option ρ :=
 bif (decide (bytes < (0 : Int))) then (let v0 : Int := (IntKind.wrap IntKind.i64 ((0 : Int) - bytes))
 let v1 : Int := (IntKind.wrap IntKind.i64 (v0 * (8 : Int)))
 (Q0J k w v1).bind fun t2 => K (t2.1, ())) else (let v3 : Int := (IntKind.wrap IntKind.i64 (bytes * (8 : Int)))
 (Q0S k w v3).bind fun t4 => let v5 : (List Int) := t4.1
 K (v5, ()))
def Q10 (k : Nat) (w : (List Int)) (bytes : Int) : Option Qhb := Q10.c k w bytes some
def Q10.tin : List Ty := [Qha, (.int .i64)]
def Q10.tout : List Ty := [Qha]
def Q10.sem (k : Nat) : QT := Q00 Q10.tin Q10.tout fun x => Q10 k x.1 x.2.1
noncomputable def Q10.ctx (k : Nat) : Ctx := ⟨Tryz.prog, gam [(128, (Q0J.sem k)), (129, (Q0S.sem k))]⟩
theorem Q10.gok (k : Nat) : ∀ f, QI Tryz.prog f ((Q10.ctx k).Γ f) := (Ql (Q0J.sem_ok k) (Ql (Q0S.sem_ok k) Q01))
def Q10.ann (k : Nat) : Ann := .nil
theorem Q10.body (k : Nat) : Q0W (Q10.ctx k) Tryz.f119 (Func.code Tryz.f119) (Q10.ann k) Q10.tin Q10.tout (fun x K => Q10.c k x.1 x.2.1 K) := by
 intro ρ x K; kernel_rfl
theorem Q10.sem_ok (k : Nat) : QI Tryz.prog 119 (Q10.sem k) :=
 QG (C := Q10.ctx k) (Q10.gok k) Tryz.mix (c := Func.code Tryz.f119) (ann := Q10.ann k) (tin := Q10.tin) (tout := Q10.tout) (fun x K => Q10.c k x.1 x.2.1 K) Tryz.func119 (by kernel_rfl) (by kernel_rfl) Q1.nil (Q10.body k)
def Q1o.c (k : Nat) {ρ : Type} (bits : Int) (K : (List Int) × Bool × Unit → Option ρ) : Option ρ :=
 let v0 : Int := (Q2c IntKind.u32 bits (24 : Int))
 let v1 : Int := (Q12 BinOp.and IntKind.u32 bits (8388607 : Int))
 (Q1D k (IntKind.wrap IntKind.u64 v1)).bind fun t2 => bif (decide ((IntKind.wrap IntKind.i64 v0) ≤ (3 : Int))) then (let v3 : (List Int) := t2.1
 let v4 : Int := (IntKind.wrap IntKind.i64 ((IntKind.wrap IntKind.i64 v0) - (3 : Int)))
 (Q10 k v3 v4).bind fun t5 => K (t5.1, (true, ()))) else (let v6 : (List Int) := t2.1
 (Q1r k v6).bind fun t7 => bif t7.1 then (let v8 : (List Int) := t2.1
 K (v8, (true, ()))) else (let v9 : (List Int) := t2.1
 (Q0T k v9).bind fun t10 => let v11 : Int := (IntKind.wrap IntKind.i64 ((IntKind.wrap IntKind.i64 v0) - (3 : Int)))
 let v12 : Int := (IntKind.wrap IntKind.i64 (v11 * (8 : Int)))
 let v13 : Int := (IntKind.wrap IntKind.i64 (t10.1 + v12))
 bif (decide (v13 > (256 : Int))) then (let v14 : (List Int) := (List.replicate 4 (0 : Int))
 K (v14, (false, ()))) else (let v15 : (List Int) := t2.1
 let v16 : Int := (IntKind.wrap IntKind.i64 ((IntKind.wrap IntKind.i64 v0) - (3 : Int)))
 (Q10 k v15 v16).bind fun t17 => K (t17.1, (true, ())))))
def Q1o (k : Nat) (bits : Int) : Option ((List Int) × Bool × Unit) := Q1o.c k bits some
def Q1o.tin : List Ty := [(.int .u32)]
def Q1o.tout : List Ty := [Qha, .bool]
def Q1o.sem (k : Nat) : QT := Q00 Q1o.tin Q1o.tout fun x => Q1o k x.1
noncomputable def Q1o.ctx (k : Nat) : Ctx := ⟨Tryz.prog, gam [(118, (Q1D.sem k)), (119, (Q10.sem k)), (103, (Q1r.sem k)), (120, (Q0T.sem k))]⟩
theorem Q1o.gok (k : Nat) : ∀ f, QI Tryz.prog f ((Q1o.ctx k).Γ f) := (Ql (Q1D.sem_ok k) (Ql (Q10.sem_ok k) (Ql (Q1r.sem_ok k) (Ql (Q0T.sem_ok k) Q01))))
def Q1o.ann (k : Nat) : Ann := .nil
theorem Q1o.body (k : Nat) : Q0W (Q1o.ctx k) Tryz.f102 (Func.code Tryz.f102) (Q1o.ann k) Q1o.tin Q1o.tout (fun x K => Q1o.c k x.1 K) := by
 intro ρ x K; kernel_rfl
theorem Q1o.sem_ok (k : Nat) : QI Tryz.prog 102 (Q1o.sem k) :=
 QG (C := Q1o.ctx k) (Q1o.gok k) Tryz.mix (c := Func.code Tryz.f102) (ann := Q1o.ann k) (tin := Q1o.tin) (tout := Q1o.tout) (fun x K => Q1o.c k x.1 K) Tryz.func102 (by kernel_rfl) (by kernel_rfl) Q1.nil (Q1o.body k)
def Q1h.c (k : Nat) {ρ : Type}  (K : (List Int) × Unit → Option ρ) : Option ρ :=
 (Q1o k (545259519 : Int)).bind fun t0 => let v1 : (List Int) := t0.1
 K (v1, ())
def Q1h (k : Nat)  : Option Qhb := Q1h.c k  some
def Q1h.tin : List Ty := []
def Q1h.tout : List Ty := [Qha]
def Q1h.sem (k : Nat) : QT := Q00 Q1h.tin Q1h.tout fun x => Q1h k 
noncomputable def Q1h.ctx (k : Nat) : Ctx := ⟨Tryz.prog, gam [(102, (Q1o.sem k))]⟩
theorem Q1h.gok (k : Nat) : ∀ f, QI Tryz.prog f ((Q1h.ctx k).Γ f) := (Ql (Q1o.sem_ok k) Q01)
def Q1h.ann (k : Nat) : Ann := .nil
theorem Q1h.body (k : Nat) : Q0W (Q1h.ctx k) Tryz.f104 (Func.code Tryz.f104) (Q1h.ann k) Q1h.tin Q1h.tout (fun x K => Q1h.c k  K) := by
 intro ρ x K; kernel_rfl
theorem Q1h.sem_ok (k : Nat) : QI Tryz.prog 104 (Q1h.sem k) :=
 QG (C := Q1h.ctx k) (Q1h.gok k) Tryz.mix (c := Func.code Tryz.f104) (ann := Q1h.ann k) (tin := Q1h.tin) (tout := Q1h.tout) (fun x K => Q1h.c k  K) Tryz.func104 (by kernel_rfl) (by kernel_rfl) Q1.nil (Q1h.body k)
abbrev Q5.l0.σ : Type := (Nat × Nat) × Int × Int × (List Int) × Unit
abbrev Q5.l0.τ : Type := Qhb 
def Q5.l0.r (k : Nat) {ρ : Type} (x : Q5.l0.σ) (kn : Q5.l0.σ → Option ρ) (ke : Q5.l0.τ → Option ρ) : Option ρ :=
 bif (decide (x.2.1 < x.2.2.1)) then (bif (decide (((0 : Int) ≤ x.2.2.1) ∧ (x.2.2.1 < ((x.1.2 : Nat) : Int)))) then (let v1 : Int := (List.getD x.2.2.2.1 (x.1.1 + (Int.toNat x.2.2.1)) (0 : Int))
 bif (decide (((0 : Int) ≤ x.2.1) ∧ (x.2.1 < ((x.1.2 : Nat) : Int)))) then (let v2 : Int := (List.getD x.2.2.2.1 (x.1.1 + (Int.toNat x.2.1)) (0 : Int))
 bif (decide (((0 : Int) ≤ x.2.1) ∧ (x.2.1 < ((x.1.2 : Nat) : Int)))) then (bif (decide (((0 : Int) ≤ x.2.2.1) ∧ (x.2.2.1 < ((x.1.2 : Nat) : Int)))) then (let v3 : Int := (IntKind.wrap IntKind.i64 (x.2.1 + (1 : Int)))
 let v4 : Int := (IntKind.wrap IntKind.i64 (x.2.2.1 - (1 : Int)))
 kn ((x.1.1, x.1.2), (v3, (v4, ((List.set (List.set x.2.2.2.1 (x.1.1 + (Int.toNat x.2.1)) v1) (x.1.1 + (Int.toNat x.2.2.1)) v2), ()))))) else (none)) else (none)) else (none)) else (none)) else (ke (x.2.2.2.1, ()))
def Q5.l0 (k : Nat) : Nat → Q5.l0.σ → Option Q5.l0.τ := Q15 (Q5.l0.r k)
def Q5.l0.T : StT := ⟨.slr 0 [] :: us 1 ++ .dat (.int .i64) :: .dat (.int .i64) :: us 24, [.dat Qha]⟩
def Q5.l0.os : List Out := [⟨(.exit 0), [.mask [], .auto 1], ⟨us 28, [.dat Qha]⟩⟩]
abbrev Q5.τ : Type := Qhb 
def Q5.c (k : Nat) {ρ : Type} (s : (Nat × Nat)) (b0 : (List Int)) (K : Q5.τ → Option ρ) : Option ρ :=
 let v0 : Int := (IntKind.wrap IntKind.i64 (((s.2 : Nat) : Int) - (1 : Int)))
 (Q5.l0 k k ((s.1, s.2), ((0 : Int), (v0, (b0, ()))))).bind fun t5 => K (t5.1, ())
def Q5 (k : Nat) (s : (Nat × Nat)) (b0 : (List Int)) : Option Q5.τ := Q5.c k s b0 some
def Q5.T : Q27 := ⟨[.slr 0 []], [.dat Qha], 1⟩
def Q5.os : List Out := [⟨.ret, [.auto 1], ⟨[], [.dat Qha]⟩⟩]
def Q5.sem (k : Nat) : QT := Q2j Q5.T Q5.os fun x => Q5 k x.1 x.2.1
noncomputable def Q5.ctx (k : Nat) : Ctx := ⟨Tryz.prog, gam []⟩
theorem Q5.gok (k : Nat) : ∀ f, QI Tryz.prog f ((Q5.ctx k).Γ f) := Q01
theorem Q5.l0.round (k : Nat) : Q14 (Q5.ctx k) (QP (Func.code Tryz.f105) [1, 0, 0]) (.nil) Q5.l0.T [.mask [0, 2, 3], .auto 1] Q5.l0.os (Q5.l0.r k) := by
 intro ρ x kn ke; kernel_rfl
theorem Q5.l0.ok (k : Nat) : StOK 1 Tryz.prog (.loop (QP (Func.code Tryz.f105) [1, 0, 0])) (Qp Q5.l0.T Q5.l0.os (Q5.l0 k k)) :=
 Q16 (C := Q5.ctx k) (Q5.gok k) Tryz.mix Q1.nil (by kernel_rfl) (by kernel_rfl) (by kernel_rfl) (Q5.l0.round k) k
def Q5.ann (k : Nat) : Ann := .node [] none (.nil) (.node [] none (.node [.mask [0, 2, 3], .auto 1] (some (Qp Q5.l0.T Q5.l0.os (Q5.l0 k k))) .nil .nil) (.nil))
theorem Q5.body (k : Nat) : Q2k (Q5.ctx k) Tryz.f105 (Func.code Tryz.f105) (Q5.ann k) Q5.T Q5.os (fun x K => Q5.c k x.1 x.2.1 K) := by
 intro ρ x K; kernel_rfl
theorem Q5.sem_ok (k : Nat) : QI Tryz.prog 105 (Q5.sem k) :=
 Q1G (C := Q5.ctx k) (Q5.gok k) Tryz.mix (c := Func.code Tryz.f105) (ann := Q5.ann k) (T := Q5.T) (os := Q5.os) (fun x K => Q5.c k x.1 x.2.1 K) Tryz.func105 (by kernel_rfl) (by kernel_rfl) (Q1.seq Q1.nil (Q1.block (Q1.loop (by kernel_rfl) (Q5.l0.ok k)))) (Q5.body k) (by kernel_rfl) (by kernel_rfl) (by kernel_rfl)
def Q0P.c (k : Nat) {ρ : Type} (x_0 : Int) (K : Bool × Unit → Option ρ) : Option ρ :=
 K ((x_0 != x_0), ())
def Q0P (k : Nat) (x_0 : Int) : Option (Bool × Unit) := Q0P.c k x_0 some
def Q0P.tin : List Ty := [(.int .u64)]
def Q0P.tout : List Ty := [.bool]
def Q0P.sem (k : Nat) : QT := Q00 Q0P.tin Q0P.tout fun x => Q0P k x.1
noncomputable def Q0P.ctx (k : Nat) : Ctx := ⟨Tryz.prog, gam []⟩
theorem Q0P.gok (k : Nat) : ∀ f, QI Tryz.prog f ((Q0P.ctx k).Γ f) := Q01
def Q0P.ann (k : Nat) : Ann := .nil
theorem Q0P.body (k : Nat) : Q0W (Q0P.ctx k) Tryz.f131 (Func.code Tryz.f131) (Q0P.ann k) Q0P.tin Q0P.tout (fun x K => Q0P.c k x.1 K) := by
 intro ρ x K; kernel_rfl
theorem Q0P.sem_ok (k : Nat) : QI Tryz.prog 131 (Q0P.sem k) :=
 QG (C := Q0P.ctx k) (Q0P.gok k) Tryz.mix (c := Func.code Tryz.f131) (ann := Q0P.ann k) (tin := Q0P.tin) (tout := Q0P.tout) (fun x K => Q0P.c k x.1 K) Tryz.func131 (by kernel_rfl) (by kernel_rfl) Q1.nil (Q0P.body k)
def Q0H.c (k : Nat) {ρ : Type} (x_0 : Int) (y : Int) (K : Int × Unit → Option ρ) : Option ρ :=
 (Q0P k x_0).bind fun t0 => (Q0P k y).bind fun t1 => bif t0.1 then (bif t1.1 then (K ((0 : Int), ())) else (K ((-(1 : Int)), ()))) else (bif t1.1 then (K ((1 : Int), ())) else (bif (decide (x_0 < y)) then (K ((-(1 : Int)), ())) else (bif (decide (x_0 > y)) then (K ((1 : Int), ())) else (K ((0 : Int), ())))))
def Q0H (k : Nat) (x_0 : Int) (y : Int) : Option (Int × Unit) := Q0H.c k x_0 y some
def Q0H.tin : List Ty := [(.int .u64), (.int .u64)]
def Q0H.tout : List Ty := [(.int .i64)]
def Q0H.sem (k : Nat) : QT := Q00 Q0H.tin Q0H.tout fun x => Q0H k x.1 x.2.1
noncomputable def Q0H.ctx (k : Nat) : Ctx := ⟨Tryz.prog, gam [(131, (Q0P.sem k))]⟩
theorem Q0H.gok (k : Nat) : ∀ f, QI Tryz.prog f ((Q0H.ctx k).Γ f) := (Ql (Q0P.sem_ok k) Q01)
def Q0H.ann (k : Nat) : Ann := .nil
theorem Q0H.body (k : Nat) : Q0W (Q0H.ctx k) Tryz.f121 (Func.code Tryz.f121) (Q0H.ann k) Q0H.tin Q0H.tout (fun x K => Q0H.c k x.1 x.2.1 K) := by
 intro ρ x K; kernel_rfl
theorem Q0H.sem_ok (k : Nat) : QI Tryz.prog 121 (Q0H.sem k) :=
 QG (C := Q0H.ctx k) (Q0H.gok k) Tryz.mix (c := Func.code Tryz.f121) (ann := Q0H.ann k) (tin := Q0H.tin) (tout := Q0H.tout) (fun x K => Q0H.c k x.1 x.2.1 K) Tryz.func121 (by kernel_rfl) (by kernel_rfl) Q1.nil (Q0H.body k)
abbrev Qb.l0.σ : Type := (List Int) × (List Int) × (List Int) × Int × Int × Unit
abbrev Qb.l0.τ : Type := (Int × Unit) ⊕ Qh7 
def Qb.l0.r (k : Nat) {ρ : Type} (x : Qb.l0.σ) (kn : Qb.l0.σ → Option ρ) (ke : Qb.l0.τ → Option ρ) : Option ρ :=
 bif (decide (x.2.2.2.2.1 < x.2.2.2.1)) then (bif (decide (((0 : Int) ≤ x.2.2.2.2.1) ∧ (x.2.2.2.2.1 < (((List.length x.2.2.1) : Nat) : Int)))) then (let v1 : Int := (List.getD x.2.2.1 (Int.toNat x.2.2.2.2.1) (0 : Int))
 let v2 : Int := (((List.length x.2.1) : Nat) : Int)
 bif (decide (x.2.2.2.2.1 ≥ v2)) then (ke (.inl ((1 : Int), ()))) else (bif (decide (((0 : Int) ≤ x.2.2.2.2.1) ∧ (x.2.2.2.2.1 < (((List.length x.2.1) : Nat) : Int)))) then (let v3 : Int := (List.getD x.2.1 (Int.toNat x.2.2.2.2.1) (0 : Int))
 (Q0H k v1 v3).bind fun t4 => bif (t4.1 != (0 : Int)) then (ke (.inl (t4.1, ()))) else (let v5 : Int := (IntKind.wrap IntKind.i64 (x.2.2.2.2.1 + (1 : Int)))
 kn (x.1, (x.2.1, (x.2.2.1, (x.2.2.2.1, (v5, ()))))))) else (none))) else (none)) else (ke (.inr (x.1, (x.2.1, ()))))
def Qb.l0 (k : Nat) : Nat → Qb.l0.σ → Option Qb.l0.τ := Q15 (Qb.l0.r k)
def Qb.l0.T : StT := ⟨.dat Qhc :: .dat Qhc :: us 7 ++ .dat Qhc :: .dat (.int .i64) :: .dat (.int .i64) :: us 24, []⟩
def Qb.l0.os : List Out := [⟨.ret, [.mask [4], .auto 0], ⟨us 4 ++ .dat (.int .i64) :: us 31, []⟩⟩, ⟨(.exit 0), [.mask [0, 1], .auto 0], ⟨.dat Qhc :: .dat Qhc :: us 34, []⟩⟩]
def Qb.c (k : Nat) {ρ : Type} (s1 : (List Int)) (s2 : (List Int)) (K : Int × Unit → Option ρ) : Option ρ :=
 let v0 : Int := (((List.length s1) : Nat) : Int)
 (Qb.l0 k k (s1, (s2, (s1, (v0, ((0 : Int), ())))))).bind fun t6 => (match t6 with | .inl t7 => (K (t7.1, ())) | .inr (t8) => (let v9 : Int := (((List.length t8.1) : Nat) : Int)
 let v10 : Int := (((List.length t8.2.1) : Nat) : Int)
 bif (decide (v9 < v10)) then (K ((-(1 : Int)), ())) else (K ((0 : Int), ()))))
def Qb (k : Nat) (s1 : (List Int)) (s2 : (List Int)) : Option (Int × Unit) := Qb.c k s1 s2 some
def Qb.tin : List Ty := [Qhc, Qhc]
def Qb.tout : List Ty := [(.int .i64)]
def Qb.sem (k : Nat) : QT := Q00 Qb.tin Qb.tout fun x => Qb k x.1 x.2.1
noncomputable def Qb.ctx (k : Nat) : Ctx := ⟨Tryz.prog, gam [(121, (Q0H.sem k))]⟩
theorem Qb.gok (k : Nat) : ∀ f, QI Tryz.prog f ((Qb.ctx k).Γ f) := (Ql (Q0H.sem_ok k) Q01)
theorem Qb.l0.round (k : Nat) : Q14 (Qb.ctx k) (QP (Func.code Tryz.f106) [1, 0, 1, 0, 0]) (.nil) Qb.l0.T [.mask [0, 1, 9, 10, 11], .auto 0] Qb.l0.os (Qb.l0.r k) := by
 intro ρ x kn ke; kernel_rfl
theorem Qb.l0.ok (k : Nat) : StOK 0 Tryz.prog (.loop (QP (Func.code Tryz.f106) [1, 0, 1, 0, 0])) (Qp Qb.l0.T Qb.l0.os (Qb.l0 k k)) :=
 Q16 (C := Qb.ctx k) (Qb.gok k) Tryz.mix Q1.nil (by kernel_rfl) (by kernel_rfl) (by kernel_rfl) (Qb.l0.round k) k
def Qb.ann (k : Nat) : Ann := .node [] none (.nil) (.node [] none (.node [] none (.nil) (.node [] none (.node [] (some (Qp Qb.l0.T Qb.l0.os (Qb.l0 k k))) .nil .nil) (.nil))) (.nil))
theorem Qb.body (k : Nat) : Q0W (Qb.ctx k) Tryz.f106 (Func.code Tryz.f106) (Qb.ann k) Qb.tin Qb.tout (fun x K => Qb.c k x.1 x.2.1 K) := by
 intro ρ x K; kernel_rfl
theorem Qb.sem_ok (k : Nat) : QI Tryz.prog 106 (Qb.sem k) :=
 QG (C := Qb.ctx k) (Qb.gok k) Tryz.mix (c := Func.code Tryz.f106) (ann := Qb.ann k) (tin := Qb.tin) (tout := Qb.tout) (fun x K => Qb.c k x.1 x.2.1 K) Tryz.func106 (by kernel_rfl) (by kernel_rfl) (Q1.seq Q1.nil (Q1.seq (Q1.seq Q1.nil (Q1.block (Q1.loop (by kernel_rfl) (Qb.l0.ok k)))) Q1.nil)) (Qb.body k)
def Q1b.c (k : Nat) {ρ : Type} (a : (List Int)) (b : (List Int)) (K : Int × Unit → Option ρ) : Option ρ :=
 (Q5 k (0, 4) a).bind fun t0 => (Q5 k (0, 4) b).bind fun t1 => (Qb k (List.take 4 (List.drop 0 t0.1)) (List.take 4 (List.drop 0 t1.1))).bind fun t2 => K (t2.1, ())
def Q1b (k : Nat) (a : (List Int)) (b : (List Int)) : Option (Int × Unit) := Q1b.c k a b some
def Q1b.tin : List Ty := [Qha, Qha]
def Q1b.tout : List Ty := [(.int .i64)]
def Q1b.sem (k : Nat) : QT := Q00 Q1b.tin Q1b.tout fun x => Q1b k x.1 x.2.1
noncomputable def Q1b.ctx (k : Nat) : Ctx := ⟨Tryz.prog, gam [(105, (Q5.sem k)), (106, (Qb.sem k))]⟩
theorem Q1b.gok (k : Nat) : ∀ f, QI Tryz.prog f ((Q1b.ctx k).Γ f) := (Ql (Q5.sem_ok k) (Ql (Qb.sem_ok k) Q01))
def Q1b.ann (k : Nat) : Ann := .nil
theorem Q1b.body (k : Nat) : Q0W (Q1b.ctx k) Tryz.f66 (Func.code Tryz.f66) (Q1b.ann k) Q1b.tin Q1b.tout (fun x K => Q1b.c k x.1 x.2.1 K) := by
 intro ρ x K; kernel_rfl
theorem Q1b.sem_ok (k : Nat) : QI Tryz.prog 66 (Q1b.sem k) :=
 QG (C := Q1b.ctx k) (Q1b.gok k) Tryz.mix (c := Func.code Tryz.f66) (ann := Q1b.ann k) (tin := Q1b.tin) (tout := Q1b.tout) (fun x K => Q1b.c k x.1 x.2.1 K) Tryz.func66 (by kernel_rfl) (by kernel_rfl) Q1.nil (Q1b.body k)
def Q1a.c (k : Nat) {ρ : Type} (bits : Int) (K : (List Int) × Int × Unit → Option ρ) : Option ρ :=
 (Q1o k bits).bind fun t0 => let v1 : (List Int) := t0.1
 bif (!t0.2.1) then (let v2 : (List Int) := (List.replicate 4 (0 : Int))
 K (v2, ((50 : Int), ()))) else (let v3 : Int := (Q12 BinOp.and IntKind.u32 bits (8388608 : Int))
 bif (v3 != (0 : Int)) then (let v4 : (List Int) := (List.replicate 4 (0 : Int))
 K (v4, ((50 : Int), ()))) else ((Q1r k v1).bind fun t5 => bif t5.1 then (let v6 : (List Int) := (List.replicate 4 (0 : Int))
 K (v6, ((50 : Int), ()))) else ((Q1h k ).bind fun t7 => (Q1b k v1 t7.1).bind fun t8 => bif (decide (t8.1 > (0 : Int))) then (let v9 : (List Int) := (List.replicate 4 (0 : Int))
 K (v9, ((50 : Int), ()))) else (K (v1, ((0 : Int), ()))))))
def Q1a (k : Nat) (bits : Int) : Option ((List Int) × Int × Unit) := Q1a.c k bits some
def Q1a.tin : List Ty := [(.int .u32)]
def Q1a.tout : List Ty := [Qha, (.int .i64)]
def Q1a.sem (k : Nat) : QT := Q00 Q1a.tin Q1a.tout fun x => Q1a k x.1
noncomputable def Q1a.ctx (k : Nat) : Ctx := ⟨Tryz.prog, gam [(102, (Q1o.sem k)), (103, (Q1r.sem k)), (104, (Q1h.sem k)), (66, (Q1b.sem k))]⟩
theorem Q1a.gok (k : Nat) : ∀ f, QI Tryz.prog f ((Q1a.ctx k).Γ f) := (Ql (Q1o.sem_ok k) (Ql (Q1r.sem_ok k) (Ql (Q1h.sem_ok k) (Ql (Q1b.sem_ok k) Q01))))
def Q1a.ann (k : Nat) : Ann := .nil
theorem Q1a.body (k : Nat) : Q0W (Q1a.ctx k) Tryz.f65 (Func.code Tryz.f65) (Q1a.ann k) Q1a.tin Q1a.tout (fun x K => Q1a.c k x.1 K) := by
 intro ρ x K; kernel_rfl
theorem Q1a.sem_ok (k : Nat) : QI Tryz.prog 65 (Q1a.sem k) :=
 QG (C := Q1a.ctx k) (Q1a.gok k) Tryz.mix (c := Func.code Tryz.f65) (ann := Q1a.ann k) (tin := Q1a.tin) (tout := Q1a.tout) (fun x K => Q1a.c k x.1 K) Tryz.func65 (by kernel_rfl) (by kernel_rfl) Q1.nil (Q1a.body k)
abbrev Q1k.l0.σ : Type := (List Int) × Int × (List Int) × (List Int) × Unit
abbrev Q1k.l0.τ : Type := Qh7 
def Q1k.l0.r (k : Nat) {ρ : Type} (x : Q1k.l0.σ) (kn : Q1k.l0.σ → Option ρ) (ke : Q1k.l0.τ → Option ρ) : Option ρ :=
 bif (decide (x.2.1 < (32 : Int))) then (bif (decide (((0 : Int) ≤ x.2.1) ∧ (x.2.1 < ((32 : Nat) : Int)))) then (let v0 : Int := (List.getD x.1 (Int.toNat x.2.1) (0 : Int))
 let v1 : Int := (IntKind.wrap IntKind.i64 (Int.tdiv x.2.1 (8 : Int)))
 bif (decide (((0 : Int) ≤ v1) ∧ (v1 < ((4 : Nat) : Int)))) then (let v2 : Int := (List.getD x.2.2.2.1 (Int.toNat v1) (0 : Int))
 let v3 : Int := (Int.tmod x.2.1 (8 : Int))
 let v4 : Int := (IntKind.wrap IntKind.i64 ((8 : Int) * v3))
 bif (decide ((0 : Int) ≤ v4)) then (let v5 : Int := (Q12 BinOp.or IntKind.u64 v2 (Q2w IntKind.u64 (IntKind.wrap IntKind.u64 v0) v4))
 bif (decide (((0 : Int) ≤ v1) ∧ (v1 < ((4 : Nat) : Int)))) then (let v6 : Int := (IntKind.wrap IntKind.i64 (x.2.1 + (1 : Int)))
 kn (x.1, (v6, (x.2.2.1, ((List.set x.2.2.2.1 (Int.toNat v1) v5), ()))))) else (none)) else (none)) else (none)) else (none)) else (ke (x.2.2.1, (x.2.2.2.1, ())))
def Q1k.l0 (k : Nat) : Nat → Q1k.l0.σ → Option Q1k.l0.τ := Q15 (Q1k.l0.r k)
def Q1k.l0.T : StT := ⟨us 2 ++ .ptr 0 [] :: .ptr 1 [] :: us 2 ++ .dat Qh9 :: .dat (.int .i64) :: us 17, [.dat Qha, .dat Qha]⟩
def Q1k.l0.os : List Out := [⟨(.exit 0), [.mask [2, 3], .auto 0], ⟨us 2 ++ .ptr 0 [] :: .ptr 1 [] :: us 21, [.dat Qha, .dat Qha]⟩⟩]
def Q1k.c (k : Nat) {ρ : Type} (h : (List Int)) (K : (List Int) × Unit → Option ρ) : Option ρ :=
 (Q1k.l0 k k (h, ((0 : Int), ((List.replicate 4 (0 : Int)), ((List.replicate 4 (0 : Int)), ()))))).bind fun t7 => let v8 : (List Int) := t7.2.1
 K (v8, ())
def Q1k (k : Nat) (h : (List Int)) : Option Qhb := Q1k.c k h some
def Q1k.tin : List Ty := [Qh9]
def Q1k.tout : List Ty := [Qha]
def Q1k.sem (k : Nat) : QT := Q00 Q1k.tin Q1k.tout fun x => Q1k k x.1
noncomputable def Q1k.ctx (k : Nat) : Ctx := ⟨Tryz.prog, gam []⟩
theorem Q1k.gok (k : Nat) : ∀ f, QI Tryz.prog f ((Q1k.ctx k).Γ f) := Q01
theorem Q1k.l0.round (k : Nat) : Q14 (Q1k.ctx k) (QP (Func.code Tryz.f67) [1, 1, 0, 1, 0, 0]) (.nil) Q1k.l0.T [.mask [2, 3, 6, 7], .auto 0] Q1k.l0.os (Q1k.l0.r k) := by
 intro ρ x kn ke; kernel_rfl
theorem Q1k.l0.ok (k : Nat) : StOK 0 Tryz.prog (.loop (QP (Func.code Tryz.f67) [1, 1, 0, 1, 0, 0])) (Qp Q1k.l0.T Q1k.l0.os (Q1k.l0 k k)) :=
 Q16 (C := Q1k.ctx k) (Q1k.gok k) Tryz.mix Q1.nil (by kernel_rfl) (by kernel_rfl) (by kernel_rfl) (Q1k.l0.round k) k
def Q1k.ann (k : Nat) : Ann := .node [] none (.nil) (.node [] none (.nil) (.node [] none (.node [] none (.nil) (.node [] none (.node [.mask [2, 3, 6, 7], .auto 0] (some (Qp Q1k.l0.T Q1k.l0.os (Q1k.l0 k k))) .nil .nil) (.nil))) (.nil)))
theorem Q1k.body (k : Nat) : Q0W (Q1k.ctx k) Tryz.f67 (Func.code Tryz.f67) (Q1k.ann k) Q1k.tin Q1k.tout (fun x K => Q1k.c k x.1 K) := by
 intro ρ x K; kernel_rfl
theorem Q1k.sem_ok (k : Nat) : QI Tryz.prog 67 (Q1k.sem k) :=
 QG (C := Q1k.ctx k) (Q1k.gok k) Tryz.mix (c := Func.code Tryz.f67) (ann := Q1k.ann k) (tin := Q1k.tin) (tout := Q1k.tout) (fun x K => Q1k.c k x.1 K) Tryz.func67 (by kernel_rfl) (by kernel_rfl) (Q1.seq Q1.nil (Q1.seq Q1.nil (Q1.seq (Q1.seq Q1.nil (Q1.block (Q1.loop (by kernel_rfl) (Q1k.l0.ok k)))) Q1.nil))) (Q1k.body k)
def Q1f.c (k : Nat) {ρ : Type} (id : (List Int)) (bits : Int) (K : Bool × Unit → Option ρ) : Option ρ :=
 (Q1a k bits).bind fun t0 => let v1 : (List Int) := t0.1
 let v2 : Int := t0.2.1
 bif (v2 == (0 : Int)) then ((Q1k k id).bind fun t3 => (Q1b k t3.1 v1).bind fun t4 => K ((decide (t4.1 ≤ (0 : Int))), ())) else (K (false, ()))
def Q1f (k : Nat) (id : (List Int)) (bits : Int) : Option (Bool × Unit) := Q1f.c k id bits some
def Q1f.tin : List Ty := [Qh9, (.int .u32)]
def Q1f.tout : List Ty := [.bool]
def Q1f.sem (k : Nat) : QT := Q00 Q1f.tin Q1f.tout fun x => Q1f k x.1 x.2.1
noncomputable def Q1f.ctx (k : Nat) : Ctx := ⟨Tryz.prog, gam [(65, (Q1a.sem k)), (67, (Q1k.sem k)), (66, (Q1b.sem k))]⟩
theorem Q1f.gok (k : Nat) : ∀ f, QI Tryz.prog f ((Q1f.ctx k).Γ f) := (Ql (Q1a.sem_ok k) (Ql (Q1k.sem_ok k) (Ql (Q1b.sem_ok k) Q01)))
def Q1f.ann (k : Nat) : Ann := .nil
theorem Q1f.body (k : Nat) : Q0W (Q1f.ctx k) Tryz.f38 (Func.code Tryz.f38) (Q1f.ann k) Q1f.tin Q1f.tout (fun x K => Q1f.c k x.1 x.2.1 K) := by
 intro ρ x K; kernel_rfl
theorem Q1f.sem_ok (k : Nat) : QI Tryz.prog 38 (Q1f.sem k) :=
 QG (C := Q1f.ctx k) (Q1f.gok k) Tryz.mix (c := Func.code Tryz.f38) (ann := Q1f.ann k) (tin := Q1f.tin) (tout := Q1f.tout) (fun x K => Q1f.c k x.1 x.2.1 K) Tryz.func38 (by kernel_rfl) (by kernel_rfl) Q1.nil (Q1f.body k)
end Go.Am
namespace Go.Am
open Go Go.Proofs
set_option maxRecDepth 100000
abbrev QH.l0.σ : Type := Int × Int × Int × (List Int) × (List Int) × Unit
abbrev QH.l0.τ : Type := (Bool × (List Int) × Unit) ⊕ Qh7 
def QH.l0.r (k : Nat) {ρ : Type} (x : QH.l0.σ) (kn : QH.l0.σ → Option ρ) (ke : QH.l0.τ → Option ρ) : Option ρ :=
 bif (decide (x.2.2.1 < (3 : Int))) then (let v3 : Int := (IntKind.wrap IntKind.i64 (x.1 - (3 : Int)))
 let v4 : Int := (IntKind.wrap IntKind.i64 (v3 + x.2.2.1))
 let v5 : Int := (IntKind.wrap IntKind.i64 ((8 : Int) * x.2.2.1))
 bif (decide ((0 : Int) ≤ (IntKind.wrap IntKind.u64 v5))) then (let v6 : Int := (Q2c IntKind.u32 x.2.1 (IntKind.wrap IntKind.u64 v5))
 let v7 : Int := (IntKind.wrap IntKind.i64 (Int.tmod v6 (256 : Int)))
 bif (decide (v4 ≥ (0 : Int))) then (bif (decide (v4 < (40 : Int))) then (bif (decide (((0 : Int) ≤ v4) ∧ (v4 < ((40 : Nat) : Int)))) then (bif (decide (v4 ≥ (40 : Int))) then (bif (v7 != (0 : Int)) then (let v8 : (List Int) := (List.replicate 40 (0 : Int))
 ke (.inl (false, (v8, ())))) else (let v9 : Int := (IntKind.wrap IntKind.i64 (x.2.2.1 + (1 : Int)))
 kn (x.1, (x.2.1, (v9, (x.2.2.2.1, ((List.set x.2.2.2.2.1 (Int.toNat v4) v7), ()))))))) else (let v10 : Int := (IntKind.wrap IntKind.i64 (x.2.2.1 + (1 : Int)))
 kn (x.1, (x.2.1, (v10, (x.2.2.2.1, ((List.set x.2.2.2.2.1 (Int.toNat v4) v7), ()))))))) else (none)) else (bif (decide (v4 ≥ (40 : Int))) then (bif (v7 != (0 : Int)) then (let v11 : (List Int) := (List.replicate 40 (0 : Int))
 ke (.inl (false, (v11, ())))) else (let v12 : Int := (IntKind.wrap IntKind.i64 (x.2.2.1 + (1 : Int)))
 kn (x.1, (x.2.1, (v12, (x.2.2.2.1, (x.2.2.2.2.1, ()))))))) else (let v13 : Int := (IntKind.wrap IntKind.i64 (x.2.2.1 + (1 : Int)))
 kn (x.1, (x.2.1, (v13, (x.2.2.2.1, (x.2.2.2.2.1, ())))))))) else (bif (decide (v4 ≥ (40 : Int))) then (bif (v7 != (0 : Int)) then (let v14 : (List Int) := (List.replicate 40 (0 : Int))
 ke (.inl (false, (v14, ())))) else (let v15 : Int := (IntKind.wrap IntKind.i64 (x.2.2.1 + (1 : Int)))
 kn (x.1, (x.2.1, (v15, (x.2.2.2.1, (x.2.2.2.2.1, ()))))))) else (let v16 : Int := (IntKind.wrap IntKind.i64 (x.2.2.1 + (1 : Int)))
 kn (x.1, (x.2.1, (v16, (x.2.2.2.1, (x.2.2.2.2.1, ())))))))) else (none)) else (ke (.inr (x.2.2.2.1, (x.2.2.2.2.1, ()))))
def QH.l0 (k : Nat) : Nat → QH.l0.σ → Option QH.l0.τ := Q15 (QH.l0.r k)
def QH.l0.T : StT := ⟨us 2 ++ .ptr 0 [] :: us 1 ++ .dat (.int .i64) :: .dat (.int .u32) :: .ptr 1 [] :: .dat (.int .i64) :: us 40, [.dat Qh8, .dat Qh8]⟩
def QH.l0.os : List Out := [⟨.ret, [.mask [2, 3], .auto 0], ⟨us 2 ++ .ptr 0 [] :: .dat .bool :: us 44, [.dat Qh8]⟩⟩, ⟨(.exit 0), [.mask [2, 6], .auto 0], ⟨us 2 ++ .ptr 0 [] :: us 3 ++ .ptr 1 [] :: us 41, [.dat Qh8, .dat Qh8]⟩⟩]
def QH.c (k : Nat) {ρ : Type} (bits : Int) (K : (List Int) × Bool × Unit → Option ρ) : Option ρ :=
 let v0 : Int := (Q2c IntKind.u32 bits (24 : Int))
 let v1 : Int := (Q12 BinOp.and IntKind.u32 bits (8388607 : Int))
 let v2 : (List Int) := (List.replicate 40 (0 : Int))
 (QH.l0 k k ((IntKind.wrap IntKind.i64 v0), (v1, ((0 : Int), ((List.replicate 40 (0 : Int)), (v2, ())))))).bind fun t17 => (match t17 with | .inl t18 => (K (t18.2.1, (t18.1, ()))) | .inr (t19) => (let v20 : (List Int) := t19.2.1
 K (v20, (true, ()))))
def QH (k : Nat) (bits : Int) : Option ((List Int) × Bool × Unit) := QH.c k bits some
def QH.tin : List Ty := [(.int .u32)]
def QH.tout : List Ty := [Qh8, .bool]
def QH.sem (k : Nat) : QT := Q00 QH.tin QH.tout fun x => QH k x.1
noncomputable def QH.ctx (k : Nat) : Ctx := ⟨Tryz.prog, gam []⟩
theorem QH.gok (k : Nat) : ∀ f, QI Tryz.prog f ((QH.ctx k).Γ f) := Q01
theorem QH.l0.round (k : Nat) : Q14 (QH.ctx k) (QP (Func.code Tryz.f107) [1, 1, 1, 0, 1, 0, 0]) (.nil) QH.l0.T [.mask [2, 4, 5, 6, 7], .auto 0] QH.l0.os (QH.l0.r k) := by
 intro ρ x kn ke; kernel_rfl
theorem QH.l0.ok (k : Nat) : StOK 0 Tryz.prog (.loop (QP (Func.code Tryz.f107) [1, 1, 1, 0, 1, 0, 0])) (Qp QH.l0.T QH.l0.os (QH.l0 k k)) :=
 Q16 (C := QH.ctx k) (QH.gok k) Tryz.mix Q1.nil (by kernel_rfl) (by kernel_rfl) (by kernel_rfl) (QH.l0.round k) k
def QH.ann (k : Nat) : Ann := .node [] none (.nil) (.node [] none (.nil) (.node [] none (.nil) (.node [] none (.node [] none (.nil) (.node [] none (.node [.mask [2, 4, 5, 6, 7], .auto 0] (some (Qp QH.l0.T QH.l0.os (QH.l0 k k))) .nil .nil) (.nil))) (.nil))))
theorem QH.body (k : Nat) : Q0W (QH.ctx k) Tryz.f107 (Func.code Tryz.f107) (QH.ann k) QH.tin QH.tout (fun x K => QH.c k x.1 K) := by
 intro ρ x K; kernel_rfl
theorem QH.sem_ok (k : Nat) : QI Tryz.prog 107 (QH.sem k) :=
 QG (C := QH.ctx k) (QH.gok k) Tryz.mix (c := Func.code Tryz.f107) (ann := QH.ann k) (tin := QH.tin) (tout := QH.tout) (fun x K => QH.c k x.1 K) Tryz.func107 (by kernel_rfl) (by kernel_rfl) (Q1.seq Q1.nil (Q1.seq Q1.nil (Q1.seq Q1.nil (Q1.seq (Q1.seq Q1.nil (Q1.block (Q1.loop (by kernel_rfl) (QH.l0.ok k)))) Q1.nil)))) (QH.body k)
def Q0M.c (k : Nat) {ρ : Type} (a : (List Int)) (K : Bool × Unit → Option ρ) : Option ρ :=
 let v0 : (List Int) := (List.replicate 40 (0 : Int))
 K ((decide (a = v0)), ())
def Q0M (k : Nat) (a : (List Int)) : Option (Bool × Unit) := Q0M.c k a some
def Q0M.tin : List Ty := [Qh8]
def Q0M.tout : List Ty := [.bool]
def Q0M.sem (k : Nat) : QT := Q00 Q0M.tin Q0M.tout fun x => Q0M k x.1
noncomputable def Q0M.ctx (k : Nat) : Ctx := ⟨Tryz.prog, gam []⟩
theorem Q0M.gok (k : Nat) : ∀ f, QI Tryz.prog f ((Q0M.ctx k).Γ f) := Q01
def Q0M.ann (k : Nat) : Ann := .nil
theorem Q0M.body (k : Nat) : Q0W (Q0M.ctx k) Tryz.f108 (Func.code Tryz.f108) (Q0M.ann k) Q0M.tin Q0M.tout (fun x K => Q0M.c k x.1 K) := by
 intro ρ x K; kernel_rfl
theorem Q0M.sem_ok (k : Nat) : QI Tryz.prog 108 (Q0M.sem k) :=
 QG (C := Q0M.ctx k) (Q0M.gok k) Tryz.mix (c := Func.code Tryz.f108) (ann := Q0M.ann k) (tin := Q0M.tin) (tout := Q0M.tout) (fun x K => Q0M.c k x.1 K) Tryz.func108 (by kernel_rfl) (by kernel_rfl) Q1.nil (Q0M.body k)
def Q0E.c (k : Nat) {ρ : Type}  (K : (List Int) × Unit → Option ρ) : Option ρ :=
 (QH k (545259519 : Int)).bind fun t0 => let v1 : (List Int) := t0.1
 K (v1, ())
def Q0E (k : Nat)  : Option Qhb := Q0E.c k  some
def Q0E.tin : List Ty := []
def Q0E.tout : List Ty := [Qh8]
def Q0E.sem (k : Nat) : QT := Q00 Q0E.tin Q0E.tout fun x => Q0E k 
noncomputable def Q0E.ctx (k : Nat) : Ctx := ⟨Tryz.prog, gam [(107, (QH.sem k))]⟩
theorem Q0E.gok (k : Nat) : ∀ f, QI Tryz.prog f ((Q0E.ctx k).Γ f) := (Ql (QH.sem_ok k) Q01)
def Q0E.ann (k : Nat) : Ann := .nil
theorem Q0E.body (k : Nat) : Q0W (Q0E.ctx k) Tryz.f109 (Func.code Tryz.f109) (Q0E.ann k) Q0E.tin Q0E.tout (fun x K => Q0E.c k  K) := by
 intro ρ x K; kernel_rfl
theorem Q0E.sem_ok (k : Nat) : QI Tryz.prog 109 (Q0E.sem k) :=
 QG (C := Q0E.ctx k) (Q0E.gok k) Tryz.mix (c := Func.code Tryz.f109) (ann := Q0E.ann k) (tin := Q0E.tin) (tout := Q0E.tout) (fun x K => Q0E.c k  K) Tryz.func109 (by kernel_rfl) (by kernel_rfl) Q1.nil (Q0E.body k)
abbrev QD.l0.σ : Type := Int × (List Int) × (List Int) × Unit
abbrev QD.l0.τ : Type := (Bool × Unit) ⊕ (Unit)
def QD.l0.r (k : Nat) {ρ : Type} (x : QD.l0.σ) (kn : QD.l0.σ → Option ρ) (ke : QD.l0.τ → Option ρ) : Option ρ :=
 bif (decide (x.1 ≥ (0 : Int))) then (bif (decide (((0 : Int) ≤ x.1) ∧ (x.1 < ((40 : Nat) : Int)))) then (let v0 : Int := (List.getD x.2.1 (Int.toNat x.1) (0 : Int))
 bif (decide (((0 : Int) ≤ x.1) ∧ (x.1 < ((40 : Nat) : Int)))) then (let v1 : Int := (List.getD x.2.2.1 (Int.toNat x.1) (0 : Int))
 bif (v0 != v1) then (bif (decide (((0 : Int) ≤ x.1) ∧ (x.1 < ((40 : Nat) : Int)))) then (let v2 : Int := (List.getD x.2.1 (Int.toNat x.1) (0 : Int))
 bif (decide (((0 : Int) ≤ x.1) ∧ (x.1 < ((40 : Nat) : Int)))) then (let v3 : Int := (List.getD x.2.2.1 (Int.toNat x.1) (0 : Int))
 ke (.inl ((decide (v2 < v3)), ()))) else (none)) else (none)) else (let v4 : Int := (IntKind.wrap IntKind.i64 (x.1 - (1 : Int)))
 kn (v4, (x.2.1, (x.2.2.1, ()))))) else (none)) else (none)) else (ke (.inr ()))
def QD.l0 (k : Nat) : Nat → QD.l0.σ → Option QD.l0.τ := Q15 (QD.l0.r k)
def QD.l0.T : StT := ⟨us 2 ++ .ptr 0 [] :: .ptr 1 [] :: us 1 ++ .dat (.int .i64) :: us 18, [.dat Qh8, .dat Qh8]⟩
def QD.l0.os : List Out := [⟨.ret, [.mask [4], .auto 0], ⟨us 4 ++ .dat .bool :: us 19, []⟩⟩, ⟨(.exit 0), [.mask [], .auto 0], ⟨us 24, []⟩⟩]
def QD.c (k : Nat) {ρ : Type} (a : (List Int)) (b : (List Int)) (K : Bool × Unit → Option ρ) : Option ρ :=
 (QD.l0 k k ((39 : Int), (a, (b, ())))).bind fun t5 => (match t5 with | .inl t6 => (K (t6.1, ())) | .inr (t7) => (K (false, ())))
def QD (k : Nat) (a : (List Int)) (b : (List Int)) : Option (Bool × Unit) := QD.c k a b some
def QD.tin : List Ty := [Qh8, Qh8]
def QD.tout : List Ty := [.bool]
def QD.sem (k : Nat) : QT := Q00 QD.tin QD.tout fun x => QD k x.1 x.2.1
noncomputable def QD.ctx (k : Nat) : Ctx := ⟨Tryz.prog, gam []⟩
theorem QD.gok (k : Nat) : ∀ f, QI Tryz.prog f ((QD.ctx k).Γ f) := Q01
theorem QD.l0.round (k : Nat) : Q14 (QD.ctx k) (QP (Func.code Tryz.f69) [1, 0, 1, 0, 0]) (.nil) QD.l0.T [.mask [2, 3, 5], .auto 0] QD.l0.os (QD.l0.r k) := by
 intro ρ x kn ke; kernel_rfl
theorem QD.l0.ok (k : Nat) : StOK 0 Tryz.prog (.loop (QP (Func.code Tryz.f69) [1, 0, 1, 0, 0])) (Qp QD.l0.T QD.l0.os (QD.l0 k k)) :=
 Q16 (C := QD.ctx k) (QD.gok k) Tryz.mix Q1.nil (by kernel_rfl) (by kernel_rfl) (by kernel_rfl) (QD.l0.round k) k
def QD.ann (k : Nat) : Ann := .node [] none (.nil) (.node [] none (.node [] none (.nil) (.node [] none (.node [.mask [2, 3, 5], .auto 0] (some (Qp QD.l0.T QD.l0.os (QD.l0 k k))) .nil .nil) (.nil))) (.nil))
theorem QD.body (k : Nat) : Q0W (QD.ctx k) Tryz.f69 (Func.code Tryz.f69) (QD.ann k) QD.tin QD.tout (fun x K => QD.c k x.1 x.2.1 K) := by
 intro ρ x K; kernel_rfl
theorem QD.sem_ok (k : Nat) : QI Tryz.prog 69 (QD.sem k) :=
 QG (C := QD.ctx k) (QD.gok k) Tryz.mix (c := Func.code Tryz.f69) (ann := QD.ann k) (tin := QD.tin) (tout := QD.tout) (fun x K => QD.c k x.1 x.2.1 K) Tryz.func69 (by kernel_rfl) (by kernel_rfl) (Q1.seq Q1.nil (Q1.seq (Q1.seq Q1.nil (Q1.block (Q1.loop (by kernel_rfl) (QD.l0.ok k)))) Q1.nil)) (QD.body k)
def Q0v.c (k : Nat) {ρ : Type} (bits : Int) (K : (List Int) × Bool × Unit → Option ρ) : Option ρ :=
 (QH k bits).bind fun t0 => let v1 : (List Int) := t0.1
 bif (!t0.2.1) then (let v2 : (List Int) := (List.replicate 40 (0 : Int))
 K (v2, (false, ()))) else (let v3 : Int := (Q12 BinOp.and IntKind.u32 bits (8388608 : Int))
 bif (v3 != (0 : Int)) then (let v4 : (List Int) := (List.replicate 40 (0 : Int))
 K (v4, (false, ()))) else ((Q0M k v1).bind fun t5 => bif t5.1 then (let v6 : (List Int) := (List.replicate 40 (0 : Int))
 K (v6, (false, ()))) else ((Q0E k ).bind fun t7 => (QD k t7.1 v1).bind fun t8 => bif t8.1 then (let v9 : (List Int) := (List.replicate 40 (0 : Int))
 K (v9, (false, ()))) else (K (v1, (true, ()))))))
def Q0v (k : Nat) (bits : Int) : Option ((List Int) × Bool × Unit) := Q0v.c k bits some
def Q0v.tin : List Ty := [(.int .u32)]
def Q0v.tout : List Ty := [Qh8, .bool]
def Q0v.sem (k : Nat) : QT := Q00 Q0v.tin Q0v.tout fun x => Q0v k x.1
noncomputable def Q0v.ctx (k : Nat) : Ctx := ⟨Tryz.prog, gam [(107, (QH.sem k)), (108, (Q0M.sem k)), (109, (Q0E.sem k)), (69, (QD.sem k))]⟩
theorem Q0v.gok (k : Nat) : ∀ f, QI Tryz.prog f ((Q0v.ctx k).Γ f) := (Ql (QH.sem_ok k) (Ql (Q0M.sem_ok k) (Ql (Q0E.sem_ok k) (Ql (QD.sem_ok k) Q01))))
def Q0v.ann (k : Nat) : Ann := .nil
theorem Q0v.body (k : Nat) : Q0W (Q0v.ctx k) Tryz.f68 (Func.code Tryz.f68) (Q0v.ann k) Q0v.tin Q0v.tout (fun x K => Q0v.c k x.1 K) := by
 intro ρ x K; kernel_rfl
theorem Q0v.sem_ok (k : Nat) : QI Tryz.prog 68 (Q0v.sem k) :=
 QG (C := Q0v.ctx k) (Q0v.gok k) Tryz.mix (c := Func.code Tryz.f68) (ann := Q0v.ann k) (tin := Q0v.tin) (tout := Q0v.tout) (fun x K => Q0v.c k x.1 K) Tryz.func68 (by kernel_rfl) (by kernel_rfl) Q1.nil (Q0v.body k)
abbrev QO.l0.σ : Type := Int × (List Int) × (List Int) × (List Int) × Unit
abbrev QO.l0.τ : Type := Qh7 
def QO.l0.r (k : Nat) {ρ : Type} (x : QO.l0.σ) (kn : QO.l0.σ → Option ρ) (ke : QO.l0.τ → Option ρ) : Option ρ :=
 bif (decide (x.1 < (32 : Int))) then (bif (decide (((0 : Int) ≤ x.1) ∧ (x.1 < ((32 : Nat) : Int)))) then (let v1 : Int := (List.getD x.2.1 (Int.toNat x.1) (0 : Int))
 bif (decide (((0 : Int) ≤ x.1) ∧ (x.1 < ((40 : Nat) : Int)))) then (let v2 : Int := (IntKind.wrap IntKind.i64 (x.1 + (1 : Int)))
 kn (v2, (x.2.1, (x.2.2.1, ((List.set x.2.2.2.1 (Int.toNat x.1) (IntKind.wrap IntKind.i64 v1)), ()))))) else (none)) else (none)) else (ke (x.2.2.1, (x.2.2.2.1, ())))
def QO.l0 (k : Nat) : Nat → QO.l0.σ → Option QO.l0.τ := Q15 (QO.l0.r k)
def QO.l0.T : StT := ⟨us 1 ++ .ptr 0 [] :: .ptr 1 [] :: .ptr 2 [] :: .dat (.int .i64) :: us 12, [.dat Qh9, .dat Qh8, .dat Qh8]⟩
def QO.l0.os : List Out := [⟨(.exit 0), [.mask [2, 3], .auto 0], ⟨us 2 ++ .ptr 0 [] :: .ptr 1 [] :: us 13, [.dat Qh8, .dat Qh8]⟩⟩]
def QO.c (k : Nat) {ρ : Type} (h : (List Int)) (K : (List Int) × Unit → Option ρ) : Option ρ :=
 let v0 : (List Int) := (List.replicate 40 (0 : Int))
 (QO.l0 k k ((0 : Int), (h, ((List.replicate 40 (0 : Int)), (v0, ()))))).bind fun t3 => let v4 : (List Int) := t3.2.1
 K (v4, ())
def QO (k : Nat) (h : (List Int)) : Option Qhb := QO.c k h some
def QO.tin : List Ty := [Qh9]
def QO.tout : List Ty := [Qh8]
def QO.sem (k : Nat) : QT := Q00 QO.tin QO.tout fun x => QO k x.1
noncomputable def QO.ctx (k : Nat) : Ctx := ⟨Tryz.prog, gam []⟩
theorem QO.gok (k : Nat) : ∀ f, QI Tryz.prog f ((QO.ctx k).Γ f) := Q01
theorem QO.l0.round (k : Nat) : Q14 (QO.ctx k) (QP (Func.code Tryz.f70) [1, 1, 0, 1, 0, 0]) (.nil) QO.l0.T [.mask [1, 2, 3, 4], .auto 0] QO.l0.os (QO.l0.r k) := by
 intro ρ x kn ke; kernel_rfl
theorem QO.l0.ok (k : Nat) : StOK 0 Tryz.prog (.loop (QP (Func.code Tryz.f70) [1, 1, 0, 1, 0, 0])) (Qp QO.l0.T QO.l0.os (QO.l0 k k)) :=
 Q16 (C := QO.ctx k) (QO.gok k) Tryz.mix Q1.nil (by kernel_rfl) (by kernel_rfl) (by kernel_rfl) (QO.l0.round k) k
def QO.ann (k : Nat) : Ann := .node [] none (.nil) (.node [] none (.nil) (.node [] none (.node [] none (.nil) (.node [] none (.node [.mask [1, 2, 3, 4], .auto 0] (some (Qp QO.l0.T QO.l0.os (QO.l0 k k))) .nil .nil) (.nil))) (.nil)))
theorem QO.body (k : Nat) : Q0W (QO.ctx k) Tryz.f70 (Func.code Tryz.f70) (QO.ann k) QO.tin QO.tout (fun x K => QO.c k x.1 K) := by
 intro ρ x K; kernel_rfl
theorem QO.sem_ok (k : Nat) : QI Tryz.prog 70 (QO.sem k) :=
 QG (C := QO.ctx k) (QO.gok k) Tryz.mix (c := Func.code Tryz.f70) (ann := QO.ann k) (tin := QO.tin) (tout := QO.tout) (fun x K => QO.c k x.1 K) Tryz.func70 (by kernel_rfl) (by kernel_rfl) (Q1.seq Q1.nil (Q1.seq Q1.nil (Q1.seq (Q1.seq Q1.nil (Q1.block (Q1.loop (by kernel_rfl) (QO.l0.ok k)))) Q1.nil))) (QO.body k)
def Q0G.c (k : Nat) {ρ : Type} (id : (List Int)) (bits : Int) (K : Bool × Unit → Option ρ) : Option ρ :=
 (Q0v k bits).bind fun t0 => let v1 : (List Int) := t0.1
 bif t0.2.1 then ((QO k id).bind fun t2 => (QD k v1 t2.1).bind fun t3 => K ((!t3.1), ())) else (K (false, ()))
def Q0G (k : Nat) (id : (List Int)) (bits : Int) : Option (Bool × Unit) := Q0G.c k id bits some
def Q0G.tin : List Ty := [Qh9, (.int .u32)]
def Q0G.tout : List Ty := [.bool]
def Q0G.sem (k : Nat) : QT := Q00 Q0G.tin Q0G.tout fun x => Q0G k x.1 x.2.1
noncomputable def Q0G.ctx (k : Nat) : Ctx := ⟨Tryz.prog, gam [(68, (Q0v.sem k)), (70, (QO.sem k)), (69, (QD.sem k))]⟩
theorem Q0G.gok (k : Nat) : ∀ f, QI Tryz.prog f ((Q0G.ctx k).Γ f) := (Ql (Q0v.sem_ok k) (Ql (QO.sem_ok k) (Ql (QD.sem_ok k) Q01)))
def Q0G.ann (k : Nat) : Ann := .nil
theorem Q0G.body (k : Nat) : Q0W (Q0G.ctx k) Tryz.f39 (Func.code Tryz.f39) (Q0G.ann k) Q0G.tin Q0G.tout (fun x K => Q0G.c k x.1 x.2.1 K) := by
 intro ρ x K; kernel_rfl
theorem Q0G.sem_ok (k : Nat) : QI Tryz.prog 39 (Q0G.sem k) :=
 QG (C := Q0G.ctx k) (Q0G.gok k) Tryz.mix (c := Func.code Tryz.f39) (ann := Q0G.ann k) (tin := Q0G.tin) (tout := Q0G.tout) (fun x K => Q0G.c k x.1 x.2.1 K) Tryz.func39 (by kernel_rfl) (by kernel_rfl) Q1.nil (Q0G.body k)
end Go.Am
