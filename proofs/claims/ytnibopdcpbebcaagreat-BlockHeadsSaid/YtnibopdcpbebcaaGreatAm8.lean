/- A part of a proof: a machine of abstract values that tells what functions of the program compute, and the plain facts on them. -/
import Derived.Test.YtnibopdcpbebcaaGreatAm7
import Derived.KernelRfl
set_option linter.unusedVariables false
set_option linter.unusedSimpArgs false
set_option linter.unnecessarySimpa false
set_option linter.unusedSectionVars false
namespace Go.Am
abbrev QfQ : Ty := (.sl (.int .u64))
abbrev QfP : Type := ((List Int) × Unit)
abbrev QfO : Ty := (.arr 4 (.int .u64))
abbrev QfN : Ty := (.arr 32 (.int .u8))
abbrev QfM : Ty := (.arr 40 (.int .i64))
abbrev QfL : Type := ((List Int) × (List Int) × Unit)
abbrev QfK : Type := (List (Int × (ByteArray × Unit)))
abbrev QfJ : Type := (List ((List Int) × (Int × (ByteArray × (Int × Unit)))))
abbrev QfI : Ty := (.sl (.pair  QfN  (.pair (.int .u32) (.pair .str (.pair (.int .u32) .unit)))))
abbrev QfH : Type := (Int × ( QfJ  × ( QfK  × (Int × Unit))))
abbrev QfG : Type := ( QfH  × Unit)
abbrev QfF : Type := (ByteArray ×  QfH  × Unit)
abbrev QfE : Ty := (.pair (.int .u32) (.pair  QfI  (.pair (.sl (.pair (.int .u64) (.pair .str .unit))) (.pair (.int .u32) .unit))))
end Go.Am
namespace Go.Am
open Go Go.Proofs
set_option maxRecDepth 100000
abbrev Qr.l0.σ : Type := Int × Int × Int × (List Int) × Unit
abbrev Qr.l0.τ : Type := QfP 
def Qr.l0.r (k : Nat) {ρ : Type} (x : Qr.l0.σ) (kn : Qr.l0.σ → Option ρ) (ke : Qr.l0.τ → Option ρ) : Option ρ :=
 bif (decide (x.2.2.1 < x.2.1)) then (let v0 : Int := (Int.tmod x.1 (256 : Int))
 bif (Nat.ble (((List.length x.2.2.2.1) + (List.length (List.set (List.replicate 1 (0 : Int)) 0 (IntKind.wrap IntKind.u8 v0)))) * 1) 140737488355328) then (let v1 : Int := (IntKind.wrap IntKind.u64 (Int.tdiv x.1 (256 : Int)))
 let v2 : Int := (IntKind.wrap IntKind.i64 (x.2.2.1 + (1 : Int)))
 kn (v1, (x.2.1, (v2, ((x.2.2.2.1 ++ (List.set (List.replicate 1 (0 : Int)) 0 (IntKind.wrap IntKind.u8 v0))), ()))))) else (none)) else (ke (x.2.2.2.1, ()))
def Qr.l0 (k : Nat) : Nat → Qr.l0.σ → Option Qr.l0.τ := Q14 (Qr.l0.r k)
def Qr.l0.T : StT := ⟨.dat (.int .u64) :: .dat (.int .i64) :: us 3 ++ .vsl 0 :: .dat (.int .i64) :: us 16, [.vec (.int .u8)]⟩
def Qr.l0.os : List Out := [⟨(.exit 0), [.mask [5], .auto 0], ⟨us 5 ++ .vsl 0 :: us 17, [.vec (.int .u8)]⟩⟩]
def Qr.c (k : Nat) {ρ : Type} (n : Int) (bytes : Int) (K : ByteArray × Unit → Option ρ) : Option ρ :=
 (Qr.l0 k k (n, (bytes, ((0 : Int), ((List.replicate 0 (0 : Int)), ()))))).bind fun t3 => K ((bytesOf t3.1), ())
def Qr (k : Nat) (n : Int) (bytes : Int) : Option (ByteArray × Unit) := Qr.c k n bytes some
def Qr.tin : List Ty := [(.int .u64), (.int .i64)]
def Qr.tout : List Ty := [.str]
def Qr.sem (k : Nat) : QP := QW Qr.tin Qr.tout fun x => Qr k x.1 x.2.1
noncomputable def Qr.ctx (k : Nat) : Ctx := ⟨Tryz.prog, gam []⟩
theorem Qr.gok (k : Nat) : ∀ f, QF Tryz.prog f ((Qr.ctx k).Γ f) := QX
theorem Qr.l0.round (k : Nat) : Q10 (Qr.ctx k) (QM (Func.code Tryz.f76) [1, 1, 0, 1, 0, 0]) (.nil) Qr.l0.T [.mask [0, 1, 5, 6], .auto 0] Qr.l0.os (Qr.l0.r k) := by
 intro ρ x kn ke; kernel_rfl
theorem Qr.l0.ok (k : Nat) : StOK 0 Tryz.prog (.loop (QM (Func.code Tryz.f76) [1, 1, 0, 1, 0, 0])) (Qn Qr.l0.T Qr.l0.os (Qr.l0 k k)) :=
 Q11 (C := Qr.ctx k) (Qr.gok k) Tryz.mix Q1.nil (by kernel_rfl) (by kernel_rfl) (by kernel_rfl) (Qr.l0.round k) k
def Qr.ann (k : Nat) : Ann := .node [] none (.nil) (.node [] none (.nil) (.node [] none (.node [] none (.nil) (.node [] none (.node [.mask [0, 1, 5, 6], .auto 0] (some (Qn Qr.l0.T Qr.l0.os (Qr.l0 k k))) .nil .nil) (.nil))) (.nil)))
theorem Qr.body (k : Nat) : Q0R (Qr.ctx k) Tryz.f76 (Func.code Tryz.f76) (Qr.ann k) Qr.tin Qr.tout (fun x K => Qr.c k x.1 x.2.1 K) := by
 intro ρ x K; kernel_rfl
theorem Qr.sem_ok (k : Nat) : QF Tryz.prog 76 (Qr.sem k) :=
 QD (C := Qr.ctx k) (Qr.gok k) Tryz.mix (c := Func.code Tryz.f76) (ann := Qr.ann k) (tin := Qr.tin) (tout := Qr.tout) (fun x K => Qr.c k x.1 x.2.1 K) Tryz.func76 (by kernel_rfl) (by kernel_rfl) (Q1.seq Q1.nil (Q1.seq Q1.nil (Q1.seq (Q1.seq Q1.nil (Q1.block (Q1.loop (by kernel_rfl) (Qr.l0.ok k)))) Q1.nil))) (Qr.body k)
def Q00.c (k : Nat) {ρ : Type} (n : Int) (K : ByteArray × Unit → Option ρ) : Option ρ :=
 bif (decide (n < (253 : Int))) then ((Qr k n (1 : Int)).bind fun t0 => K (t0.1, ())) else (bif (decide (n < (65536 : Int))) then ((Qr k n (2 : Int)).bind fun t1 => bif (Nat.ble (1 + (ByteArray.size t1.1)) 9223372036854775807) then (let v2 : ByteArray := ((⟨(List.toArray [253])⟩ : ByteArray) ++ t1.1)
 K (v2, ())) else (none)) else (bif (decide (n < (4294967296 : Int))) then ((Qr k n (4 : Int)).bind fun t3 => bif (Nat.ble (1 + (ByteArray.size t3.1)) 9223372036854775807) then (let v4 : ByteArray := ((⟨(List.toArray [254])⟩ : ByteArray) ++ t3.1)
 K (v4, ())) else (none)) else ((Qr k n (8 : Int)).bind fun t5 => bif (Nat.ble (1 + (ByteArray.size t5.1)) 9223372036854775807) then (let v6 : ByteArray := ((⟨(List.toArray [255])⟩ : ByteArray) ++ t5.1)
 K (v6, ())) else (none))))
def Q00 (k : Nat) (n : Int) : Option (ByteArray × Unit) := Q00.c k n some
def Q00.tin : List Ty := [(.int .u64)]
def Q00.tout : List Ty := [.str]
def Q00.sem (k : Nat) : QP := QW Q00.tin Q00.tout fun x => Q00 k x.1
noncomputable def Q00.ctx (k : Nat) : Ctx := ⟨Tryz.prog, gam [(76, (Qr.sem k))]⟩
theorem Q00.gok (k : Nat) : ∀ f, QF Tryz.prog f ((Q00.ctx k).Γ f) := (Qk (Qr.sem_ok k) QX)
def Q00.ann (k : Nat) : Ann := .nil
theorem Q00.body (k : Nat) : Q0R (Q00.ctx k) Tryz.f77 (Func.code Tryz.f77) (Q00.ann k) Q00.tin Q00.tout (fun x K => Q00.c k x.1 K) := by
 intro ρ x K; kernel_rfl
theorem Q00.sem_ok (k : Nat) : QF Tryz.prog 77 (Q00.sem k) :=
 QD (C := Q00.ctx k) (Q00.gok k) Tryz.mix (c := Func.code Tryz.f77) (ann := Q00.ann k) (tin := Q00.tin) (tout := Q00.tout) (fun x K => Q00.c k x.1 K) Tryz.func77 (by kernel_rfl) (by kernel_rfl) Q1.nil (Q00.body k)
abbrev Q7.l0.σ : Type := ByteArray × QfJ × Int × Int × QfH × Unit
abbrev Q7.l0.τ : Type := QfF 
def Q7.l0.r (k : Nat) {ρ : Type} (x : Q7.l0.σ) (kn : Q7.l0.σ → Option ρ) (ke : Q7.l0.τ → Option ρ) : Option ρ :=
 bif (decide (x.2.2.2.1 < x.2.2.1)) then (bif (decide (((0 : Int) ≤ x.2.2.2.1) ∧ (x.2.2.2.1 < (((List.length x.2.1) : Nat) : Int)))) then (let v8 : ByteArray := (bytesOf (List.take 32 (List.drop 0 (List.getD x.2.1 (Int.toNat x.2.2.2.1) ((List.replicate 32 (0 : Int)), ((0 : Int), (ByteArray.empty, ((0 : Int), ()))))).1)))
 let v9 : Int := (List.getD x.2.1 (Int.toNat x.2.2.2.1) ((List.replicate 32 (0 : Int)), ((0 : Int), (ByteArray.empty, ((0 : Int), ()))))).2.1
 (Qr k (IntKind.wrap IntKind.u64 v9) (4 : Int)).bind fun t10 => bif (Nat.ble ((ByteArray.size v8) + (ByteArray.size t10.1)) 9223372036854775807) then (let v11 : ByteArray := (v8 ++ t10.1)
 let v12 : ByteArray := (List.getD x.2.1 (Int.toNat x.2.2.2.1) ((List.replicate 32 (0 : Int)), ((0 : Int), (ByteArray.empty, ((0 : Int), ()))))).2.2.1
 (Q00 k (IntKind.wrap IntKind.u64 (((ByteArray.size v12) : Nat) : Int))).bind fun t13 => bif (Nat.ble ((ByteArray.size v11) + (ByteArray.size t13.1)) 9223372036854775807) then (let v14 : ByteArray := (v11 ++ t13.1)
 let v15 : ByteArray := (List.getD x.2.1 (Int.toNat x.2.2.2.1) ((List.replicate 32 (0 : Int)), ((0 : Int), (ByteArray.empty, ((0 : Int), ()))))).2.2.1
 bif (Nat.ble ((ByteArray.size v14) + (ByteArray.size v15)) 9223372036854775807) then (let v16 : ByteArray := (v14 ++ v15)
 let v17 : Int := (List.getD x.2.1 (Int.toNat x.2.2.2.1) ((List.replicate 32 (0 : Int)), ((0 : Int), (ByteArray.empty, ((0 : Int), ()))))).2.2.2.1
 (Qr k (IntKind.wrap IntKind.u64 v17) (4 : Int)).bind fun t18 => bif (Nat.ble ((ByteArray.size v16) + (ByteArray.size t18.1)) 9223372036854775807) then (let v19 : ByteArray := (v16 ++ t18.1)
 bif (Nat.ble ((ByteArray.size x.1) + (ByteArray.size v19)) 9223372036854775807) then (let v20 : ByteArray := (x.1 ++ v19)
 let v21 : Int := (IntKind.wrap IntKind.i64 (x.2.2.2.1 + (1 : Int)))
 kn (v20, (x.2.1, (x.2.2.1, (v21, ((x.2.2.2.2.1.1, (x.2.2.2.2.1.2.1, (x.2.2.2.2.1.2.2.1, (x.2.2.2.2.1.2.2.2.1, ())))), ())))))) else (none)) else (none)) else (none)) else (none)) else (none)) else (none)) else (ke (x.1, ((x.2.2.2.2.1.1, (x.2.2.2.2.1.2.1, (x.2.2.2.2.1.2.2.1, (x.2.2.2.2.1.2.2.2.1, ())))), ())))
def Q7.l0 (k : Nat) : Nat → Q7.l0.σ → Option Q7.l0.τ := Q14 (Q7.l0.r k)
def Q7.l0.T : StT := ⟨us 1 ++ .ptr 0 [] :: us 1 ++ .dat .str :: us 15 ++ .dat QfI :: .dat (.int .i64) :: .dat (.int .i64) :: us 63, [.dat QfE]⟩
def Q7.l0.os : List Out := [⟨(.exit 0), [.mask [1, 3], .auto 0], ⟨us 1 ++ .ptr 0 [] :: us 1 ++ .dat .str :: us 81, [.dat QfE]⟩⟩]
abbrev Q7.l1.σ : Type := ByteArray × QfK × Int × Int × QfH × Unit
abbrev Q7.l1.τ : Type := QfF 
def Q7.l1.r (k : Nat) {ρ : Type} (x : Q7.l1.σ) (kn : Q7.l1.σ → Option ρ) (ke : Q7.l1.τ → Option ρ) : Option ρ :=
 bif (decide (x.2.2.2.1 < x.2.2.1)) then (bif (decide (((0 : Int) ≤ x.2.2.2.1) ∧ (x.2.2.2.1 < (((List.length x.2.1) : Nat) : Int)))) then (let v29 : Int := (List.getD x.2.1 (Int.toNat x.2.2.2.1) ((0 : Int), (ByteArray.empty, ()))).1
 (Qr k v29 (8 : Int)).bind fun t30 => let v31 : ByteArray := (List.getD x.2.1 (Int.toNat x.2.2.2.1) ((0 : Int), (ByteArray.empty, ()))).2.1
 (Q00 k (IntKind.wrap IntKind.u64 (((ByteArray.size v31) : Nat) : Int))).bind fun t32 => bif (Nat.ble ((ByteArray.size t30.1) + (ByteArray.size t32.1)) 9223372036854775807) then (let v33 : ByteArray := (t30.1 ++ t32.1)
 let v34 : ByteArray := (List.getD x.2.1 (Int.toNat x.2.2.2.1) ((0 : Int), (ByteArray.empty, ()))).2.1
 bif (Nat.ble ((ByteArray.size v33) + (ByteArray.size v34)) 9223372036854775807) then (let v35 : ByteArray := (v33 ++ v34)
 bif (Nat.ble ((ByteArray.size x.1) + (ByteArray.size v35)) 9223372036854775807) then (let v36 : ByteArray := (x.1 ++ v35)
 let v37 : Int := (IntKind.wrap IntKind.i64 (x.2.2.2.1 + (1 : Int)))
 kn (v36, (x.2.1, (x.2.2.1, (v37, ((x.2.2.2.2.1.1, (x.2.2.2.2.1.2.1, (x.2.2.2.2.1.2.2.1, (x.2.2.2.2.1.2.2.2.1, ())))), ())))))) else (none)) else (none)) else (none)) else (none)) else (ke (x.1, ((x.2.2.2.2.1.1, (x.2.2.2.2.1.2.1, (x.2.2.2.2.1.2.2.1, (x.2.2.2.2.1.2.2.2.1, ())))), ())))
def Q7.l1 (k : Nat) : Nat → Q7.l1.σ → Option Q7.l1.τ := Q14 (Q7.l1.r k)
def Q7.l1.T : StT := ⟨us 1 ++ .ptr 0 [] :: us 1 ++ .dat .str :: us 54 ++ .dat (.sl (.pair (.int .u64) (.pair .str .unit))) :: .dat (.int .i64) :: .dat (.int .i64) :: us 24, [.dat QfE]⟩
def Q7.l1.os : List Out := [⟨(.exit 2), [.mask [1, 3], .auto 0], ⟨us 1 ++ .ptr 0 [] :: us 1 ++ .dat .str :: us 81, [.dat QfE]⟩⟩]
def Q7.c (k : Nat) {ρ : Type} (t : QfH) (K : ByteArray × Unit → Option ρ) : Option ρ :=
 let v0 : Int := t.1
 (Qr k (IntKind.wrap IntKind.u64 v0) (4 : Int)).bind fun t1 => let v2 : QfJ := t.2.1
 let v3 : Int := (((List.length v2) : Nat) : Int)
 (Q00 k (IntKind.wrap IntKind.u64 v3)).bind fun t4 => bif (Nat.ble ((ByteArray.size t1.1) + (ByteArray.size t4.1)) 9223372036854775807) then (let v5 : ByteArray := (t1.1 ++ t4.1)
 let v6 : QfJ := t.2.1
 let v7 : Int := (((List.length v6) : Nat) : Int)
 (Q7.l0 k k (v5, (v6, (v7, ((0 : Int), ((t.1, (t.2.1, (t.2.2.1, (t.2.2.2.1, ())))), ())))))).bind fun t22 => let v23 : QfK := t22.2.1.2.2.1
 let v24 : Int := (((List.length v23) : Nat) : Int)
 (Q00 k (IntKind.wrap IntKind.u64 v24)).bind fun t25 => bif (Nat.ble ((ByteArray.size t22.1) + (ByteArray.size t25.1)) 9223372036854775807) then (let v26 : ByteArray := (t22.1 ++ t25.1)
 let v27 : QfK := t22.2.1.2.2.1
 let v28 : Int := (((List.length v27) : Nat) : Int)
 (Q7.l1 k k (v26, (v27, (v28, ((0 : Int), ((t22.2.1.1, (t22.2.1.2.1, (t22.2.1.2.2.1, (t22.2.1.2.2.2.1, ())))), ())))))).bind fun t38 => let v39 : Int := t38.2.1.2.2.2.1
 (Qr k (IntKind.wrap IntKind.u64 v39) (4 : Int)).bind fun t40 => bif (Nat.ble ((ByteArray.size t38.1) + (ByteArray.size t40.1)) 9223372036854775807) then (let v41 : ByteArray := (t38.1 ++ t40.1)
 K (v41, ())) else (none)) else (none)) else (none)
def Q7 (k : Nat) (t : QfH) : Option (ByteArray × Unit) := Q7.c k t some
def Q7.tin : List Ty := [QfE]
def Q7.tout : List Ty := [.str]
def Q7.sem (k : Nat) : QP := QW Q7.tin Q7.tout fun x => Q7 k x.1
noncomputable def Q7.ctx (k : Nat) : Ctx := ⟨Tryz.prog, gam [(76, (Qr.sem k)), (77, (Q00.sem k))]⟩
theorem Q7.gok (k : Nat) : ∀ f, QF Tryz.prog f ((Q7.ctx k).Γ f) := (Qk (Qr.sem_ok k) (Qk (Q00.sem_ok k) QX))
theorem Q7.l0.round (k : Nat) : Q10 (Q7.ctx k) (QM (Func.code Tryz.f46) [1, 1, 0, 1, 0, 0]) (.nil) Q7.l0.T [.mask [1, 3, 19, 20, 21], .auto 0] Q7.l0.os (Q7.l0.r k) := by
 intro ρ x kn ke; kernel_rfl
theorem Q7.l0.ok (k : Nat) : StOK 0 Tryz.prog (.loop (QM (Func.code Tryz.f46) [1, 1, 0, 1, 0, 0])) (Qn Q7.l0.T Q7.l0.os (Q7.l0 k k)) :=
 Q11 (C := Q7.ctx k) (Q7.gok k) Tryz.mix Q1.nil (by kernel_rfl) (by kernel_rfl) (by kernel_rfl) (Q7.l0.round k) k
theorem Q7.l1.round (k : Nat) : Q10 (Q7.ctx k) (QM (Func.code Tryz.f46) [1, 1, 1, 1, 0, 1, 0, 0]) (.nil) Q7.l1.T [.mask [1, 3, 58, 59, 60], .auto 0] Q7.l1.os (Q7.l1.r k) := by
 intro ρ x kn ke; kernel_rfl
theorem Q7.l1.ok (k : Nat) : StOK 0 Tryz.prog (.loop (QM (Func.code Tryz.f46) [1, 1, 1, 1, 0, 1, 0, 0])) (Qn Q7.l1.T Q7.l1.os (Q7.l1 k k)) :=
 Q11 (C := Q7.ctx k) (Q7.gok k) Tryz.mix Q1.nil (by kernel_rfl) (by kernel_rfl) (by kernel_rfl) (Q7.l1.round k) k
def Q7.ann (k : Nat) : Ann := .node [] none (.nil) (.node [] none (.nil) (.node [] none (.node [] none (.nil) (.node [] none (.node [.mask [1, 3, 19, 20, 21], .auto 0] (some (Qn Q7.l0.T Q7.l0.os (Q7.l0 k k))) .nil .nil) (.nil))) (.node [] none (.nil) (.node [] none (.node [] none (.nil) (.node [] none (.node [.mask [1, 3, 58, 59, 60], .auto 0] (some (Qn Q7.l1.T Q7.l1.os (Q7.l1 k k))) .nil .nil) (.nil))) (.nil)))))
theorem Q7.body (k : Nat) : Q0R (Q7.ctx k) Tryz.f46 (Func.code Tryz.f46) (Q7.ann k) Q7.tin Q7.tout (fun x K => Q7.c k x.1 K) := by
 intro ρ x K; kernel_rfl
theorem Q7.sem_ok (k : Nat) : QF Tryz.prog 46 (Q7.sem k) :=
 QD (C := Q7.ctx k) (Q7.gok k) Tryz.mix (c := Func.code Tryz.f46) (ann := Q7.ann k) (tin := Q7.tin) (tout := Q7.tout) (fun x K => Q7.c k x.1 K) Tryz.func46 (by kernel_rfl) (by kernel_rfl) (Q1.seq Q1.nil (Q1.seq Q1.nil (Q1.seq (Q1.seq Q1.nil (Q1.block (Q1.loop (by kernel_rfl) (Q7.l0.ok k)))) (Q1.seq Q1.nil (Q1.seq (Q1.seq Q1.nil (Q1.block (Q1.loop (by kernel_rfl) (Q7.l1.ok k)))) Q1.nil))))) (Q7.body k)
end Go.Am
namespace Go.Am
open Go Go.Proofs
set_option maxRecDepth 100000
abbrev Qb.l0.σ : Type := QfJ × Int × Int × QfH × Unit
abbrev Qb.l0.τ : Type := (Int × Unit) ⊕ QfG 
def Qb.l0.r (k : Nat) {ρ : Type} (x : Qb.l0.σ) (kn : Qb.l0.σ → Option ρ) (ke : Qb.l0.τ → Option ρ) : Option ρ :=
 bif (decide (x.2.2.1 < x.2.1)) then (bif (decide (((0 : Int) ≤ x.2.2.1) ∧ (x.2.2.1 < (((List.length x.1) : Nat) : Int)))) then (let v2 : ByteArray := (List.getD x.1 (Int.toNat x.2.2.1) ((List.replicate 32 (0 : Int)), ((0 : Int), (ByteArray.empty, ((0 : Int), ()))))).2.2.1
 bif (decide ((((ByteArray.size v2) : Nat) : Int) > (520 : Int))) then (ke (.inl ((100 : Int), ()))) else (let v3 : Int := (IntKind.wrap IntKind.i64 (x.2.2.1 + (1 : Int)))
 kn (x.1, (x.2.1, (v3, ((x.2.2.2.1.1, (x.2.2.2.1.2.1, (x.2.2.2.1.2.2.1, (x.2.2.2.1.2.2.2.1, ())))), ())))))) else (none)) else (ke (.inr ((x.2.2.2.1.1, (x.2.2.2.1.2.1, (x.2.2.2.1.2.2.1, (x.2.2.2.1.2.2.2.1, ())))), ())))
def Qb.l0 (k : Nat) : Nat → Qb.l0.σ → Option Qb.l0.τ := Q14 (Qb.l0.r k)
def Qb.l0.T : StT := ⟨us 1 ++ .ptr 0 [] :: us 6 ++ .dat QfI :: .dat (.int .i64) :: .dat (.int .i64) :: us 24, [.dat QfE]⟩
def Qb.l0.os : List Out := [⟨.ret, [.mask [2], .auto 0], ⟨us 2 ++ .dat (.int .i64) :: us 32, []⟩⟩, ⟨(.exit 0), [.mask [1], .auto 0], ⟨us 1 ++ .ptr 0 [] :: us 33, [.dat QfE]⟩⟩]
abbrev Qb.l1.σ : Type := QfK × Int × Int × QfH × Unit
abbrev Qb.l1.τ : Type := (Int × Unit) ⊕ QfG 
def Qb.l1.r (k : Nat) {ρ : Type} (x : Qb.l1.σ) (kn : Qb.l1.σ → Option ρ) (ke : Qb.l1.τ → Option ρ) : Option ρ :=
 bif (decide (x.2.2.1 < x.2.1)) then (bif (decide (((0 : Int) ≤ x.2.2.1) ∧ (x.2.2.1 < (((List.length x.1) : Nat) : Int)))) then (let v9 : ByteArray := (List.getD x.1 (Int.toNat x.2.2.1) ((0 : Int), (ByteArray.empty, ()))).2.1
 bif (decide ((((ByteArray.size v9) : Nat) : Int) > (520 : Int))) then (ke (.inl ((100 : Int), ()))) else (let v10 : Int := (IntKind.wrap IntKind.i64 (x.2.2.1 + (1 : Int)))
 kn (x.1, (x.2.1, (v10, ((x.2.2.2.1.1, (x.2.2.2.1.2.1, (x.2.2.2.1.2.2.1, (x.2.2.2.1.2.2.2.1, ())))), ())))))) else (none)) else (ke (.inr ((x.2.2.2.1.1, (x.2.2.2.1.2.1, (x.2.2.2.1.2.2.1, (x.2.2.2.1.2.2.2.1, ())))), ())))
def Qb.l1 (k : Nat) : Nat → Qb.l1.σ → Option Qb.l1.τ := Q14 (Qb.l1.r k)
def Qb.l1.T : StT := ⟨us 1 ++ .ptr 0 [] :: us 18 ++ .dat (.sl (.pair (.int .u64) (.pair .str .unit))) :: .dat (.int .i64) :: .dat (.int .i64) :: us 12, [.dat QfE]⟩
def Qb.l1.os : List Out := [⟨.ret, [.mask [2], .auto 0], ⟨us 2 ++ .dat (.int .i64) :: us 32, []⟩⟩, ⟨(.exit 2), [.mask [1], .auto 0], ⟨us 1 ++ .ptr 0 [] :: us 33, [.dat QfE]⟩⟩]
def Qb.c (k : Nat) {ρ : Type} (t : QfH) (K : Int × Unit → Option ρ) : Option ρ :=
 let v0 : QfJ := t.2.1
 let v1 : Int := (((List.length v0) : Nat) : Int)
 (Qb.l0 k k (v0, (v1, ((0 : Int), ((t.1, (t.2.1, (t.2.2.1, (t.2.2.2.1, ())))), ()))))).bind fun t4 => (match t4 with | .inl t5 => (K (t5.1, ())) | .inr (t6) => (let v7 : QfK := t6.1.2.2.1
 let v8 : Int := (((List.length v7) : Nat) : Int)
 (Qb.l1 k k (v7, (v8, ((0 : Int), ((t6.1.1, (t6.1.2.1, (t6.1.2.2.1, (t6.1.2.2.2.1, ())))), ()))))).bind fun t11 => (match t11 with | .inl t12 => (K (t12.1, ())) | .inr (t13) => ((Q7 k (t13.1.1, (t13.1.2.1, (t13.1.2.2.1, (t13.1.2.2.2.1, ()))))).bind fun t14 => let v15 : Int := (((ByteArray.size t14.1) : Nat) : Int)
 bif (decide (v15 > (4096 : Int))) then (K ((101 : Int), ())) else (K ((0 : Int), ()))))))
def Qb (k : Nat) (t : QfH) : Option (Int × Unit) := Qb.c k t some
def Qb.tin : List Ty := [QfE]
def Qb.tout : List Ty := [(.int .i64)]
def Qb.sem (k : Nat) : QP := QW Qb.tin Qb.tout fun x => Qb k x.1
noncomputable def Qb.ctx (k : Nat) : Ctx := ⟨Tryz.prog, gam [(46, (Q7.sem k))]⟩
theorem Qb.gok (k : Nat) : ∀ f, QF Tryz.prog f ((Qb.ctx k).Γ f) := (Qk (Q7.sem_ok k) QX)
theorem Qb.l0.round (k : Nat) : Q10 (Qb.ctx k) (QM (Func.code Tryz.f47) [1, 0, 1, 0, 0]) (.nil) Qb.l0.T [.mask [1, 8, 9, 10], .auto 0] Qb.l0.os (Qb.l0.r k) := by
 intro ρ x kn ke; kernel_rfl
theorem Qb.l0.ok (k : Nat) : StOK 0 Tryz.prog (.loop (QM (Func.code Tryz.f47) [1, 0, 1, 0, 0])) (Qn Qb.l0.T Qb.l0.os (Qb.l0 k k)) :=
 Q11 (C := Qb.ctx k) (Qb.gok k) Tryz.mix Q1.nil (by kernel_rfl) (by kernel_rfl) (by kernel_rfl) (Qb.l0.round k) k
theorem Qb.l1.round (k : Nat) : Q10 (Qb.ctx k) (QM (Func.code Tryz.f47) [1, 1, 0, 1, 0, 0]) (.nil) Qb.l1.T [.mask [1, 20, 21, 22], .auto 0] Qb.l1.os (Qb.l1.r k) := by
 intro ρ x kn ke; kernel_rfl
theorem Qb.l1.ok (k : Nat) : StOK 0 Tryz.prog (.loop (QM (Func.code Tryz.f47) [1, 1, 0, 1, 0, 0])) (Qn Qb.l1.T Qb.l1.os (Qb.l1 k k)) :=
 Q11 (C := Qb.ctx k) (Qb.gok k) Tryz.mix Q1.nil (by kernel_rfl) (by kernel_rfl) (by kernel_rfl) (Qb.l1.round k) k
def Qb.ann (k : Nat) : Ann := .node [] none (.nil) (.node [] none (.node [] none (.nil) (.node [] none (.node [.mask [1, 8, 9, 10], .auto 0] (some (Qn Qb.l0.T Qb.l0.os (Qb.l0 k k))) .nil .nil) (.nil))) (.node [] none (.node [] none (.nil) (.node [] none (.node [.mask [1, 20, 21, 22], .auto 0] (some (Qn Qb.l1.T Qb.l1.os (Qb.l1 k k))) .nil .nil) (.nil))) (.nil)))
theorem Qb.body (k : Nat) : Q0R (Qb.ctx k) Tryz.f47 (Func.code Tryz.f47) (Qb.ann k) Qb.tin Qb.tout (fun x K => Qb.c k x.1 K) := by
 intro ρ x K; kernel_rfl
theorem Qb.sem_ok (k : Nat) : QF Tryz.prog 47 (Qb.sem k) :=
 QD (C := Qb.ctx k) (Qb.gok k) Tryz.mix (c := Func.code Tryz.f47) (ann := Qb.ann k) (tin := Qb.tin) (tout := Qb.tout) (fun x K => Qb.c k x.1 K) Tryz.func47 (by kernel_rfl) (by kernel_rfl) (Q1.seq Q1.nil (Q1.seq (Q1.seq Q1.nil (Q1.block (Q1.loop (by kernel_rfl) (Qb.l0.ok k)))) (Q1.seq (Q1.seq Q1.nil (Q1.block (Q1.loop (by kernel_rfl) (Qb.l1.ok k)))) Q1.nil))) (Qb.body k)
end Go.Am
namespace Go.Am
open Go Go.Proofs
set_option maxRecDepth 100000
def Q1s.c (k : Nat) {ρ : Type} (n : Int) (K : (List Int) × Unit → Option ρ) : Option ρ :=
 let v0 : (List Int) := (List.set (List.replicate 4 (0 : Int)) 0 n)
 K (v0, ())
def Q1s (k : Nat) (n : Int) : Option QfP := Q1s.c k n some
def Q1s.tin : List Ty := [(.int .u64)]
def Q1s.tout : List Ty := [QfO]
def Q1s.sem (k : Nat) : QP := QW Q1s.tin Q1s.tout fun x => Q1s k x.1
noncomputable def Q1s.ctx (k : Nat) : Ctx := ⟨Tryz.prog, gam []⟩
theorem Q1s.gok (k : Nat) : ∀ f, QF Tryz.prog f ((Q1s.ctx k).Γ f) := QX
def Q1s.ann (k : Nat) : Ann := .nil
theorem Q1s.body (k : Nat) : Q0R (Q1s.ctx k) Tryz.f118 (Func.code Tryz.f118) (Q1s.ann k) Q1s.tin Q1s.tout (fun x K => Q1s.c k x.1 K) := by
 intro ρ x K; kernel_rfl
theorem Q1s.sem_ok (k : Nat) : QF Tryz.prog 118 (Q1s.sem k) :=
 QD (C := Q1s.ctx k) (Q1s.gok k) Tryz.mix (c := Func.code Tryz.f118) (ann := Q1s.ann k) (tin := Q1s.tin) (tout := Q1s.tout) (fun x K => Q1s.c k x.1 K) Tryz.func118 (by kernel_rfl) (by kernel_rfl) Q1.nil (Q1s.body k)
def Q1I (k : Nat) (a0 : (List Int)) (a1 : Int) : Option QfP := none
def Q1I.tin : List Ty := [QfO, (.int .i64)]
def Q1I.tout : List Ty := [QfO]
def Q1I.sem (k : Nat) : QP := QW Q1I.tin Q1I.tout fun x => Q1I k x.1 x.2.1
theorem Q1I.sem_ok (k : Nat) : QF Tryz.prog 128 (Q1I.sem k) := QaP fun _ => rfl
def Q1j.c (k : Nat) {ρ : Type} (a : (List Int)) (K : Bool × Unit → Option ρ) : Option ρ :=
 let v0 : (List Int) := (List.replicate 4 (0 : Int))
 K ((decide (a = v0)), ())
def Q1j (k : Nat) (a : (List Int)) : Option (Bool × Unit) := Q1j.c k a some
def Q1j.tin : List Ty := [QfO]
def Q1j.tout : List Ty := [.bool]
def Q1j.sem (k : Nat) : QP := QW Q1j.tin Q1j.tout fun x => Q1j k x.1
noncomputable def Q1j.ctx (k : Nat) : Ctx := ⟨Tryz.prog, gam []⟩
theorem Q1j.gok (k : Nat) : ∀ f, QF Tryz.prog f ((Q1j.ctx k).Γ f) := QX
def Q1j.ann (k : Nat) : Ann := .nil
theorem Q1j.body (k : Nat) : Q0R (Q1j.ctx k) Tryz.f103 (Func.code Tryz.f103) (Q1j.ann k) Q1j.tin Q1j.tout (fun x K => Q1j.c k x.1 K) := by
 intro ρ x K; kernel_rfl
theorem Q1j.sem_ok (k : Nat) : QF Tryz.prog 103 (Q1j.sem k) :=
 QD (C := Q1j.ctx k) (Q1j.gok k) Tryz.mix (c := Func.code Tryz.f103) (ann := Q1j.ann k) (tin := Q1j.tin) (tout := Q1j.tout) (fun x K => Q1j.c k x.1 K) Tryz.func103 (by kernel_rfl) (by kernel_rfl) Q1.nil (Q1j.body k)
abbrev Qh.p0.σ : Type := Int × Int × Unit
abbrev Qh.p0.τ : Type := (Int × Int × Unit)
def Qh.p0.r (k : Nat) {ρ : Type} (x : Qh.p0.σ) (K : Qh.p0.τ → Option ρ) : Option ρ :=
 bif (decide (x.1 ≥ (4294967296 : Int))) then (let v0 : Int := (Q1H IntKind.u64 x.1 (32 : Int))
 K (v0, ((32 : Int), ()))) else (K (x.1, (x.2.1, ())))
def Qh.p0 (k : Nat) (x : Qh.p0.σ) : Option Qh.p0.τ := Qh.p0.r k x some
def Qh.p0.T : StT := ⟨.dat (.int .u64) :: us 1 ++ .dat (.int .i64) :: us 22, []⟩
def Qh.p0.os : List Out := [⟨.normal, [.mask [0, 2], .auto 0], ⟨.dat (.int .u64) :: us 1 ++ .dat (.int .i64) :: us 22, []⟩⟩]
abbrev Qh.p1.σ : Type := Int × Int × Unit
abbrev Qh.p1.τ : Type := (Int × Int × Unit)
def Qh.p1.r (k : Nat) {ρ : Type} (x : Qh.p1.σ) (K : Qh.p1.τ → Option ρ) : Option ρ :=
 bif (decide (x.1 ≥ (65536 : Int))) then (let v2 : Int := (Q1H IntKind.u64 x.1 (16 : Int))
 let v3 : Int := (IntKind.wrap IntKind.i64 (x.2.1 + (16 : Int)))
 K (v2, (v3, ()))) else (K (x.1, (x.2.1, ())))
def Qh.p1 (k : Nat) (x : Qh.p1.σ) : Option Qh.p1.τ := Qh.p1.r k x some
def Qh.p1.T : StT := ⟨.dat (.int .u64) :: us 1 ++ .dat (.int .i64) :: us 22, []⟩
def Qh.p1.os : List Out := [⟨.normal, [.mask [0, 2], .auto 0], ⟨.dat (.int .u64) :: us 1 ++ .dat (.int .i64) :: us 22, []⟩⟩]
def Qh.c (k : Nat) {ρ : Type} (x_0 : Int) (K : Int × Unit → Option ρ) : Option ρ :=
 (Qh.p0 k (x_0, ((0 : Int), ()))).bind fun t1 => (Qh.p1 k (t1.1, (t1.2.1, ()))).bind fun t4 => bif (decide (t4.1 ≥ (256 : Int))) then (let v5 : Int := (Q1H IntKind.u64 t4.1 (8 : Int))
 let v6 : Int := (IntKind.wrap IntKind.i64 (t4.2.1 + (8 : Int)))
 bif (decide (((0 : Int) ≤ (IntKind.wrap IntKind.u8 v5)) ∧ ((IntKind.wrap IntKind.u8 v5) < ((256 : Nat) : Int)))) then (let v7 : Int := (Q1u (⟨(List.toArray (List.append (List.append [0, 1, 2, 2, 3, 3, 3, 3, 4, 4, 4, 4, 4, 4, 4, 4, 5, 5, 5, 5, 5, 5, 5, 5, 5, 5, 5, 5, 5, 5, 5, 5, 6, 6, 6, 6, 6, 6, 6, 6, 6, 6, 6, 6, 6, 6, 6, 6, 6, 6, 6, 6, 6, 6, 6, 6, 6, 6, 6, 6, 6, 6, 6, 6] [7, 7, 7, 7, 7, 7, 7, 7, 7, 7, 7, 7, 7, 7, 7, 7, 7, 7, 7, 7, 7, 7, 7, 7, 7, 7, 7, 7, 7, 7, 7, 7, 7, 7, 7, 7, 7, 7, 7, 7, 7, 7, 7, 7, 7, 7, 7, 7, 7, 7, 7, 7, 7, 7, 7, 7, 7, 7, 7, 7, 7, 7, 7, 7]) (List.append [8, 8, 8, 8, 8, 8, 8, 8, 8, 8, 8, 8, 8, 8, 8, 8, 8, 8, 8, 8, 8, 8, 8, 8, 8, 8, 8, 8, 8, 8, 8, 8, 8, 8, 8, 8, 8, 8, 8, 8, 8, 8, 8, 8, 8, 8, 8, 8, 8, 8, 8, 8, 8, 8, 8, 8, 8, 8, 8, 8, 8, 8, 8, 8] [8, 8, 8, 8, 8, 8, 8, 8, 8, 8, 8, 8, 8, 8, 8, 8, 8, 8, 8, 8, 8, 8, 8, 8, 8, 8, 8, 8, 8, 8, 8, 8, 8, 8, 8, 8, 8, 8, 8, 8, 8, 8, 8, 8, 8, 8, 8, 8, 8, 8, 8, 8, 8, 8, 8, 8, 8, 8, 8, 8, 8, 8, 8, 8])))⟩ : ByteArray) (Int.toNat (IntKind.wrap IntKind.u8 v5)))
 let v8 : Int := (IntKind.wrap IntKind.i64 (v6 + (IntKind.wrap IntKind.i64 v7)))
 K (v8, ())) else (none)) else (let v9 : Int := (IntKind.wrap IntKind.u8 t4.1)
 bif (decide (((0 : Int) ≤ v9) ∧ (v9 < ((256 : Nat) : Int)))) then (let v10 : Int := (Q1u (⟨(List.toArray (List.append (List.append [0, 1, 2, 2, 3, 3, 3, 3, 4, 4, 4, 4, 4, 4, 4, 4, 5, 5, 5, 5, 5, 5, 5, 5, 5, 5, 5, 5, 5, 5, 5, 5, 6, 6, 6, 6, 6, 6, 6, 6, 6, 6, 6, 6, 6, 6, 6, 6, 6, 6, 6, 6, 6, 6, 6, 6, 6, 6, 6, 6, 6, 6, 6, 6] [7, 7, 7, 7, 7, 7, 7, 7, 7, 7, 7, 7, 7, 7, 7, 7, 7, 7, 7, 7, 7, 7, 7, 7, 7, 7, 7, 7, 7, 7, 7, 7, 7, 7, 7, 7, 7, 7, 7, 7, 7, 7, 7, 7, 7, 7, 7, 7, 7, 7, 7, 7, 7, 7, 7, 7, 7, 7, 7, 7, 7, 7, 7, 7]) (List.append [8, 8, 8, 8, 8, 8, 8, 8, 8, 8, 8, 8, 8, 8, 8, 8, 8, 8, 8, 8, 8, 8, 8, 8, 8, 8, 8, 8, 8, 8, 8, 8, 8, 8, 8, 8, 8, 8, 8, 8, 8, 8, 8, 8, 8, 8, 8, 8, 8, 8, 8, 8, 8, 8, 8, 8, 8, 8, 8, 8, 8, 8, 8, 8] [8, 8, 8, 8, 8, 8, 8, 8, 8, 8, 8, 8, 8, 8, 8, 8, 8, 8, 8, 8, 8, 8, 8, 8, 8, 8, 8, 8, 8, 8, 8, 8, 8, 8, 8, 8, 8, 8, 8, 8, 8, 8, 8, 8, 8, 8, 8, 8, 8, 8, 8, 8, 8, 8, 8, 8, 8, 8, 8, 8, 8, 8, 8, 8])))⟩ : ByteArray) (Int.toNat v9))
 let v11 : Int := (IntKind.wrap IntKind.i64 (t4.2.1 + (IntKind.wrap IntKind.i64 v10)))
 K (v11, ())) else (none))
def Qh (k : Nat) (x_0 : Int) : Option (Int × Unit) := Qh.c k x_0 some
def Qh.tin : List Ty := [(.int .u64)]
def Qh.tout : List Ty := [(.int .i64)]
def Qh.sem (k : Nat) : QP := QW Qh.tin Qh.tout fun x => Qh k x.1
noncomputable def Qh.ctx (k : Nat) : Ctx := ⟨Tryz.prog, gam []⟩
theorem Qh.gok (k : Nat) : ∀ f, QF Tryz.prog f ((Qh.ctx k).Γ f) := QX
theorem Qh.p0.is (k : Nat) : Q1O (Qh.ctx k) (QM (Func.code Tryz.f130) [1, 0]) (.nil) Qh.p0.T Qh.p0.os (Qh.p0.r k) := by
 intro ρ x K; kernel_rfl
theorem Qh.p0.ok (k : Nat) : StOK 0 Tryz.prog (QM (Func.code Tryz.f130) [1, 0]) (Qn Qh.p0.T Qh.p0.os (Qh.p0 k)) :=
 Q1F (C := Qh.ctx k) (T := Qh.p0.T) (os := Qh.p0.os) (Qh.gok k) Tryz.mix (fun x K => Qh.p0.r k x K) Q1.nil (by kernel_rfl) (by kernel_rfl) (Qh.p0.is k)
theorem Qh.p1.is (k : Nat) : Q1O (Qh.ctx k) (QM (Func.code Tryz.f130) [1, 1, 0]) (.nil) Qh.p1.T Qh.p1.os (Qh.p1.r k) := by
 intro ρ x K; kernel_rfl
theorem Qh.p1.ok (k : Nat) : StOK 0 Tryz.prog (QM (Func.code Tryz.f130) [1, 1, 0]) (Qn Qh.p1.T Qh.p1.os (Qh.p1 k)) :=
 Q1F (C := Qh.ctx k) (T := Qh.p1.T) (os := Qh.p1.os) (Qh.gok k) Tryz.mix (fun x K => Qh.p1.r k x K) Q1.nil (by kernel_rfl) (by kernel_rfl) (Qh.p1.is k)
def Qh.ann (k : Nat) : Ann := .node [] none (.nil) (.node [] none (.node [] (some (Qn Qh.p0.T Qh.p0.os (Qh.p0 k))) .nil .nil) (.node [] none (.node [] (some (Qn Qh.p1.T Qh.p1.os (Qh.p1 k))) .nil .nil) (.nil)))
theorem Qh.body (k : Nat) : Q0R (Qh.ctx k) Tryz.f130 (Func.code Tryz.f130) (Qh.ann k) Qh.tin Qh.tout (fun x K => Qh.c k x.1 K) := by
 intro ρ x K; kernel_rfl
theorem Qh.sem_ok (k : Nat) : QF Tryz.prog 130 (Qh.sem k) :=
 QD (C := Qh.ctx k) (Qh.gok k) Tryz.mix (c := Func.code Tryz.f130) (ann := Qh.ann k) (tin := Qh.tin) (tout := Qh.tout) (fun x K => Qh.c k x.1 K) Tryz.func130 (by kernel_rfl) (by kernel_rfl) (Q1.seq Q1.nil (Q1.seq (Q1.loop (by kernel_rfl) (Qh.p0.ok k)) (Q1.seq (Q1.loop (by kernel_rfl) (Qh.p1.ok k)) Q1.nil))) (Qh.body k)
abbrev Q0F.l0.σ : Type := Int × (List Int) × Unit
abbrev Q0F.l0.τ : Type := (Int × Unit) ⊕ (Unit)
def Q0F.l0.r (k : Nat) {ρ : Type} (x : Q0F.l0.σ) (kn : Q0F.l0.σ → Option ρ) (ke : Q0F.l0.τ → Option ρ) : Option ρ :=
 bif (decide (x.1 ≥ (0 : Int))) then (bif (decide (((0 : Int) ≤ x.1) ∧ (x.1 < ((4 : Nat) : Int)))) then (let v0 : Int := (List.getD x.2.1 (Int.toNat x.1) (0 : Int))
 bif (v0 != (0 : Int)) then (let v1 : Int := (IntKind.wrap IntKind.i64 (x.1 * (64 : Int)))
 bif (decide (((0 : Int) ≤ x.1) ∧ (x.1 < ((4 : Nat) : Int)))) then (let v2 : Int := (List.getD x.2.1 (Int.toNat x.1) (0 : Int))
 (Qh k v2).bind fun t3 => let v4 : Int := (IntKind.wrap IntKind.i64 (v1 + t3.1))
 ke (.inl (v4, ()))) else (none)) else (let v5 : Int := (IntKind.wrap IntKind.i64 (x.1 - (1 : Int)))
 kn (v5, (x.2.1, ())))) else (none)) else (ke (.inr ()))
def Q0F.l0 (k : Nat) : Nat → Q0F.l0.σ → Option Q0F.l0.τ := Q14 (Q0F.l0.r k)
def Q0F.l0.T : StT := ⟨us 1 ++ .ptr 0 [] :: us 1 ++ .dat (.int .i64) :: us 15, [.dat QfO]⟩
def Q0F.l0.os : List Out := [⟨.ret, [.mask [2], .auto 0], ⟨us 2 ++ .dat (.int .i64) :: us 16, []⟩⟩, ⟨(.exit 0), [.mask [], .auto 0], ⟨us 19, []⟩⟩]
def Q0F.c (k : Nat) {ρ : Type} (a : (List Int)) (K : Int × Unit → Option ρ) : Option ρ :=
 (Q0F.l0 k k ((3 : Int), (a, ()))).bind fun t6 => (match t6 with | .inl t7 => (K (t7.1, ())) | .inr (t8) => (K ((0 : Int), ())))
def Q0F (k : Nat) (a : (List Int)) : Option (Int × Unit) := Q0F.c k a some
def Q0F.tin : List Ty := [QfO]
def Q0F.tout : List Ty := [(.int .i64)]
def Q0F.sem (k : Nat) : QP := QW Q0F.tin Q0F.tout fun x => Q0F k x.1
noncomputable def Q0F.ctx (k : Nat) : Ctx := ⟨Tryz.prog, gam [(130, (Qh.sem k))]⟩
theorem Q0F.gok (k : Nat) : ∀ f, QF Tryz.prog f ((Q0F.ctx k).Γ f) := (Qk (Qh.sem_ok k) QX)
theorem Q0F.l0.round (k : Nat) : Q10 (Q0F.ctx k) (QM (Func.code Tryz.f120) [1, 0, 1, 0, 0]) (.nil) Q0F.l0.T [.mask [1, 3], .auto 0] Q0F.l0.os (Q0F.l0.r k) := by
 intro ρ x kn ke; kernel_rfl
theorem Q0F.l0.ok (k : Nat) : StOK 0 Tryz.prog (.loop (QM (Func.code Tryz.f120) [1, 0, 1, 0, 0])) (Qn Q0F.l0.T Q0F.l0.os (Q0F.l0 k k)) :=
 Q11 (C := Q0F.ctx k) (Q0F.gok k) Tryz.mix Q1.nil (by kernel_rfl) (by kernel_rfl) (by kernel_rfl) (Q0F.l0.round k) k
def Q0F.ann (k : Nat) : Ann := .node [] none (.nil) (.node [] none (.node [] none (.nil) (.node [] none (.node [.mask [1, 3], .auto 0] (some (Qn Q0F.l0.T Q0F.l0.os (Q0F.l0 k k))) .nil .nil) (.nil))) (.nil))
theorem Q0F.body (k : Nat) : Q0R (Q0F.ctx k) Tryz.f120 (Func.code Tryz.f120) (Q0F.ann k) Q0F.tin Q0F.tout (fun x K => Q0F.c k x.1 K) := by
 intro ρ x K; kernel_rfl
theorem Q0F.sem_ok (k : Nat) : QF Tryz.prog 120 (Q0F.sem k) :=
 QD (C := Q0F.ctx k) (Q0F.gok k) Tryz.mix (c := Func.code Tryz.f120) (ann := Q0F.ann k) (tin := Q0F.tin) (tout := Q0F.tout) (fun x K => Q0F.c k x.1 K) Tryz.func120 (by kernel_rfl) (by kernel_rfl) (Q1.seq Q1.nil (Q1.seq (Q1.seq Q1.nil (Q1.block (Q1.loop (by kernel_rfl) (Q0F.l0.ok k)))) Q1.nil)) (Q0F.body k)
abbrev Q0g.l0.σ : Type := Int × Int × (List Int) × (List Int) × (List Int) × Unit
abbrev Q0g.l0.τ : Type := (Int × (List Int) × (List Int) × (List Int) × Unit)
def Q0g.l0.r (k : Nat) {ρ : Type} (x : Q0g.l0.σ) (kn : Q0g.l0.σ → Option ρ) (ke : Q0g.l0.τ → Option ρ) : Option ρ :=
 let v5 : Int := (IntKind.wrap IntKind.i64 (Int.tdiv x.1 (64 : Int)))
 bif (decide (x.2.1 ≥ v5)) then (let v6 : Int := (IntKind.wrap IntKind.i64 (Int.tdiv x.1 (64 : Int)))
 let v7 : Int := (IntKind.wrap IntKind.i64 (x.2.1 - v6))
 bif (decide (((0 : Int) ≤ v7) ∧ (v7 < ((4 : Nat) : Int)))) then (let v8 : Int := (List.getD x.2.2.1 (Int.toNat v7) (0 : Int))
 let v9 : Int := (Int.tmod x.1 (64 : Int))
 bif (decide ((0 : Int) ≤ v9)) then (bif (decide (((0 : Int) ≤ x.2.1) ∧ (x.2.1 < ((4 : Nat) : Int)))) then (bif (decide (v7 > (0 : Int))) then (bif (decide (((0 : Int) ≤ x.2.1) ∧ (x.2.1 < ((4 : Nat) : Int)))) then (let v10 : Int := (List.getD (List.set x.2.2.2.2.1 (Int.toNat x.2.1) (Q1W IntKind.u64 v8 v9)) (Int.toNat x.2.1) (0 : Int))
 let v11 : Int := (IntKind.wrap IntKind.i64 (v7 - (1 : Int)))
 bif (decide (((0 : Int) ≤ v11) ∧ (v11 < ((4 : Nat) : Int)))) then (let v12 : Int := (List.getD x.2.2.1 (Int.toNat v11) (0 : Int))
 let v13 : Int := (Int.tmod x.1 (64 : Int))
 let v14 : Int := (IntKind.wrap IntKind.i64 ((64 : Int) - v13))
 bif (decide ((0 : Int) ≤ v14)) then (let v15 : Int := (Q0S BinOp.or IntKind.u64 v10 (Q1H IntKind.u64 v12 v14))
 bif (decide (((0 : Int) ≤ x.2.1) ∧ (x.2.1 < ((4 : Nat) : Int)))) then (let v16 : Int := (IntKind.wrap IntKind.i64 (x.2.1 - (1 : Int)))
 kn (x.1, (v16, (x.2.2.1, (x.2.2.2.1, ((List.set (List.set x.2.2.2.2.1 (Int.toNat x.2.1) (Q1W IntKind.u64 v8 v9)) (Int.toNat x.2.1) v15), ())))))) else (none)) else (none)) else (none)) else (none)) else (let v17 : Int := (IntKind.wrap IntKind.i64 (x.2.1 - (1 : Int)))
 kn (x.1, (v17, (x.2.2.1, (x.2.2.2.1, ((List.set x.2.2.2.2.1 (Int.toNat x.2.1) (Q1W IntKind.u64 v8 v9)), ()))))))) else (none)) else (none)) else (none)) else (ke (x.1, (x.2.2.1, (x.2.2.2.1, (x.2.2.2.2.1, ())))))
def Q0g.l0 (k : Nat) : Nat → Q0g.l0.σ → Option Q0g.l0.τ := Q14 (Q0g.l0.r k)
def Q0g.l0.T : StT := ⟨us 1 ++ .dat (.int .i64) :: .ptr 0 [] :: us 1 ++ .ptr 1 [] :: us 1 ++ .ptr 2 [] :: .dat (.int .i64) :: us 55, [.dat QfO, .dat QfO, .dat QfO]⟩
def Q0g.l0.os : List Out := [⟨(.exit 1), [.mask [1, 2, 4, 6], .auto 0], ⟨us 1 ++ .dat (.int .i64) :: .ptr 0 [] :: us 1 ++ .ptr 1 [] :: us 1 ++ .ptr 2 [] :: us 56, [.dat QfO, .dat QfO, .dat QfO]⟩⟩]
def Q0g.c (k : Nat) {ρ : Type} (a : (List Int)) (n : Int) (K : (List Int) × Bool × Unit → Option ρ) : Option ρ :=
 bif (decide (n < (0 : Int))) then (let v0 : Int := (if ((-(256 : Int)) > n) then (-(256 : Int)) else n)
 let v1 : Int := (IntKind.wrap IntKind.i64 ((0 : Int) - v0))
 (Q1I k a v1).bind fun t2 => K (t2.1, (false, ()))) else (bif (decide (n ≥ (256 : Int))) then (let v3 : (List Int) := (List.replicate 4 (0 : Int))
 (Q1j k a).bind fun t4 => K (v3, ((!t4.1), ()))) else ((Q0g.l0 k k (n, ((3 : Int), (a, ((List.replicate 4 (0 : Int)), ((List.replicate 4 (0 : Int)), ())))))).bind fun t18 => let v19 : (List Int) := t18.2.2.2.1
 let v20 : (List Int) := t18.2.1
 (Q0F k v20).bind fun t21 => let v22 : Int := (IntKind.wrap IntKind.i64 (t21.1 + t18.1))
 K (v19, ((decide (v22 > (256 : Int))), ()))))
def Q0g (k : Nat) (a : (List Int)) (n : Int) : Option ((List Int) × Bool × Unit) := Q0g.c k a n some
def Q0g.tin : List Ty := [QfO, (.int .i64)]
def Q0g.tout : List Ty := [QfO, .bool]
def Q0g.sem (k : Nat) : QP := QW Q0g.tin Q0g.tout fun x => Q0g k x.1 x.2.1
noncomputable def Q0g.ctx (k : Nat) : Ctx := ⟨Tryz.prog, gam [(128, (Q1I.sem k)), (103, (Q1j.sem k)), (120, (Q0F.sem k))]⟩
theorem Q0g.gok (k : Nat) : ∀ f, QF Tryz.prog f ((Q0g.ctx k).Γ f) := (Qk (Q1I.sem_ok k) (Qk (Q1j.sem_ok k) (Qk (Q0F.sem_ok k) QX)))
theorem Q0g.l0.round (k : Nat) : Q10 (Q0g.ctx k) (QM (Func.code Tryz.f129) [1, 1, 1, 0, 1, 0, 0]) (.nil) Q0g.l0.T [.mask [1, 2, 4, 6, 7], .auto 0] Q0g.l0.os (Q0g.l0.r k) := by
 intro ρ x kn ke; kernel_rfl
theorem Q0g.l0.ok (k : Nat) : StOK 0 Tryz.prog (.loop (QM (Func.code Tryz.f129) [1, 1, 1, 0, 1, 0, 0])) (Qn Q0g.l0.T Q0g.l0.os (Q0g.l0 k k)) :=
 Q11 (C := Q0g.ctx k) (Q0g.gok k) Tryz.mix Q1.nil (by kernel_rfl) (by kernel_rfl) (by kernel_rfl) (Q0g.l0.round k) k
def Q0g.ann (k : Nat) : Ann := .node [] none (.nil) (.node [] none (.nil) (.node [] none (.nil) (.node [] none (.node [] none (.nil) (.node [] none (.node [.mask [1, 2, 4, 6, 7], .auto 0] (some (Qn Q0g.l0.T Q0g.l0.os (Q0g.l0 k k))) .nil .nil) (.nil))) (.nil))))
theorem Q0g.body (k : Nat) : Q0R (Q0g.ctx k) Tryz.f129 (Func.code Tryz.f129) (Q0g.ann k) Q0g.tin Q0g.tout (fun x K => Q0g.c k x.1 x.2.1 K) := by
 intro ρ x K; kernel_rfl
theorem Q0g.sem_ok (k : Nat) : QF Tryz.prog 129 (Q0g.sem k) :=
 QD (C := Q0g.ctx k) (Q0g.gok k) Tryz.mix (c := Func.code Tryz.f129) (ann := Q0g.ann k) (tin := Q0g.tin) (tout := Q0g.tout) (fun x K => Q0g.c k x.1 x.2.1 K) Tryz.func129 (by kernel_rfl) (by kernel_rfl) (Q1.seq Q1.nil (Q1.seq Q1.nil (Q1.seq Q1.nil (Q1.seq (Q1.seq Q1.nil (Q1.block (Q1.loop (by kernel_rfl) (Q0g.l0.ok k)))) Q1.nil)))) (Q0g.body k)
abbrev Q0u.l0.σ : Type := Int × Int × (List Int) × (List Int) × (List Int) × Unit
abbrev Q0u.l0.τ : Type := QfL 
def Q0u.l0.r (k : Nat) {ρ : Type} (x : Q0u.l0.σ) (kn : Q0u.l0.σ → Option ρ) (ke : Q0u.l0.τ → Option ρ) : Option ρ :=
 let v5 : Int := (IntKind.wrap IntKind.i64 (Int.tdiv x.1 (64 : Int)))
 let v6 : Int := (IntKind.wrap IntKind.i64 (x.2.1 + v5))
 bif (decide (v6 < (4 : Int))) then (let v7 : Int := (IntKind.wrap IntKind.i64 (Int.tdiv x.1 (64 : Int)))
 let v8 : Int := (IntKind.wrap IntKind.i64 (x.2.1 + v7))
 bif (decide (((0 : Int) ≤ v8) ∧ (v8 < ((4 : Nat) : Int)))) then (let v9 : Int := (List.getD x.2.2.1 (Int.toNat v8) (0 : Int))
 let v10 : Int := (Int.tmod x.1 (64 : Int))
 bif (decide ((0 : Int) ≤ v10)) then (bif (decide (((0 : Int) ≤ x.2.1) ∧ (x.2.1 < ((4 : Nat) : Int)))) then (let v11 : Int := (IntKind.wrap IntKind.i64 (v8 + (1 : Int)))
 bif (decide (v11 < (4 : Int))) then (bif (decide (((0 : Int) ≤ x.2.1) ∧ (x.2.1 < ((4 : Nat) : Int)))) then (let v12 : Int := (List.getD (List.set x.2.2.2.2.1 (Int.toNat x.2.1) (Q1H IntKind.u64 v9 v10)) (Int.toNat x.2.1) (0 : Int))
 let v13 : Int := (IntKind.wrap IntKind.i64 (v8 + (1 : Int)))
 bif (decide (((0 : Int) ≤ v13) ∧ (v13 < ((4 : Nat) : Int)))) then (let v14 : Int := (List.getD x.2.2.1 (Int.toNat v13) (0 : Int))
 let v15 : Int := (Int.tmod x.1 (64 : Int))
 let v16 : Int := (IntKind.wrap IntKind.i64 ((64 : Int) - v15))
 bif (decide ((0 : Int) ≤ v16)) then (let v17 : Int := (Q0S BinOp.or IntKind.u64 v12 (Q1W IntKind.u64 v14 v16))
 bif (decide (((0 : Int) ≤ x.2.1) ∧ (x.2.1 < ((4 : Nat) : Int)))) then (let v18 : Int := (IntKind.wrap IntKind.i64 (x.2.1 + (1 : Int)))
 kn (x.1, (v18, (x.2.2.1, (x.2.2.2.1, ((List.set (List.set x.2.2.2.2.1 (Int.toNat x.2.1) (Q1H IntKind.u64 v9 v10)) (Int.toNat x.2.1) v17), ())))))) else (none)) else (none)) else (none)) else (none)) else (let v19 : Int := (IntKind.wrap IntKind.i64 (x.2.1 + (1 : Int)))
 kn (x.1, (v19, (x.2.2.1, (x.2.2.2.1, ((List.set x.2.2.2.2.1 (Int.toNat x.2.1) (Q1H IntKind.u64 v9 v10)), ()))))))) else (none)) else (none)) else (none)) else (ke (x.2.2.2.1, (x.2.2.2.2.1, ())))
def Q0u.l0 (k : Nat) : Nat → Q0u.l0.σ → Option Q0u.l0.τ := Q14 (Q0u.l0.r k)
def Q0u.l0.T : StT := ⟨us 1 ++ .dat (.int .i64) :: .ptr 0 [] :: us 1 ++ .ptr 1 [] :: us 2 ++ .ptr 2 [] :: .dat (.int .i64) :: us 53, [.dat QfO, .dat QfO, .dat QfO]⟩
def Q0u.l0.os : List Out := [⟨(.exit 1), [.mask [4, 7], .auto 0], ⟨us 4 ++ .ptr 0 [] :: us 2 ++ .ptr 1 [] :: us 54, [.dat QfO, .dat QfO]⟩⟩]
def Q0u.c (k : Nat) {ρ : Type} (a : (List Int)) (n : Int) (K : (List Int) × Unit → Option ρ) : Option ρ :=
 bif (decide (n < (0 : Int))) then (let v0 : Int := (if ((-(256 : Int)) > n) then (-(256 : Int)) else n)
 let v1 : Int := (IntKind.wrap IntKind.i64 ((0 : Int) - v0))
 (Q0g k a v1).bind fun t2 => let v3 : (List Int) := t2.1
 K (v3, ())) else (bif (decide (n ≥ (256 : Int))) then (let v4 : (List Int) := (List.replicate 4 (0 : Int))
 K (v4, ())) else ((Q0u.l0 k k (n, ((0 : Int), (a, ((List.replicate 4 (0 : Int)), ((List.replicate 4 (0 : Int)), ())))))).bind fun t20 => let v21 : (List Int) := t20.2.1
 K (v21, ())))
def Q0u (k : Nat) (a : (List Int)) (n : Int) : Option QfP := Q0u.c k a n some
def Q0u.tin : List Ty := [QfO, (.int .i64)]
def Q0u.tout : List Ty := [QfO]
def Q0u.sem (k : Nat) : QP := QW Q0u.tin Q0u.tout fun x => Q0u k x.1 x.2.1
noncomputable def Q0u.ctx (k : Nat) : Ctx := ⟨Tryz.prog, gam [(129, (Q0g.sem k))]⟩
theorem Q0u.gok (k : Nat) : ∀ f, QF Tryz.prog f ((Q0u.ctx k).Γ f) := (Qk (Q0g.sem_ok k) QX)
theorem Q0u.l0.round (k : Nat) : Q10 (Q0u.ctx k) (QM (Func.code Tryz.f128) [1, 1, 1, 0, 1, 0, 0]) (.nil) Q0u.l0.T [.mask [1, 2, 4, 7, 8], .auto 0] Q0u.l0.os (Q0u.l0.r k) := by
 intro ρ x kn ke; kernel_rfl
theorem Q0u.l0.ok (k : Nat) : StOK 0 Tryz.prog (.loop (QM (Func.code Tryz.f128) [1, 1, 1, 0, 1, 0, 0])) (Qn Q0u.l0.T Q0u.l0.os (Q0u.l0 k k)) :=
 Q11 (C := Q0u.ctx k) (Q0u.gok k) Tryz.mix Q1.nil (by kernel_rfl) (by kernel_rfl) (by kernel_rfl) (Q0u.l0.round k) k
def Q0u.ann (k : Nat) : Ann := .node [] none (.nil) (.node [] none (.nil) (.node [] none (.nil) (.node [] none (.node [] none (.nil) (.node [] none (.node [.mask [1, 2, 4, 7, 8], .auto 0] (some (Qn Q0u.l0.T Q0u.l0.os (Q0u.l0 k k))) .nil .nil) (.nil))) (.nil))))
theorem Q0u.body (k : Nat) : Q0R (Q0u.ctx k) Tryz.f128 (Func.code Tryz.f128) (Q0u.ann k) Q0u.tin Q0u.tout (fun x K => Q0u.c k x.1 x.2.1 K) := by
 intro ρ x K; kernel_rfl
theorem Q0u.sem_ok (k : Nat) : QF Tryz.prog 128 (Q0u.sem k) :=
 QD (C := Q0u.ctx k) (Q0u.gok k) Tryz.mix (c := Func.code Tryz.f128) (ann := Q0u.ann k) (tin := Q0u.tin) (tout := Q0u.tout) (fun x K => Q0u.c k x.1 x.2.1 K) Tryz.func128 (by kernel_rfl) (by kernel_rfl) (Q1.seq Q1.nil (Q1.seq Q1.nil (Q1.seq Q1.nil (Q1.seq (Q1.seq Q1.nil (Q1.block (Q1.loop (by kernel_rfl) (Q0u.l0.ok k)))) Q1.nil)))) (Q0u.body k)
def Q0O.c (k : Nat) {ρ : Type} (w : (List Int)) (bytes : Int) (K : (List Int) × Unit → Option ρ) : Option ρ :=
 bif (decide (bytes < (0 : Int))) then (let v0 : Int := (IntKind.wrap IntKind.i64 ((0 : Int) - bytes))
 let v1 : Int := (IntKind.wrap IntKind.i64 (v0 * (8 : Int)))
 (Q0u k w v1).bind fun t2 => K (t2.1, ())) else (let v3 : Int := (IntKind.wrap IntKind.i64 (bytes * (8 : Int)))
 (Q0g k w v3).bind fun t4 => let v5 : (List Int) := t4.1
 K (v5, ()))
def Q0O (k : Nat) (w : (List Int)) (bytes : Int) : Option QfP := Q0O.c k w bytes some
def Q0O.tin : List Ty := [QfO, (.int .i64)]
def Q0O.tout : List Ty := [QfO]
def Q0O.sem (k : Nat) : QP := QW Q0O.tin Q0O.tout fun x => Q0O k x.1 x.2.1
noncomputable def Q0O.ctx (k : Nat) : Ctx := ⟨Tryz.prog, gam [(128, (Q0u.sem k)), (129, (Q0g.sem k))]⟩
theorem Q0O.gok (k : Nat) : ∀ f, QF Tryz.prog f ((Q0O.ctx k).Γ f) := (Qk (Q0u.sem_ok k) (Qk (Q0g.sem_ok k) QX))
def Q0O.ann (k : Nat) : Ann := .nil
theorem Q0O.body (k : Nat) : Q0R (Q0O.ctx k) Tryz.f119 (Func.code Tryz.f119) (Q0O.ann k) Q0O.tin Q0O.tout (fun x K => Q0O.c k x.1 x.2.1 K) := by
 intro ρ x K; kernel_rfl
theorem Q0O.sem_ok (k : Nat) : QF Tryz.prog 119 (Q0O.sem k) :=
 QD (C := Q0O.ctx k) (Q0O.gok k) Tryz.mix (c := Func.code Tryz.f119) (ann := Q0O.ann k) (tin := Q0O.tin) (tout := Q0O.tout) (fun x K => Q0O.c k x.1 x.2.1 K) Tryz.func119 (by kernel_rfl) (by kernel_rfl) Q1.nil (Q0O.body k)
def Q1h.c (k : Nat) {ρ : Type} (bits : Int) (K : (List Int) × Bool × Unit → Option ρ) : Option ρ :=
 let v0 : Int := (Q1H IntKind.u32 bits (24 : Int))
 let v1 : Int := (Q0S BinOp.and IntKind.u32 bits (8388607 : Int))
 (Q1s k (IntKind.wrap IntKind.u64 v1)).bind fun t2 => bif (decide ((IntKind.wrap IntKind.i64 v0) ≤ (3 : Int))) then (let v3 : (List Int) := t2.1
 let v4 : Int := (IntKind.wrap IntKind.i64 ((IntKind.wrap IntKind.i64 v0) - (3 : Int)))
 (Q0O k v3 v4).bind fun t5 => K (t5.1, (true, ()))) else (let v6 : (List Int) := t2.1
 (Q1j k v6).bind fun t7 => bif t7.1 then (let v8 : (List Int) := t2.1
 K (v8, (true, ()))) else (let v9 : (List Int) := t2.1
 (Q0F k v9).bind fun t10 => let v11 : Int := (IntKind.wrap IntKind.i64 ((IntKind.wrap IntKind.i64 v0) - (3 : Int)))
 let v12 : Int := (IntKind.wrap IntKind.i64 (v11 * (8 : Int)))
 let v13 : Int := (IntKind.wrap IntKind.i64 (t10.1 + v12))
 bif (decide (v13 > (256 : Int))) then (let v14 : (List Int) := (List.replicate 4 (0 : Int))
 K (v14, (false, ()))) else (let v15 : (List Int) := t2.1
 let v16 : Int := (IntKind.wrap IntKind.i64 ((IntKind.wrap IntKind.i64 v0) - (3 : Int)))
 (Q0O k v15 v16).bind fun t17 => K (t17.1, (true, ())))))
def Q1h (k : Nat) (bits : Int) : Option ((List Int) × Bool × Unit) := Q1h.c k bits some
def Q1h.tin : List Ty := [(.int .u32)]
def Q1h.tout : List Ty := [QfO, .bool]
def Q1h.sem (k : Nat) : QP := QW Q1h.tin Q1h.tout fun x => Q1h k x.1
noncomputable def Q1h.ctx (k : Nat) : Ctx := ⟨Tryz.prog, gam [(118, (Q1s.sem k)), (119, (Q0O.sem k)), (103, (Q1j.sem k)), (120, (Q0F.sem k))]⟩
theorem Q1h.gok (k : Nat) : ∀ f, QF Tryz.prog f ((Q1h.ctx k).Γ f) := (Qk (Q1s.sem_ok k) (Qk (Q0O.sem_ok k) (Qk (Q1j.sem_ok k) (Qk (Q0F.sem_ok k) QX))))
def Q1h.ann (k : Nat) : Ann := .nil
theorem Q1h.body (k : Nat) : Q0R (Q1h.ctx k) Tryz.f102 (Func.code Tryz.f102) (Q1h.ann k) Q1h.tin Q1h.tout (fun x K => Q1h.c k x.1 K) := by
 intro ρ x K; kernel_rfl
theorem Q1h.sem_ok (k : Nat) : QF Tryz.prog 102 (Q1h.sem k) :=
 QD (C := Q1h.ctx k) (Q1h.gok k) Tryz.mix (c := Func.code Tryz.f102) (ann := Q1h.ann k) (tin := Q1h.tin) (tout := Q1h.tout) (fun x K => Q1h.c k x.1 K) Tryz.func102 (by kernel_rfl) (by kernel_rfl) Q1.nil (Q1h.body k)
def Q16.c (k : Nat) {ρ : Type}  (K : (List Int) × Unit → Option ρ) : Option ρ :=
 (Q1h k (545259519 : Int)).bind fun t0 => let v1 : (List Int) := t0.1
 K (v1, ())
def Q16 (k : Nat)  : Option QfP := Q16.c k  some
def Q16.tin : List Ty := []
def Q16.tout : List Ty := [QfO]
def Q16.sem (k : Nat) : QP := QW Q16.tin Q16.tout fun x => Q16 k 
noncomputable def Q16.ctx (k : Nat) : Ctx := ⟨Tryz.prog, gam [(102, (Q1h.sem k))]⟩
theorem Q16.gok (k : Nat) : ∀ f, QF Tryz.prog f ((Q16.ctx k).Γ f) := (Qk (Q1h.sem_ok k) QX)
def Q16.ann (k : Nat) : Ann := .nil
theorem Q16.body (k : Nat) : Q0R (Q16.ctx k) Tryz.f104 (Func.code Tryz.f104) (Q16.ann k) Q16.tin Q16.tout (fun x K => Q16.c k  K) := by
 intro ρ x K; kernel_rfl
theorem Q16.sem_ok (k : Nat) : QF Tryz.prog 104 (Q16.sem k) :=
 QD (C := Q16.ctx k) (Q16.gok k) Tryz.mix (c := Func.code Tryz.f104) (ann := Q16.ann k) (tin := Q16.tin) (tout := Q16.tout) (fun x K => Q16.c k  K) Tryz.func104 (by kernel_rfl) (by kernel_rfl) Q1.nil (Q16.body k)
abbrev Q4.l0.σ : Type := (Nat × Nat) × Int × Int × (List Int) × Unit
abbrev Q4.l0.τ : Type := QfP 
def Q4.l0.r (k : Nat) {ρ : Type} (x : Q4.l0.σ) (kn : Q4.l0.σ → Option ρ) (ke : Q4.l0.τ → Option ρ) : Option ρ :=
 bif (decide (x.2.1 < x.2.2.1)) then (bif (decide (((0 : Int) ≤ x.2.2.1) ∧ (x.2.2.1 < ((x.1.2 : Nat) : Int)))) then (let v1 : Int := (List.getD x.2.2.2.1 (x.1.1 + (Int.toNat x.2.2.1)) (0 : Int))
 bif (decide (((0 : Int) ≤ x.2.1) ∧ (x.2.1 < ((x.1.2 : Nat) : Int)))) then (let v2 : Int := (List.getD x.2.2.2.1 (x.1.1 + (Int.toNat x.2.1)) (0 : Int))
 bif (decide (((0 : Int) ≤ x.2.1) ∧ (x.2.1 < ((x.1.2 : Nat) : Int)))) then (bif (decide (((0 : Int) ≤ x.2.2.1) ∧ (x.2.2.1 < ((x.1.2 : Nat) : Int)))) then (let v3 : Int := (IntKind.wrap IntKind.i64 (x.2.1 + (1 : Int)))
 let v4 : Int := (IntKind.wrap IntKind.i64 (x.2.2.1 - (1 : Int)))
 kn ((x.1.1, x.1.2), (v3, (v4, ((List.set (List.set x.2.2.2.1 (x.1.1 + (Int.toNat x.2.1)) v1) (x.1.1 + (Int.toNat x.2.2.1)) v2), ()))))) else (none)) else (none)) else (none)) else (none)) else (ke (x.2.2.2.1, ()))
def Q4.l0 (k : Nat) : Nat → Q4.l0.σ → Option Q4.l0.τ := Q14 (Q4.l0.r k)
def Q4.l0.T : StT := ⟨.slr 0 [] :: us 1 ++ .dat (.int .i64) :: .dat (.int .i64) :: us 24, [.dat QfO]⟩
def Q4.l0.os : List Out := [⟨(.exit 0), [.mask [], .auto 1], ⟨us 28, [.dat QfO]⟩⟩]
abbrev Q4.τ : Type := QfP 
def Q4.c (k : Nat) {ρ : Type} (s : (Nat × Nat)) (b0 : (List Int)) (K : Q4.τ → Option ρ) : Option ρ :=
 let v0 : Int := (IntKind.wrap IntKind.i64 (((s.2 : Nat) : Int) - (1 : Int)))
 (Q4.l0 k k ((s.1, s.2), ((0 : Int), (v0, (b0, ()))))).bind fun t5 => K (t5.1, ())
def Q4 (k : Nat) (s : (Nat × Nat)) (b0 : (List Int)) : Option Q4.τ := Q4.c k s b0 some
def Q4.T : Q1T := ⟨[.slr 0 []], [.dat QfO], 1⟩
def Q4.os : List Out := [⟨.ret, [.auto 1], ⟨[], [.dat QfO]⟩⟩]
def Q4.sem (k : Nat) : QP := Q24 Q4.T Q4.os fun x => Q4 k x.1 x.2.1
noncomputable def Q4.ctx (k : Nat) : Ctx := ⟨Tryz.prog, gam []⟩
theorem Q4.gok (k : Nat) : ∀ f, QF Tryz.prog f ((Q4.ctx k).Γ f) := QX
theorem Q4.l0.round (k : Nat) : Q10 (Q4.ctx k) (QM (Func.code Tryz.f105) [1, 0, 0]) (.nil) Q4.l0.T [.mask [0, 2, 3], .auto 1] Q4.l0.os (Q4.l0.r k) := by
 intro ρ x kn ke; kernel_rfl
theorem Q4.l0.ok (k : Nat) : StOK 1 Tryz.prog (.loop (QM (Func.code Tryz.f105) [1, 0, 0])) (Qn Q4.l0.T Q4.l0.os (Q4.l0 k k)) :=
 Q11 (C := Q4.ctx k) (Q4.gok k) Tryz.mix Q1.nil (by kernel_rfl) (by kernel_rfl) (by kernel_rfl) (Q4.l0.round k) k
def Q4.ann (k : Nat) : Ann := .node [] none (.nil) (.node [] none (.node [.mask [0, 2, 3], .auto 1] (some (Qn Q4.l0.T Q4.l0.os (Q4.l0 k k))) .nil .nil) (.nil))
theorem Q4.body (k : Nat) : Q23 (Q4.ctx k) Tryz.f105 (Func.code Tryz.f105) (Q4.ann k) Q4.T Q4.os (fun x K => Q4.c k x.1 x.2.1 K) := by
 intro ρ x K; kernel_rfl
theorem Q4.sem_ok (k : Nat) : QF Tryz.prog 105 (Q4.sem k) :=
 Q1x (C := Q4.ctx k) (Q4.gok k) Tryz.mix (c := Func.code Tryz.f105) (ann := Q4.ann k) (T := Q4.T) (os := Q4.os) (fun x K => Q4.c k x.1 x.2.1 K) Tryz.func105 (by kernel_rfl) (by kernel_rfl) (Q1.seq Q1.nil (Q1.block (Q1.loop (by kernel_rfl) (Q4.l0.ok k)))) (Q4.body k) (by kernel_rfl) (by kernel_rfl) (by kernel_rfl)
def Q0D.c (k : Nat) {ρ : Type} (x_0 : Int) (K : Bool × Unit → Option ρ) : Option ρ :=
 K ((x_0 != x_0), ())
def Q0D (k : Nat) (x_0 : Int) : Option (Bool × Unit) := Q0D.c k x_0 some
def Q0D.tin : List Ty := [(.int .u64)]
def Q0D.tout : List Ty := [.bool]
def Q0D.sem (k : Nat) : QP := QW Q0D.tin Q0D.tout fun x => Q0D k x.1
noncomputable def Q0D.ctx (k : Nat) : Ctx := ⟨Tryz.prog, gam []⟩
theorem Q0D.gok (k : Nat) : ∀ f, QF Tryz.prog f ((Q0D.ctx k).Γ f) := QX
def Q0D.ann (k : Nat) : Ann := .nil
theorem Q0D.body (k : Nat) : Q0R (Q0D.ctx k) Tryz.f131 (Func.code Tryz.f131) (Q0D.ann k) Q0D.tin Q0D.tout (fun x K => Q0D.c k x.1 K) := by
 intro ρ x K; kernel_rfl
theorem Q0D.sem_ok (k : Nat) : QF Tryz.prog 131 (Q0D.sem k) :=
 QD (C := Q0D.ctx k) (Q0D.gok k) Tryz.mix (c := Func.code Tryz.f131) (ann := Q0D.ann k) (tin := Q0D.tin) (tout := Q0D.tout) (fun x K => Q0D.c k x.1 K) Tryz.func131 (by kernel_rfl) (by kernel_rfl) Q1.nil (Q0D.body k)
def Q0o.c (k : Nat) {ρ : Type} (x_0 : Int) (y : Int) (K : Int × Unit → Option ρ) : Option ρ :=
 (Q0D k x_0).bind fun t0 => (Q0D k y).bind fun t1 => bif t0.1 then (bif t1.1 then (K ((0 : Int), ())) else (K ((-(1 : Int)), ()))) else (bif t1.1 then (K ((1 : Int), ())) else (bif (decide (x_0 < y)) then (K ((-(1 : Int)), ())) else (bif (decide (x_0 > y)) then (K ((1 : Int), ())) else (K ((0 : Int), ())))))
def Q0o (k : Nat) (x_0 : Int) (y : Int) : Option (Int × Unit) := Q0o.c k x_0 y some
def Q0o.tin : List Ty := [(.int .u64), (.int .u64)]
def Q0o.tout : List Ty := [(.int .i64)]
def Q0o.sem (k : Nat) : QP := QW Q0o.tin Q0o.tout fun x => Q0o k x.1 x.2.1
noncomputable def Q0o.ctx (k : Nat) : Ctx := ⟨Tryz.prog, gam [(131, (Q0D.sem k))]⟩
theorem Q0o.gok (k : Nat) : ∀ f, QF Tryz.prog f ((Q0o.ctx k).Γ f) := (Qk (Q0D.sem_ok k) QX)
def Q0o.ann (k : Nat) : Ann := .nil
theorem Q0o.body (k : Nat) : Q0R (Q0o.ctx k) Tryz.f121 (Func.code Tryz.f121) (Q0o.ann k) Q0o.tin Q0o.tout (fun x K => Q0o.c k x.1 x.2.1 K) := by
 intro ρ x K; kernel_rfl
theorem Q0o.sem_ok (k : Nat) : QF Tryz.prog 121 (Q0o.sem k) :=
 QD (C := Q0o.ctx k) (Q0o.gok k) Tryz.mix (c := Func.code Tryz.f121) (ann := Q0o.ann k) (tin := Q0o.tin) (tout := Q0o.tout) (fun x K => Q0o.c k x.1 x.2.1 K) Tryz.func121 (by kernel_rfl) (by kernel_rfl) Q1.nil (Q0o.body k)
abbrev Q6.l0.σ : Type := (List Int) × (List Int) × (List Int) × Int × Int × Unit
abbrev Q6.l0.τ : Type := (Int × Unit) ⊕ QfL 
def Q6.l0.r (k : Nat) {ρ : Type} (x : Q6.l0.σ) (kn : Q6.l0.σ → Option ρ) (ke : Q6.l0.τ → Option ρ) : Option ρ :=
 bif (decide (x.2.2.2.2.1 < x.2.2.2.1)) then (bif (decide (((0 : Int) ≤ x.2.2.2.2.1) ∧ (x.2.2.2.2.1 < (((List.length x.2.2.1) : Nat) : Int)))) then (let v1 : Int := (List.getD x.2.2.1 (Int.toNat x.2.2.2.2.1) (0 : Int))
 let v2 : Int := (((List.length x.2.1) : Nat) : Int)
 bif (decide (x.2.2.2.2.1 ≥ v2)) then (ke (.inl ((1 : Int), ()))) else (bif (decide (((0 : Int) ≤ x.2.2.2.2.1) ∧ (x.2.2.2.2.1 < (((List.length x.2.1) : Nat) : Int)))) then (let v3 : Int := (List.getD x.2.1 (Int.toNat x.2.2.2.2.1) (0 : Int))
 (Q0o k v1 v3).bind fun t4 => bif (t4.1 != (0 : Int)) then (ke (.inl (t4.1, ()))) else (let v5 : Int := (IntKind.wrap IntKind.i64 (x.2.2.2.2.1 + (1 : Int)))
 kn (x.1, (x.2.1, (x.2.2.1, (x.2.2.2.1, (v5, ()))))))) else (none))) else (none)) else (ke (.inr (x.1, (x.2.1, ()))))
def Q6.l0 (k : Nat) : Nat → Q6.l0.σ → Option Q6.l0.τ := Q14 (Q6.l0.r k)
def Q6.l0.T : StT := ⟨.dat QfQ :: .dat QfQ :: us 7 ++ .dat QfQ :: .dat (.int .i64) :: .dat (.int .i64) :: us 24, []⟩
def Q6.l0.os : List Out := [⟨.ret, [.mask [4], .auto 0], ⟨us 4 ++ .dat (.int .i64) :: us 31, []⟩⟩, ⟨(.exit 0), [.mask [0, 1], .auto 0], ⟨.dat QfQ :: .dat QfQ :: us 34, []⟩⟩]
def Q6.c (k : Nat) {ρ : Type} (s1 : (List Int)) (s2 : (List Int)) (K : Int × Unit → Option ρ) : Option ρ :=
 let v0 : Int := (((List.length s1) : Nat) : Int)
 (Q6.l0 k k (s1, (s2, (s1, (v0, ((0 : Int), ())))))).bind fun t6 => (match t6 with | .inl t7 => (K (t7.1, ())) | .inr (t8) => (let v9 : Int := (((List.length t8.1) : Nat) : Int)
 let v10 : Int := (((List.length t8.2.1) : Nat) : Int)
 bif (decide (v9 < v10)) then (K ((-(1 : Int)), ())) else (K ((0 : Int), ()))))
def Q6 (k : Nat) (s1 : (List Int)) (s2 : (List Int)) : Option (Int × Unit) := Q6.c k s1 s2 some
def Q6.tin : List Ty := [QfQ, QfQ]
def Q6.tout : List Ty := [(.int .i64)]
def Q6.sem (k : Nat) : QP := QW Q6.tin Q6.tout fun x => Q6 k x.1 x.2.1
noncomputable def Q6.ctx (k : Nat) : Ctx := ⟨Tryz.prog, gam [(121, (Q0o.sem k))]⟩
theorem Q6.gok (k : Nat) : ∀ f, QF Tryz.prog f ((Q6.ctx k).Γ f) := (Qk (Q0o.sem_ok k) QX)
theorem Q6.l0.round (k : Nat) : Q10 (Q6.ctx k) (QM (Func.code Tryz.f106) [1, 0, 1, 0, 0]) (.nil) Q6.l0.T [.mask [0, 1, 9, 10, 11], .auto 0] Q6.l0.os (Q6.l0.r k) := by
 intro ρ x kn ke; kernel_rfl
theorem Q6.l0.ok (k : Nat) : StOK 0 Tryz.prog (.loop (QM (Func.code Tryz.f106) [1, 0, 1, 0, 0])) (Qn Q6.l0.T Q6.l0.os (Q6.l0 k k)) :=
 Q11 (C := Q6.ctx k) (Q6.gok k) Tryz.mix Q1.nil (by kernel_rfl) (by kernel_rfl) (by kernel_rfl) (Q6.l0.round k) k
def Q6.ann (k : Nat) : Ann := .node [] none (.nil) (.node [] none (.node [] none (.nil) (.node [] none (.node [] (some (Qn Q6.l0.T Q6.l0.os (Q6.l0 k k))) .nil .nil) (.nil))) (.nil))
theorem Q6.body (k : Nat) : Q0R (Q6.ctx k) Tryz.f106 (Func.code Tryz.f106) (Q6.ann k) Q6.tin Q6.tout (fun x K => Q6.c k x.1 x.2.1 K) := by
 intro ρ x K; kernel_rfl
theorem Q6.sem_ok (k : Nat) : QF Tryz.prog 106 (Q6.sem k) :=
 QD (C := Q6.ctx k) (Q6.gok k) Tryz.mix (c := Func.code Tryz.f106) (ann := Q6.ann k) (tin := Q6.tin) (tout := Q6.tout) (fun x K => Q6.c k x.1 x.2.1 K) Tryz.func106 (by kernel_rfl) (by kernel_rfl) (Q1.seq Q1.nil (Q1.seq (Q1.seq Q1.nil (Q1.block (Q1.loop (by kernel_rfl) (Q6.l0.ok k)))) Q1.nil)) (Q6.body k)
def Q0V.c (k : Nat) {ρ : Type} (a : (List Int)) (b : (List Int)) (K : Int × Unit → Option ρ) : Option ρ :=
 (Q4 k (0, 4) a).bind fun t0 => (Q4 k (0, 4) b).bind fun t1 => (Q6 k (List.take 4 (List.drop 0 t0.1)) (List.take 4 (List.drop 0 t1.1))).bind fun t2 => K (t2.1, ())
def Q0V (k : Nat) (a : (List Int)) (b : (List Int)) : Option (Int × Unit) := Q0V.c k a b some
def Q0V.tin : List Ty := [QfO, QfO]
def Q0V.tout : List Ty := [(.int .i64)]
def Q0V.sem (k : Nat) : QP := QW Q0V.tin Q0V.tout fun x => Q0V k x.1 x.2.1
noncomputable def Q0V.ctx (k : Nat) : Ctx := ⟨Tryz.prog, gam [(105, (Q4.sem k)), (106, (Q6.sem k))]⟩
theorem Q0V.gok (k : Nat) : ∀ f, QF Tryz.prog f ((Q0V.ctx k).Γ f) := (Qk (Q4.sem_ok k) (Qk (Q6.sem_ok k) QX))
def Q0V.ann (k : Nat) : Ann := .nil
theorem Q0V.body (k : Nat) : Q0R (Q0V.ctx k) Tryz.f66 (Func.code Tryz.f66) (Q0V.ann k) Q0V.tin Q0V.tout (fun x K => Q0V.c k x.1 x.2.1 K) := by
 intro ρ x K; kernel_rfl
theorem Q0V.sem_ok (k : Nat) : QF Tryz.prog 66 (Q0V.sem k) :=
 QD (C := Q0V.ctx k) (Q0V.gok k) Tryz.mix (c := Func.code Tryz.f66) (ann := Q0V.ann k) (tin := Q0V.tin) (tout := Q0V.tout) (fun x K => Q0V.c k x.1 x.2.1 K) Tryz.func66 (by kernel_rfl) (by kernel_rfl) Q1.nil (Q0V.body k)
def Q0U.c (k : Nat) {ρ : Type} (bits : Int) (K : (List Int) × Int × Unit → Option ρ) : Option ρ :=
 (Q1h k bits).bind fun t0 => let v1 : (List Int) := t0.1
 bif (!t0.2.1) then (let v2 : (List Int) := (List.replicate 4 (0 : Int))
 K (v2, ((50 : Int), ()))) else (let v3 : Int := (Q0S BinOp.and IntKind.u32 bits (8388608 : Int))
 bif (v3 != (0 : Int)) then (let v4 : (List Int) := (List.replicate 4 (0 : Int))
 K (v4, ((50 : Int), ()))) else ((Q1j k v1).bind fun t5 => bif t5.1 then (let v6 : (List Int) := (List.replicate 4 (0 : Int))
 K (v6, ((50 : Int), ()))) else ((Q16 k ).bind fun t7 => (Q0V k v1 t7.1).bind fun t8 => bif (decide (t8.1 > (0 : Int))) then (let v9 : (List Int) := (List.replicate 4 (0 : Int))
 K (v9, ((50 : Int), ()))) else (K (v1, ((0 : Int), ()))))))
def Q0U (k : Nat) (bits : Int) : Option ((List Int) × Int × Unit) := Q0U.c k bits some
def Q0U.tin : List Ty := [(.int .u32)]
def Q0U.tout : List Ty := [QfO, (.int .i64)]
def Q0U.sem (k : Nat) : QP := QW Q0U.tin Q0U.tout fun x => Q0U k x.1
noncomputable def Q0U.ctx (k : Nat) : Ctx := ⟨Tryz.prog, gam [(102, (Q1h.sem k)), (103, (Q1j.sem k)), (104, (Q16.sem k)), (66, (Q0V.sem k))]⟩
theorem Q0U.gok (k : Nat) : ∀ f, QF Tryz.prog f ((Q0U.ctx k).Γ f) := (Qk (Q1h.sem_ok k) (Qk (Q1j.sem_ok k) (Qk (Q16.sem_ok k) (Qk (Q0V.sem_ok k) QX))))
def Q0U.ann (k : Nat) : Ann := .nil
theorem Q0U.body (k : Nat) : Q0R (Q0U.ctx k) Tryz.f65 (Func.code Tryz.f65) (Q0U.ann k) Q0U.tin Q0U.tout (fun x K => Q0U.c k x.1 K) := by
 intro ρ x K; kernel_rfl
theorem Q0U.sem_ok (k : Nat) : QF Tryz.prog 65 (Q0U.sem k) :=
 QD (C := Q0U.ctx k) (Q0U.gok k) Tryz.mix (c := Func.code Tryz.f65) (ann := Q0U.ann k) (tin := Q0U.tin) (tout := Q0U.tout) (fun x K => Q0U.c k x.1 K) Tryz.func65 (by kernel_rfl) (by kernel_rfl) Q1.nil (Q0U.body k)
abbrev Q1a.l0.σ : Type := (List Int) × Int × (List Int) × (List Int) × Unit
abbrev Q1a.l0.τ : Type := QfL 
def Q1a.l0.r (k : Nat) {ρ : Type} (x : Q1a.l0.σ) (kn : Q1a.l0.σ → Option ρ) (ke : Q1a.l0.τ → Option ρ) : Option ρ :=
 bif (decide (x.2.1 < (32 : Int))) then (bif (decide (((0 : Int) ≤ x.2.1) ∧ (x.2.1 < ((32 : Nat) : Int)))) then (let v0 : Int := (List.getD x.1 (Int.toNat x.2.1) (0 : Int))
 let v1 : Int := (IntKind.wrap IntKind.i64 (Int.tdiv x.2.1 (8 : Int)))
 bif (decide (((0 : Int) ≤ v1) ∧ (v1 < ((4 : Nat) : Int)))) then (let v2 : Int := (List.getD x.2.2.2.1 (Int.toNat v1) (0 : Int))
 let v3 : Int := (Int.tmod x.2.1 (8 : Int))
 let v4 : Int := (IntKind.wrap IntKind.i64 ((8 : Int) * v3))
 bif (decide ((0 : Int) ≤ v4)) then (let v5 : Int := (Q0S BinOp.or IntKind.u64 v2 (Q1W IntKind.u64 (IntKind.wrap IntKind.u64 v0) v4))
 bif (decide (((0 : Int) ≤ v1) ∧ (v1 < ((4 : Nat) : Int)))) then (let v6 : Int := (IntKind.wrap IntKind.i64 (x.2.1 + (1 : Int)))
 kn (x.1, (v6, (x.2.2.1, ((List.set x.2.2.2.1 (Int.toNat v1) v5), ()))))) else (none)) else (none)) else (none)) else (none)) else (ke (x.2.2.1, (x.2.2.2.1, ())))
def Q1a.l0 (k : Nat) : Nat → Q1a.l0.σ → Option Q1a.l0.τ := Q14 (Q1a.l0.r k)
def Q1a.l0.T : StT := ⟨us 2 ++ .ptr 0 [] :: .ptr 1 [] :: us 2 ++ .dat QfN :: .dat (.int .i64) :: us 17, [.dat QfO, .dat QfO]⟩
def Q1a.l0.os : List Out := [⟨(.exit 0), [.mask [2, 3], .auto 0], ⟨us 2 ++ .ptr 0 [] :: .ptr 1 [] :: us 21, [.dat QfO, .dat QfO]⟩⟩]
def Q1a.c (k : Nat) {ρ : Type} (h : (List Int)) (K : (List Int) × Unit → Option ρ) : Option ρ :=
 (Q1a.l0 k k (h, ((0 : Int), ((List.replicate 4 (0 : Int)), ((List.replicate 4 (0 : Int)), ()))))).bind fun t7 => let v8 : (List Int) := t7.2.1
 K (v8, ())
def Q1a (k : Nat) (h : (List Int)) : Option QfP := Q1a.c k h some
def Q1a.tin : List Ty := [QfN]
def Q1a.tout : List Ty := [QfO]
def Q1a.sem (k : Nat) : QP := QW Q1a.tin Q1a.tout fun x => Q1a k x.1
noncomputable def Q1a.ctx (k : Nat) : Ctx := ⟨Tryz.prog, gam []⟩
theorem Q1a.gok (k : Nat) : ∀ f, QF Tryz.prog f ((Q1a.ctx k).Γ f) := QX
theorem Q1a.l0.round (k : Nat) : Q10 (Q1a.ctx k) (QM (Func.code Tryz.f67) [1, 1, 0, 1, 0, 0]) (.nil) Q1a.l0.T [.mask [2, 3, 6, 7], .auto 0] Q1a.l0.os (Q1a.l0.r k) := by
 intro ρ x kn ke; kernel_rfl
theorem Q1a.l0.ok (k : Nat) : StOK 0 Tryz.prog (.loop (QM (Func.code Tryz.f67) [1, 1, 0, 1, 0, 0])) (Qn Q1a.l0.T Q1a.l0.os (Q1a.l0 k k)) :=
 Q11 (C := Q1a.ctx k) (Q1a.gok k) Tryz.mix Q1.nil (by kernel_rfl) (by kernel_rfl) (by kernel_rfl) (Q1a.l0.round k) k
def Q1a.ann (k : Nat) : Ann := .node [] none (.nil) (.node [] none (.nil) (.node [] none (.node [] none (.nil) (.node [] none (.node [.mask [2, 3, 6, 7], .auto 0] (some (Qn Q1a.l0.T Q1a.l0.os (Q1a.l0 k k))) .nil .nil) (.nil))) (.nil)))
theorem Q1a.body (k : Nat) : Q0R (Q1a.ctx k) Tryz.f67 (Func.code Tryz.f67) (Q1a.ann k) Q1a.tin Q1a.tout (fun x K => Q1a.c k x.1 K) := by
 intro ρ x K; kernel_rfl
theorem Q1a.sem_ok (k : Nat) : QF Tryz.prog 67 (Q1a.sem k) :=
 QD (C := Q1a.ctx k) (Q1a.gok k) Tryz.mix (c := Func.code Tryz.f67) (ann := Q1a.ann k) (tin := Q1a.tin) (tout := Q1a.tout) (fun x K => Q1a.c k x.1 K) Tryz.func67 (by kernel_rfl) (by kernel_rfl) (Q1.seq Q1.nil (Q1.seq Q1.nil (Q1.seq (Q1.seq Q1.nil (Q1.block (Q1.loop (by kernel_rfl) (Q1a.l0.ok k)))) Q1.nil))) (Q1a.body k)
def Q17.c (k : Nat) {ρ : Type} (id : (List Int)) (bits : Int) (K : Bool × Unit → Option ρ) : Option ρ :=
 (Q0U k bits).bind fun t0 => let v1 : (List Int) := t0.1
 let v2 : Int := t0.2.1
 bif (v2 == (0 : Int)) then ((Q1a k id).bind fun t3 => (Q0V k t3.1 v1).bind fun t4 => K ((decide (t4.1 ≤ (0 : Int))), ())) else (K (false, ()))
def Q17 (k : Nat) (id : (List Int)) (bits : Int) : Option (Bool × Unit) := Q17.c k id bits some
def Q17.tin : List Ty := [QfN, (.int .u32)]
def Q17.tout : List Ty := [.bool]
def Q17.sem (k : Nat) : QP := QW Q17.tin Q17.tout fun x => Q17 k x.1 x.2.1
noncomputable def Q17.ctx (k : Nat) : Ctx := ⟨Tryz.prog, gam [(65, (Q0U.sem k)), (67, (Q1a.sem k)), (66, (Q0V.sem k))]⟩
theorem Q17.gok (k : Nat) : ∀ f, QF Tryz.prog f ((Q17.ctx k).Γ f) := (Qk (Q0U.sem_ok k) (Qk (Q1a.sem_ok k) (Qk (Q0V.sem_ok k) QX)))
def Q17.ann (k : Nat) : Ann := .nil
theorem Q17.body (k : Nat) : Q0R (Q17.ctx k) Tryz.f38 (Func.code Tryz.f38) (Q17.ann k) Q17.tin Q17.tout (fun x K => Q17.c k x.1 x.2.1 K) := by
 intro ρ x K; kernel_rfl
theorem Q17.sem_ok (k : Nat) : QF Tryz.prog 38 (Q17.sem k) :=
 QD (C := Q17.ctx k) (Q17.gok k) Tryz.mix (c := Func.code Tryz.f38) (ann := Q17.ann k) (tin := Q17.tin) (tout := Q17.tout) (fun x K => Q17.c k x.1 x.2.1 K) Tryz.func38 (by kernel_rfl) (by kernel_rfl) Q1.nil (Q17.body k)
end Go.Am
namespace Go.Am
open Go Go.Proofs
set_option maxRecDepth 100000
abbrev Qt.l0.σ : Type := Int × Int × Int × (List Int) × (List Int) × Unit
abbrev Qt.l0.τ : Type := (Bool × (List Int) × Unit) ⊕ QfL 
def Qt.l0.r (k : Nat) {ρ : Type} (x : Qt.l0.σ) (kn : Qt.l0.σ → Option ρ) (ke : Qt.l0.τ → Option ρ) : Option ρ :=
 bif (decide (x.2.2.1 < (3 : Int))) then (let v3 : Int := (IntKind.wrap IntKind.i64 (x.1 - (3 : Int)))
 let v4 : Int := (IntKind.wrap IntKind.i64 (v3 + x.2.2.1))
 let v5 : Int := (IntKind.wrap IntKind.i64 ((8 : Int) * x.2.2.1))
 bif (decide ((0 : Int) ≤ (IntKind.wrap IntKind.u64 v5))) then (let v6 : Int := (Q1H IntKind.u32 x.2.1 (IntKind.wrap IntKind.u64 v5))
 let v7 : Int := (IntKind.wrap IntKind.i64 (Int.tmod v6 (256 : Int)))
 bif (decide (v4 ≥ (0 : Int))) then (bif (decide (v4 < (40 : Int))) then (bif (decide (((0 : Int) ≤ v4) ∧ (v4 < ((40 : Nat) : Int)))) then (bif (decide (v4 ≥ (40 : Int))) then (bif (v7 != (0 : Int)) then (let v8 : (List Int) := (List.replicate 40 (0 : Int))
 ke (.inl (false, (v8, ())))) else (let v9 : Int := (IntKind.wrap IntKind.i64 (x.2.2.1 + (1 : Int)))
 kn (x.1, (x.2.1, (v9, (x.2.2.2.1, ((List.set x.2.2.2.2.1 (Int.toNat v4) v7), ()))))))) else (let v10 : Int := (IntKind.wrap IntKind.i64 (x.2.2.1 + (1 : Int)))
 kn (x.1, (x.2.1, (v10, (x.2.2.2.1, ((List.set x.2.2.2.2.1 (Int.toNat v4) v7), ()))))))) else (none)) else (bif (decide (v4 ≥ (40 : Int))) then (bif (v7 != (0 : Int)) then (let v11 : (List Int) := (List.replicate 40 (0 : Int))
 ke (.inl (false, (v11, ())))) else (let v12 : Int := (IntKind.wrap IntKind.i64 (x.2.2.1 + (1 : Int)))
 kn (x.1, (x.2.1, (v12, (x.2.2.2.1, (x.2.2.2.2.1, ()))))))) else (let v13 : Int := (IntKind.wrap IntKind.i64 (x.2.2.1 + (1 : Int)))
 kn (x.1, (x.2.1, (v13, (x.2.2.2.1, (x.2.2.2.2.1, ())))))))) else (bif (decide (v4 ≥ (40 : Int))) then (bif (v7 != (0 : Int)) then (let v14 : (List Int) := (List.replicate 40 (0 : Int))
 ke (.inl (false, (v14, ())))) else (let v15 : Int := (IntKind.wrap IntKind.i64 (x.2.2.1 + (1 : Int)))
 kn (x.1, (x.2.1, (v15, (x.2.2.2.1, (x.2.2.2.2.1, ()))))))) else (let v16 : Int := (IntKind.wrap IntKind.i64 (x.2.2.1 + (1 : Int)))
 kn (x.1, (x.2.1, (v16, (x.2.2.2.1, (x.2.2.2.2.1, ())))))))) else (none)) else (ke (.inr (x.2.2.2.1, (x.2.2.2.2.1, ()))))
def Qt.l0 (k : Nat) : Nat → Qt.l0.σ → Option Qt.l0.τ := Q14 (Qt.l0.r k)
def Qt.l0.T : StT := ⟨us 2 ++ .ptr 0 [] :: us 1 ++ .dat (.int .i64) :: .dat (.int .u32) :: .ptr 1 [] :: .dat (.int .i64) :: us 40, [.dat QfM, .dat QfM]⟩
def Qt.l0.os : List Out := [⟨.ret, [.mask [2, 3], .auto 0], ⟨us 2 ++ .ptr 0 [] :: .dat .bool :: us 44, [.dat QfM]⟩⟩, ⟨(.exit 0), [.mask [2, 6], .auto 0], ⟨us 2 ++ .ptr 0 [] :: us 3 ++ .ptr 1 [] :: us 41, [.dat QfM, .dat QfM]⟩⟩]
def Qt.c (k : Nat) {ρ : Type} (bits : Int) (K : (List Int) × Bool × Unit → Option ρ) : Option ρ :=
 let v0 : Int := (Q1H IntKind.u32 bits (24 : Int))
 let v1 : Int := (Q0S BinOp.and IntKind.u32 bits (8388607 : Int))
 let v2 : (List Int) := (List.replicate 40 (0 : Int))
 (Qt.l0 k k ((IntKind.wrap IntKind.i64 v0), (v1, ((0 : Int), ((List.replicate 40 (0 : Int)), (v2, ())))))).bind fun t17 => (match t17 with | .inl t18 => (K (t18.2.1, (t18.1, ()))) | .inr (t19) => (let v20 : (List Int) := t19.2.1
 K (v20, (true, ()))))
def Qt (k : Nat) (bits : Int) : Option ((List Int) × Bool × Unit) := Qt.c k bits some
def Qt.tin : List Ty := [(.int .u32)]
def Qt.tout : List Ty := [QfM, .bool]
def Qt.sem (k : Nat) : QP := QW Qt.tin Qt.tout fun x => Qt k x.1
noncomputable def Qt.ctx (k : Nat) : Ctx := ⟨Tryz.prog, gam []⟩
theorem Qt.gok (k : Nat) : ∀ f, QF Tryz.prog f ((Qt.ctx k).Γ f) := QX
theorem Qt.l0.round (k : Nat) : Q10 (Qt.ctx k) (QM (Func.code Tryz.f107) [1, 1, 1, 0, 1, 0, 0]) (.nil) Qt.l0.T [.mask [2, 4, 5, 6, 7], .auto 0] Qt.l0.os (Qt.l0.r k) := by
 intro ρ x kn ke; kernel_rfl
theorem Qt.l0.ok (k : Nat) : StOK 0 Tryz.prog (.loop (QM (Func.code Tryz.f107) [1, 1, 1, 0, 1, 0, 0])) (Qn Qt.l0.T Qt.l0.os (Qt.l0 k k)) :=
 Q11 (C := Qt.ctx k) (Qt.gok k) Tryz.mix Q1.nil (by kernel_rfl) (by kernel_rfl) (by kernel_rfl) (Qt.l0.round k) k
def Qt.ann (k : Nat) : Ann := .node [] none (.nil) (.node [] none (.nil) (.node [] none (.nil) (.node [] none (.node [] none (.nil) (.node [] none (.node [.mask [2, 4, 5, 6, 7], .auto 0] (some (Qn Qt.l0.T Qt.l0.os (Qt.l0 k k))) .nil .nil) (.nil))) (.nil))))
theorem Qt.body (k : Nat) : Q0R (Qt.ctx k) Tryz.f107 (Func.code Tryz.f107) (Qt.ann k) Qt.tin Qt.tout (fun x K => Qt.c k x.1 K) := by
 intro ρ x K; kernel_rfl
theorem Qt.sem_ok (k : Nat) : QF Tryz.prog 107 (Qt.sem k) :=
 QD (C := Qt.ctx k) (Qt.gok k) Tryz.mix (c := Func.code Tryz.f107) (ann := Qt.ann k) (tin := Qt.tin) (tout := Qt.tout) (fun x K => Qt.c k x.1 K) Tryz.func107 (by kernel_rfl) (by kernel_rfl) (Q1.seq Q1.nil (Q1.seq Q1.nil (Q1.seq Q1.nil (Q1.seq (Q1.seq Q1.nil (Q1.block (Q1.loop (by kernel_rfl) (Qt.l0.ok k)))) Q1.nil)))) (Qt.body k)
def Q0y.c (k : Nat) {ρ : Type} (a : (List Int)) (K : Bool × Unit → Option ρ) : Option ρ :=
 let v0 : (List Int) := (List.replicate 40 (0 : Int))
 K ((decide (a = v0)), ())
def Q0y (k : Nat) (a : (List Int)) : Option (Bool × Unit) := Q0y.c k a some
def Q0y.tin : List Ty := [QfM]
def Q0y.tout : List Ty := [.bool]
def Q0y.sem (k : Nat) : QP := QW Q0y.tin Q0y.tout fun x => Q0y k x.1
noncomputable def Q0y.ctx (k : Nat) : Ctx := ⟨Tryz.prog, gam []⟩
theorem Q0y.gok (k : Nat) : ∀ f, QF Tryz.prog f ((Q0y.ctx k).Γ f) := QX
def Q0y.ann (k : Nat) : Ann := .nil
theorem Q0y.body (k : Nat) : Q0R (Q0y.ctx k) Tryz.f108 (Func.code Tryz.f108) (Q0y.ann k) Q0y.tin Q0y.tout (fun x K => Q0y.c k x.1 K) := by
 intro ρ x K; kernel_rfl
theorem Q0y.sem_ok (k : Nat) : QF Tryz.prog 108 (Q0y.sem k) :=
 QD (C := Q0y.ctx k) (Q0y.gok k) Tryz.mix (c := Func.code Tryz.f108) (ann := Q0y.ann k) (tin := Q0y.tin) (tout := Q0y.tout) (fun x K => Q0y.c k x.1 K) Tryz.func108 (by kernel_rfl) (by kernel_rfl) Q1.nil (Q0y.body k)
def Q0m.c (k : Nat) {ρ : Type}  (K : (List Int) × Unit → Option ρ) : Option ρ :=
 (Qt k (545259519 : Int)).bind fun t0 => let v1 : (List Int) := t0.1
 K (v1, ())
def Q0m (k : Nat)  : Option QfP := Q0m.c k  some
def Q0m.tin : List Ty := []
def Q0m.tout : List Ty := [QfM]
def Q0m.sem (k : Nat) : QP := QW Q0m.tin Q0m.tout fun x => Q0m k 
noncomputable def Q0m.ctx (k : Nat) : Ctx := ⟨Tryz.prog, gam [(107, (Qt.sem k))]⟩
theorem Q0m.gok (k : Nat) : ∀ f, QF Tryz.prog f ((Q0m.ctx k).Γ f) := (Qk (Qt.sem_ok k) QX)
def Q0m.ann (k : Nat) : Ann := .nil
theorem Q0m.body (k : Nat) : Q0R (Q0m.ctx k) Tryz.f109 (Func.code Tryz.f109) (Q0m.ann k) Q0m.tin Q0m.tout (fun x K => Q0m.c k  K) := by
 intro ρ x K; kernel_rfl
theorem Q0m.sem_ok (k : Nat) : QF Tryz.prog 109 (Q0m.sem k) :=
 QD (C := Q0m.ctx k) (Q0m.gok k) Tryz.mix (c := Func.code Tryz.f109) (ann := Q0m.ann k) (tin := Q0m.tin) (tout := Q0m.tout) (fun x K => Q0m.c k  K) Tryz.func109 (by kernel_rfl) (by kernel_rfl) Q1.nil (Q0m.body k)
abbrev Qp.l0.σ : Type := Int × (List Int) × (List Int) × Unit
abbrev Qp.l0.τ : Type := (Bool × Unit) ⊕ (Unit)
def Qp.l0.r (k : Nat) {ρ : Type} (x : Qp.l0.σ) (kn : Qp.l0.σ → Option ρ) (ke : Qp.l0.τ → Option ρ) : Option ρ :=
 bif (decide (x.1 ≥ (0 : Int))) then (bif (decide (((0 : Int) ≤ x.1) ∧ (x.1 < ((40 : Nat) : Int)))) then (let v0 : Int := (List.getD x.2.1 (Int.toNat x.1) (0 : Int))
 bif (decide (((0 : Int) ≤ x.1) ∧ (x.1 < ((40 : Nat) : Int)))) then (let v1 : Int := (List.getD x.2.2.1 (Int.toNat x.1) (0 : Int))
 bif (v0 != v1) then (bif (decide (((0 : Int) ≤ x.1) ∧ (x.1 < ((40 : Nat) : Int)))) then (let v2 : Int := (List.getD x.2.1 (Int.toNat x.1) (0 : Int))
 bif (decide (((0 : Int) ≤ x.1) ∧ (x.1 < ((40 : Nat) : Int)))) then (let v3 : Int := (List.getD x.2.2.1 (Int.toNat x.1) (0 : Int))
 ke (.inl ((decide (v2 < v3)), ()))) else (none)) else (none)) else (let v4 : Int := (IntKind.wrap IntKind.i64 (x.1 - (1 : Int)))
 kn (v4, (x.2.1, (x.2.2.1, ()))))) else (none)) else (none)) else (ke (.inr ()))
def Qp.l0 (k : Nat) : Nat → Qp.l0.σ → Option Qp.l0.τ := Q14 (Qp.l0.r k)
def Qp.l0.T : StT := ⟨us 2 ++ .ptr 0 [] :: .ptr 1 [] :: us 1 ++ .dat (.int .i64) :: us 18, [.dat QfM, .dat QfM]⟩
def Qp.l0.os : List Out := [⟨.ret, [.mask [4], .auto 0], ⟨us 4 ++ .dat .bool :: us 19, []⟩⟩, ⟨(.exit 0), [.mask [], .auto 0], ⟨us 24, []⟩⟩]
def Qp.c (k : Nat) {ρ : Type} (a : (List Int)) (b : (List Int)) (K : Bool × Unit → Option ρ) : Option ρ :=
 (Qp.l0 k k ((39 : Int), (a, (b, ())))).bind fun t5 => (match t5 with | .inl t6 => (K (t6.1, ())) | .inr (t7) => (K (false, ())))
def Qp (k : Nat) (a : (List Int)) (b : (List Int)) : Option (Bool × Unit) := Qp.c k a b some
def Qp.tin : List Ty := [QfM, QfM]
def Qp.tout : List Ty := [.bool]
def Qp.sem (k : Nat) : QP := QW Qp.tin Qp.tout fun x => Qp k x.1 x.2.1
noncomputable def Qp.ctx (k : Nat) : Ctx := ⟨Tryz.prog, gam []⟩
theorem Qp.gok (k : Nat) : ∀ f, QF Tryz.prog f ((Qp.ctx k).Γ f) := QX
theorem Qp.l0.round (k : Nat) : Q10 (Qp.ctx k) (QM (Func.code Tryz.f69) [1, 0, 1, 0, 0]) (.nil) Qp.l0.T [.mask [2, 3, 5], .auto 0] Qp.l0.os (Qp.l0.r k) := by
 intro ρ x kn ke; kernel_rfl
theorem Qp.l0.ok (k : Nat) : StOK 0 Tryz.prog (.loop (QM (Func.code Tryz.f69) [1, 0, 1, 0, 0])) (Qn Qp.l0.T Qp.l0.os (Qp.l0 k k)) :=
 Q11 (C := Qp.ctx k) (Qp.gok k) Tryz.mix Q1.nil (by kernel_rfl) (by kernel_rfl) (by kernel_rfl) (Qp.l0.round k) k
def Qp.ann (k : Nat) : Ann := .node [] none (.nil) (.node [] none (.node [] none (.nil) (.node [] none (.node [.mask [2, 3, 5], .auto 0] (some (Qn Qp.l0.T Qp.l0.os (Qp.l0 k k))) .nil .nil) (.nil))) (.nil))
theorem Qp.body (k : Nat) : Q0R (Qp.ctx k) Tryz.f69 (Func.code Tryz.f69) (Qp.ann k) Qp.tin Qp.tout (fun x K => Qp.c k x.1 x.2.1 K) := by
 intro ρ x K; kernel_rfl
theorem Qp.sem_ok (k : Nat) : QF Tryz.prog 69 (Qp.sem k) :=
 QD (C := Qp.ctx k) (Qp.gok k) Tryz.mix (c := Func.code Tryz.f69) (ann := Qp.ann k) (tin := Qp.tin) (tout := Qp.tout) (fun x K => Qp.c k x.1 x.2.1 K) Tryz.func69 (by kernel_rfl) (by kernel_rfl) (Q1.seq Q1.nil (Q1.seq (Q1.seq Q1.nil (Q1.block (Q1.loop (by kernel_rfl) (Qp.l0.ok k)))) Q1.nil)) (Qp.body k)
def Q0a.c (k : Nat) {ρ : Type} (bits : Int) (K : (List Int) × Bool × Unit → Option ρ) : Option ρ :=
 (Qt k bits).bind fun t0 => let v1 : (List Int) := t0.1
 bif (!t0.2.1) then (let v2 : (List Int) := (List.replicate 40 (0 : Int))
 K (v2, (false, ()))) else (let v3 : Int := (Q0S BinOp.and IntKind.u32 bits (8388608 : Int))
 bif (v3 != (0 : Int)) then (let v4 : (List Int) := (List.replicate 40 (0 : Int))
 K (v4, (false, ()))) else ((Q0y k v1).bind fun t5 => bif t5.1 then (let v6 : (List Int) := (List.replicate 40 (0 : Int))
 K (v6, (false, ()))) else ((Q0m k ).bind fun t7 => (Qp k t7.1 v1).bind fun t8 => bif t8.1 then (let v9 : (List Int) := (List.replicate 40 (0 : Int))
 K (v9, (false, ()))) else (K (v1, (true, ()))))))
def Q0a (k : Nat) (bits : Int) : Option ((List Int) × Bool × Unit) := Q0a.c k bits some
def Q0a.tin : List Ty := [(.int .u32)]
def Q0a.tout : List Ty := [QfM, .bool]
def Q0a.sem (k : Nat) : QP := QW Q0a.tin Q0a.tout fun x => Q0a k x.1
noncomputable def Q0a.ctx (k : Nat) : Ctx := ⟨Tryz.prog, gam [(107, (Qt.sem k)), (108, (Q0y.sem k)), (109, (Q0m.sem k)), (69, (Qp.sem k))]⟩
theorem Q0a.gok (k : Nat) : ∀ f, QF Tryz.prog f ((Q0a.ctx k).Γ f) := (Qk (Qt.sem_ok k) (Qk (Q0y.sem_ok k) (Qk (Q0m.sem_ok k) (Qk (Qp.sem_ok k) QX))))
def Q0a.ann (k : Nat) : Ann := .nil
theorem Q0a.body (k : Nat) : Q0R (Q0a.ctx k) Tryz.f68 (Func.code Tryz.f68) (Q0a.ann k) Q0a.tin Q0a.tout (fun x K => Q0a.c k x.1 K) := by
 intro ρ x K; kernel_rfl
theorem Q0a.sem_ok (k : Nat) : QF Tryz.prog 68 (Q0a.sem k) :=
 QD (C := Q0a.ctx k) (Q0a.gok k) Tryz.mix (c := Func.code Tryz.f68) (ann := Q0a.ann k) (tin := Q0a.tin) (tout := Q0a.tout) (fun x K => Q0a.c k x.1 K) Tryz.func68 (by kernel_rfl) (by kernel_rfl) Q1.nil (Q0a.body k)
abbrev QE.l0.σ : Type := Int × (List Int) × (List Int) × (List Int) × Unit
abbrev QE.l0.τ : Type := QfL 
def QE.l0.r (k : Nat) {ρ : Type} (x : QE.l0.σ) (kn : QE.l0.σ → Option ρ) (ke : QE.l0.τ → Option ρ) : Option ρ :=
 bif (decide (x.1 < (32 : Int))) then (bif (decide (((0 : Int) ≤ x.1) ∧ (x.1 < ((32 : Nat) : Int)))) then (let v1 : Int := (List.getD x.2.1 (Int.toNat x.1) (0 : Int))
 bif (decide (((0 : Int) ≤ x.1) ∧ (x.1 < ((40 : Nat) : Int)))) then (let v2 : Int := (IntKind.wrap IntKind.i64 (x.1 + (1 : Int)))
 kn (v2, (x.2.1, (x.2.2.1, ((List.set x.2.2.2.1 (Int.toNat x.1) (IntKind.wrap IntKind.i64 v1)), ()))))) else (none)) else (none)) else (ke (x.2.2.1, (x.2.2.2.1, ())))
def QE.l0 (k : Nat) : Nat → QE.l0.σ → Option QE.l0.τ := Q14 (QE.l0.r k)
def QE.l0.T : StT := ⟨us 1 ++ .ptr 0 [] :: .ptr 1 [] :: .ptr 2 [] :: .dat (.int .i64) :: us 12, [.dat QfN, .dat QfM, .dat QfM]⟩
def QE.l0.os : List Out := [⟨(.exit 0), [.mask [2, 3], .auto 0], ⟨us 2 ++ .ptr 0 [] :: .ptr 1 [] :: us 13, [.dat QfM, .dat QfM]⟩⟩]
def QE.c (k : Nat) {ρ : Type} (h : (List Int)) (K : (List Int) × Unit → Option ρ) : Option ρ :=
 let v0 : (List Int) := (List.replicate 40 (0 : Int))
 (QE.l0 k k ((0 : Int), (h, ((List.replicate 40 (0 : Int)), (v0, ()))))).bind fun t3 => let v4 : (List Int) := t3.2.1
 K (v4, ())
def QE (k : Nat) (h : (List Int)) : Option QfP := QE.c k h some
def QE.tin : List Ty := [QfN]
def QE.tout : List Ty := [QfM]
def QE.sem (k : Nat) : QP := QW QE.tin QE.tout fun x => QE k x.1
noncomputable def QE.ctx (k : Nat) : Ctx := ⟨Tryz.prog, gam []⟩
theorem QE.gok (k : Nat) : ∀ f, QF Tryz.prog f ((QE.ctx k).Γ f) := QX
theorem QE.l0.round (k : Nat) : Q10 (QE.ctx k) (QM (Func.code Tryz.f70) [1, 1, 0, 1, 0, 0]) (.nil) QE.l0.T [.mask [1, 2, 3, 4], .auto 0] QE.l0.os (QE.l0.r k) := by
 intro ρ x kn ke; kernel_rfl
theorem QE.l0.ok (k : Nat) : StOK 0 Tryz.prog (.loop (QM (Func.code Tryz.f70) [1, 1, 0, 1, 0, 0])) (Qn QE.l0.T QE.l0.os (QE.l0 k k)) :=
 Q11 (C := QE.ctx k) (QE.gok k) Tryz.mix Q1.nil (by kernel_rfl) (by kernel_rfl) (by kernel_rfl) (QE.l0.round k) k
def QE.ann (k : Nat) : Ann := .node [] none (.nil) (.node [] none (.nil) (.node [] none (.node [] none (.nil) (.node [] none (.node [.mask [1, 2, 3, 4], .auto 0] (some (Qn QE.l0.T QE.l0.os (QE.l0 k k))) .nil .nil) (.nil))) (.nil)))
theorem QE.body (k : Nat) : Q0R (QE.ctx k) Tryz.f70 (Func.code Tryz.f70) (QE.ann k) QE.tin QE.tout (fun x K => QE.c k x.1 K) := by
 intro ρ x K; kernel_rfl
theorem QE.sem_ok (k : Nat) : QF Tryz.prog 70 (QE.sem k) :=
 QD (C := QE.ctx k) (QE.gok k) Tryz.mix (c := Func.code Tryz.f70) (ann := QE.ann k) (tin := QE.tin) (tout := QE.tout) (fun x K => QE.c k x.1 K) Tryz.func70 (by kernel_rfl) (by kernel_rfl) (Q1.seq Q1.nil (Q1.seq Q1.nil (Q1.seq (Q1.seq Q1.nil (Q1.block (Q1.loop (by kernel_rfl) (QE.l0.ok k)))) Q1.nil))) (QE.body k)
def Q0n.c (k : Nat) {ρ : Type} (id : (List Int)) (bits : Int) (K : Bool × Unit → Option ρ) : Option ρ :=
 (Q0a k bits).bind fun t0 => let v1 : (List Int) := t0.1
 bif t0.2.1 then ((QE k id).bind fun t2 => (Qp k v1 t2.1).bind fun t3 => K ((!t3.1), ())) else (K (false, ()))
def Q0n (k : Nat) (id : (List Int)) (bits : Int) : Option (Bool × Unit) := Q0n.c k id bits some
def Q0n.tin : List Ty := [QfN, (.int .u32)]
def Q0n.tout : List Ty := [.bool]
def Q0n.sem (k : Nat) : QP := QW Q0n.tin Q0n.tout fun x => Q0n k x.1 x.2.1
noncomputable def Q0n.ctx (k : Nat) : Ctx := ⟨Tryz.prog, gam [(68, (Q0a.sem k)), (70, (QE.sem k)), (69, (Qp.sem k))]⟩
theorem Q0n.gok (k : Nat) : ∀ f, QF Tryz.prog f ((Q0n.ctx k).Γ f) := (Qk (Q0a.sem_ok k) (Qk (QE.sem_ok k) (Qk (Qp.sem_ok k) QX)))
def Q0n.ann (k : Nat) : Ann := .nil
theorem Q0n.body (k : Nat) : Q0R (Q0n.ctx k) Tryz.f39 (Func.code Tryz.f39) (Q0n.ann k) Q0n.tin Q0n.tout (fun x K => Q0n.c k x.1 x.2.1 K) := by
 intro ρ x K; kernel_rfl
theorem Q0n.sem_ok (k : Nat) : QF Tryz.prog 39 (Q0n.sem k) :=
 QD (C := Q0n.ctx k) (Q0n.gok k) Tryz.mix (c := Func.code Tryz.f39) (ann := Q0n.ann k) (tin := Q0n.tin) (tout := Q0n.tout) (fun x K => Q0n.c k x.1 x.2.1 K) Tryz.func39 (by kernel_rfl) (by kernel_rfl) Q1.nil (Q0n.body k)
end Go.Am
