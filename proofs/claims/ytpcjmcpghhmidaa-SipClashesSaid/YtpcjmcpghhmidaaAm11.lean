/- A part of a proof: a machine of abstract values that tells what functions of the program compute, and the plain facts on them. -/
import Derived.Test.YtpcjmcpghhmidaaAm10
import Derived.KernelRfl
import Derived.Test.YtpcjmcpghhmidaaAm6
import Derived.Test.YtpcjmcpghhmidaaAm5
set_option linter.unusedVariables false
set_option linter.unusedSimpArgs false
set_option linter.unnecessarySimpa false
set_option linter.unusedSectionVars false
namespace Go.Am
abbrev Qgj : Type := ((List Int) × Unit)
abbrev Qgi : Ty := (.arr 32 (.int .u8))
abbrev Qgh : Ty := (.arr 8 (.int .u32))
abbrev Qgg : Type := (Int × (Int × Unit))
abbrev Qgf : Ty := (.arr 64 (.int .u32))
abbrev Qge : Type := ((Unit × (Unit × Unit)) × Unit)
abbrev Qgd : Ty := (.pair (.int .u64) (.pair (.int .u64) .unit))
abbrev Qgc : Type := ( Qge  × (List Int) × Unit)
end Go.Am
namespace Go.Am
open Go Go.Proofs
set_option maxRecDepth 100000
abbrev QN.τ : Type := Qgc 
def QN.c (k : Nat) {ρ : Type}  (K : QN.τ → Option ρ) : Option ρ :=
 K ((((), ((), ())), ()), ([], ()))
def QN (k : Nat)  : Option QN.τ := QN.c k  some
def QN.T : Q0V := ⟨[], [], 0⟩
def QN.os : List Out := [⟨.ret, [.auto 0], ⟨[.ptr 0 []], [.pair (.pair (.sfp 0 [0] 180) (.pair (.vbs 1) (.dat .unit))) (.dat .unit), .vec (.int .u8)]⟩⟩]
def QN.sem (k : Nat) : QK := Q1j QN.T QN.os fun x => QN k 
noncomputable def QN.ctx (k : Nat) : Ctx := ⟨Try.prog, gam []⟩
theorem QN.gok (k : Nat) : ∀ f, Qz Try.prog f ((QN.ctx k).Γ f) := Q03
def QN.ann (k : Nat) : Ann := .nil
theorem QN.body (k : Nat) : Q1E (QN.ctx k) Try.f76 (Func.code Try.f76) (QN.ann k) QN.T QN.os (fun x K => QN.c k  K) := by
 intro ρ x K; kernel_rfl
theorem QN.sem_ok (k : Nat) : Qz Try.prog 76 (QN.sem k) :=
 Q0E (C := QN.ctx k) (QN.gok k) Try.mix (c := Func.code Try.f76) (ann := QN.ann k) (T := QN.T) (os := QN.os) (fun x K => QN.c k  K) Try.func76 (by kernel_rfl) (by kernel_rfl) Q8.nil (QN.body k) (by kernel_rfl) (by kernel_rfl) (by kernel_rfl)
abbrev Qh.τ : Type := (Int × Qge × (List Int) × Unit)
def Qh.c (k : Nat) {ρ : Type} (s : ByteArray) (b0 : Qge) (b1 : (List Int)) (K : Qh.τ → Option ρ) : Option ρ :=
 bif (Nat.ble (((List.length b1) + (List.length (Qj s))) * 1) 140737488355328) then (K ((((ByteArray.size s) : Nat) : Int), ((((), ((), ())), ()), ((b1 ++ (Qj s)), ())))) else (none)
def Qh (k : Nat) (s : ByteArray) (b0 : Qge) (b1 : (List Int)) : Option Qh.τ := Qh.c k s b0 b1 some
def Qh.T : Q0V := ⟨[.ptr 0 [0], .dat .str], [.pair (.pair (.sfp 0 [0] 180) (.pair (.vbs 1) (.dat .unit))) (.dat .unit), .vec (.int .u8)], 1⟩
def Qh.os : List Out := [⟨.ret, [.freeze (.slot 0), .auto 1], ⟨[.dat (.int .i64), .undef], [.pair (.pair (.sfp 0 [0] 180) (.pair (.vbs 1) (.dat .unit))) (.dat .unit), .vec (.int .u8)]⟩⟩]
def Qh.sem (k : Nat) : QK := Q1j Qh.T Qh.os fun x => Qh k x.1 x.2.1 x.2.2.1
noncomputable def Qh.ctx (k : Nat) : Ctx := ⟨Try.prog, gam [(124, (Qdd 180 2))]⟩
theorem Qh.gok (k : Nat) : ∀ f, Qz Try.prog f ((Qh.ctx k).Γ f) := (QA Bld.copyCheck Q03)
def Qh.ann (k : Nat) : Ann := .nil
theorem Qh.body (k : Nat) : Q1E (Qh.ctx k) Try.f106 (Func.code Try.f106) (Qh.ann k) Qh.T Qh.os (fun x K => Qh.c k x.1 x.2.1 x.2.2.1 K) := by
 intro ρ x K; kernel_rfl
theorem Qh.sem_ok (k : Nat) : Qz Try.prog 106 (Qh.sem k) :=
 Q0E (C := Qh.ctx k) (Qh.gok k) Try.mix (c := Func.code Try.f106) (ann := Qh.ann k) (T := Qh.T) (os := Qh.os) (fun x K => Qh.c k x.1 x.2.1 x.2.2.1 K) Try.func106 (by kernel_rfl) (by kernel_rfl) Q8.nil (Qh.body k) (by kernel_rfl) (by kernel_rfl) (by kernel_rfl)
abbrev Qt.τ : Type := Qgc 
def Qt.c (k : Nat) {ρ : Type} (s : ByteArray) (b0 : Qge) (b1 : (List Int)) (K : Qt.τ → Option ρ) : Option ρ :=
 (Qh k s (((), ((), ())), ()) b1).bind fun t0 => K ((((), ((), ())), ()), (t0.2.2.1, ()))
def Qt (k : Nat) (s : ByteArray) (b0 : Qge) (b1 : (List Int)) : Option Qt.τ := Qt.c k s b0 b1 some
def Qt.T : Q0V := ⟨[.ptr 0 [], .dat .str], [.pair (.pair (.sfp 0 [0] 180) (.pair (.vbs 1) (.dat .unit))) (.dat .unit), .vec (.int .u8)], 1⟩
def Qt.os : List Out := [⟨.ret, [.auto 1], ⟨[], [.pair (.pair (.sfp 0 [0] 180) (.pair (.vbs 1) (.dat .unit))) (.dat .unit), .vec (.int .u8)]⟩⟩]
def Qt.sem (k : Nat) : QK := Q1j Qt.T Qt.os fun x => Qt k x.1 x.2.1 x.2.2.1
noncomputable def Qt.ctx (k : Nat) : Ctx := ⟨Try.prog, gam [(106, (Qh.sem k))]⟩
theorem Qt.gok (k : Nat) : ∀ f, Qz Try.prog f ((Qt.ctx k).Γ f) := (QA (Qh.sem_ok k) Q03)
def Qt.ann (k : Nat) : Ann := .nil
theorem Qt.body (k : Nat) : Q1E (Qt.ctx k) Try.f95 (Func.code Try.f95) (Qt.ann k) Qt.T Qt.os (fun x K => Qt.c k x.1 x.2.1 x.2.2.1 K) := by
 intro ρ x K; kernel_rfl
theorem Qt.sem_ok (k : Nat) : Qz Try.prog 95 (Qt.sem k) :=
 Q0E (C := Qt.ctx k) (Qt.gok k) Try.mix (c := Func.code Try.f95) (ann := Qt.ann k) (T := Qt.T) (os := Qt.os) (fun x K => Qt.c k x.1 x.2.1 x.2.2.1 K) Try.func95 (by kernel_rfl) (by kernel_rfl) Q8.nil (Qt.body k) (by kernel_rfl) (by kernel_rfl) (by kernel_rfl)
abbrev QV.l0.σ : Type := Int × Int × Int × (List Int) × Unit
abbrev QV.l0.τ : Type := Qgj 
def QV.l0.r (k : Nat) {ρ : Type} (x : QV.l0.σ) (kn : QV.l0.σ → Option ρ) (ke : QV.l0.τ → Option ρ) : Option ρ :=
 bif (decide (x.2.2.1 < x.2.1)) then (let v1 : Int := (IntKind.wrap IntKind.i64 ((8 : Int) * x.2.2.1))
 bif (decide ((0 : Int) ≤ v1)) then (let v2 : Int := (Q10 IntKind.u64 x.1 v1)
 bif (decide (((0 : Int) ≤ x.2.2.1) ∧ (x.2.2.1 < (((List.length x.2.2.2.1) : Nat) : Int)))) then (let v3 : Int := (IntKind.wrap IntKind.i64 (x.2.2.1 + (1 : Int)))
 kn (x.1, (x.2.1, (v3, ((List.set x.2.2.2.1 (Int.toNat x.2.2.1) (IntKind.wrap IntKind.u8 v2)), ()))))) else (none)) else (none)) else (ke (x.2.2.2.1, ()))
def QV.l0 (k : Nat) : Nat → QV.l0.σ → Option QV.l0.τ := Q0o (QV.l0.r k)
def QV.l0.T : StT := ⟨.dat (.int .u64) :: us 4 ++ .vsl 0 :: us 4 ++ .dat (.int .i64) :: .dat (.int .i64) :: us 13, [.vec (.int .u8)]⟩
def QV.l0.os : List Out := [⟨(.exit 0), [.mask [5], .auto 0], ⟨us 5 ++ .vsl 0 :: us 19, [.vec (.int .u8)]⟩⟩]
def QV.c (k : Nat) {ρ : Type} (n : Int) (bytes : Int) (K : ByteArray × Unit → Option ρ) : Option ρ :=
 bif ((decide (((0 : Int) ≤ bytes) ∧ (bytes ≤ bytes))) && (Nat.ble ((Int.toNat bytes) * 1) 140737488355328)) then (let v0 : Int := (((List.length (List.replicate (Int.toNat bytes) (0 : Int))) : Nat) : Int)
 (QV.l0 k k (n, (v0, ((0 : Int), ((List.replicate (Int.toNat bytes) (0 : Int)), ()))))).bind fun t4 => K ((bytesOf t4.1), ())) else (none)
def QV (k : Nat) (n : Int) (bytes : Int) : Option (ByteArray × Unit) := QV.c k n bytes some
def QV.tin : List Ty := [(.int .u64), (.int .i64)]
def QV.tout : List Ty := [.str]
def QV.sem (k : Nat) : QK := QR QV.tin QV.tout fun x => QV k x.1 x.2.1
noncomputable def QV.ctx (k : Nat) : Ctx := ⟨Try.prog, gam []⟩
theorem QV.gok (k : Nat) : ∀ f, Qz Try.prog f ((QV.ctx k).Γ f) := Q03
theorem QV.l0.round (k : Nat) : Q0s (QV.ctx k) (QZ (Func.code Try.f109) [1, 1, 0, 1, 0, 0]) (.nil) QV.l0.T [.mask [0, 5, 10, 11], .auto 0] QV.l0.os (QV.l0.r k) := by
 intro ρ x kn ke; kernel_rfl
theorem QV.l0.ok (k : Nat) : StOK 0 Try.prog (.loop (QZ (Func.code Try.f109) [1, 1, 0, 1, 0, 0])) (QE QV.l0.T QV.l0.os (QV.l0 k k)) :=
 Q0u (C := QV.ctx k) (QV.gok k) Try.mix Q8.nil (by kernel_rfl) (by kernel_rfl) (by kernel_rfl) (QV.l0.round k) k
def QV.ann (k : Nat) : Ann := .node [] none (.nil) (.node [] none (.nil) (.node [] none (.node [] none (.nil) (.node [] none (.node [.mask [0, 5, 10, 11], .auto 0] (some (QE QV.l0.T QV.l0.os (QV.l0 k k))) .nil .nil) (.nil))) (.nil)))
theorem QV.body (k : Nat) : Q0t (QV.ctx k) Try.f109 (Func.code Try.f109) (QV.ann k) QV.tin QV.tout (fun x K => QV.c k x.1 x.2.1 K) := by
 intro ρ x K; kernel_rfl
theorem QV.sem_ok (k : Nat) : Qz Try.prog 109 (QV.sem k) :=
 QT (C := QV.ctx k) (QV.gok k) Try.mix (c := Func.code Try.f109) (ann := QV.ann k) (tin := QV.tin) (tout := QV.tout) (fun x K => QV.c k x.1 x.2.1 K) Try.func109 (by kernel_rfl) (by kernel_rfl) (Q8.seq Q8.nil (Q8.seq Q8.nil (Q8.seq (Q8.seq Q8.nil (Q8.block (Q8.loop (by kernel_rfl) (QV.l0.ok k)))) Q8.nil))) (QV.body k)
abbrev QH.τ : Type := Qgc 
def QH.c (k : Nat) {ρ : Type} (n : Int) (b0 : Qge) (b1 : (List Int)) (K : QH.τ → Option ρ) : Option ρ :=
 (QV k n (8 : Int)).bind fun t0 => (Qt k t0.1 (((), ((), ())), ()) b1).bind fun t1 => K ((((), ((), ())), ()), (t1.2.1, ()))
def QH (k : Nat) (n : Int) (b0 : Qge) (b1 : (List Int)) : Option QH.τ := QH.c k n b0 b1 some
def QH.T : Q0V := ⟨[.ptr 0 [], .dat (.int .u64)], [.pair (.pair (.sfp 0 [0] 180) (.pair (.vbs 1) (.dat .unit))) (.dat .unit), .vec (.int .u8)], 1⟩
def QH.os : List Out := [⟨.ret, [.auto 1], ⟨[], [.pair (.pair (.sfp 0 [0] 180) (.pair (.vbs 1) (.dat .unit))) (.dat .unit), .vec (.int .u8)]⟩⟩]
def QH.sem (k : Nat) : QK := Q1j QH.T QH.os fun x => QH k x.1 x.2.1 x.2.2.1
noncomputable def QH.ctx (k : Nat) : Ctx := ⟨Try.prog, gam [(109, (QV.sem k)), (95, (Qt.sem k))]⟩
theorem QH.gok (k : Nat) : ∀ f, Qz Try.prog f ((QH.ctx k).Γ f) := (QA (QV.sem_ok k) (QA (Qt.sem_ok k) Q03))
def QH.ann (k : Nat) : Ann := .nil
theorem QH.body (k : Nat) : Q1E (QH.ctx k) Try.f81 (Func.code Try.f81) (QH.ann k) QH.T QH.os (fun x K => QH.c k x.1 x.2.1 x.2.2.1 K) := by
 intro ρ x K; kernel_rfl
theorem QH.sem_ok (k : Nat) : Qz Try.prog 81 (QH.sem k) :=
 Q0E (C := QH.ctx k) (QH.gok k) Try.mix (c := Func.code Try.f81) (ann := QH.ann k) (T := QH.T) (os := QH.os) (fun x K => QH.c k x.1 x.2.1 x.2.2.1 K) Try.func81 (by kernel_rfl) (by kernel_rfl) Q8.nil (QH.body k) (by kernel_rfl) (by kernel_rfl) (by kernel_rfl)
abbrev Qx.τ : Type := (ByteArray × Unit)
def Qx.c (k : Nat) {ρ : Type} (b0 : Qge) (b1 : (List Int)) (K : Qx.τ → Option ρ) : Option ρ :=
 bif (Nat.ble (List.length b1) 9223372036854775807) then (K ((bytesOf b1), ())) else (none)
def Qx (k : Nat) (b0 : Qge) (b1 : (List Int)) : Option Qx.τ := Qx.c k b0 b1 some
def Qx.T : Q0V := ⟨[.ptr 0 []], [.pair (.pair (.sfp 0 [0] 180) (.pair (.vbs 1) (.dat .unit))) (.dat .unit), .vec (.int .u8)], 1⟩
def Qx.os : List Out := [⟨.ret, [.freeze (.slot 0), .auto 1], ⟨[.dat .str], [.undef]⟩⟩]
def Qx.sem (k : Nat) : QK := Q1j Qx.T Qx.os fun x => Qx k x.1 x.2.1
noncomputable def Qx.ctx (k : Nat) : Ctx := ⟨Try.prog, gam [(108, QbX)]⟩
theorem Qx.gok (k : Nat) : ∀ f, Qz Try.prog f ((Qx.ctx k).Γ f) := (QA Bld.string Q03)
def Qx.ann (k : Nat) : Ann := .nil
theorem Qx.body (k : Nat) : Q1E (Qx.ctx k) Try.f82 (Func.code Try.f82) (Qx.ann k) Qx.T Qx.os (fun x K => Qx.c k x.1 x.2.1 K) := by
 intro ρ x K; kernel_rfl
theorem Qx.sem_ok (k : Nat) : Qz Try.prog 82 (Qx.sem k) :=
 Q0E (C := Qx.ctx k) (Qx.gok k) Try.mix (c := Func.code Try.f82) (ann := Qx.ann k) (T := Qx.T) (os := Qx.os) (fun x K => Qx.c k x.1 x.2.1 K) Try.func82 (by kernel_rfl) (by kernel_rfl) Q8.nil (Qx.body k) (by kernel_rfl) (by kernel_rfl) (by kernel_rfl)
def Q0b.c (k : Nat) {ρ : Type} (header : ByteArray) (nonce : Int) (K : Qgg × Int × Unit → Option ρ) : Option ρ :=
 bif ((((ByteArray.size header) : Nat) : Int) != (80 : Int)) then (K (((0 : Int), ((0 : Int), ())), ((1 : Int), ()))) else ((QN k ).bind fun t0 => (Qt k header (((), ((), ())), ()) t0.2.1).bind fun t1 => (QH k nonce (((), ((), ())), ()) t1.2.1).bind fun t2 => (Qx k (((), ((), ())), ()) t2.2.1).bind fun t3 => (Q0q k t3.1).bind fun t4 => let v5 : ByteArray := (bytesOf (List.take 32 (List.drop 0 t4.1)))
 (QD k v5).bind fun t6 => (Qv k (t6.1.1, (t6.1.2.1, (t6.1.2.2.1, ())))).bind fun t7 => (Qv k (t7.2.1.1, (t7.2.1.2.1, (t7.2.1.2.2.1, ())))).bind fun t8 => K ((t7.1, (t8.1, ())), ((0 : Int), ())))
def Q0b (k : Nat) (header : ByteArray) (nonce : Int) : Option (Qgg × Int × Unit) := Q0b.c k header nonce some
def Q0b.tin : List Ty := [.str, (.int .u64)]
def Q0b.tout : List Ty := [Qgd, (.int .i64)]
def Q0b.sem (k : Nat) : QK := QR Q0b.tin Q0b.tout fun x => Q0b k x.1 x.2.1
noncomputable def Q0b.ctx (k : Nat) : Ctx := ⟨Try.prog, gam [(76, (QN.sem k)), (95, (Qt.sem k)), (81, (QH.sem k)), (82, (Qx.sem k)), (96, (Q0q.sem k)), (68, (QD.sem k)), (69, (Qv.sem k))]⟩
theorem Q0b.gok (k : Nat) : ∀ f, Qz Try.prog f ((Q0b.ctx k).Γ f) := (QA (QN.sem_ok k) (QA (Qt.sem_ok k) (QA (QH.sem_ok k) (QA (Qx.sem_ok k) (QA (Q0q.sem_ok k) (QA (QD.sem_ok k) (QA (Qv.sem_ok k) Q03)))))))
def Q0b.ann (k : Nat) : Ann := .nil
theorem Q0b.body (k : Nat) : Q0t (Q0b.ctx k) Try.f55 (Func.code Try.f55) (Q0b.ann k) Q0b.tin Q0b.tout (fun x K => Q0b.c k x.1 x.2.1 K) := by
 intro ρ x K; kernel_rfl
theorem Q0b.sem_ok (k : Nat) : Qz Try.prog 55 (Q0b.sem k) :=
 QT (C := Q0b.ctx k) (Q0b.gok k) Try.mix (c := Func.code Try.f55) (ann := Q0b.ann k) (tin := Q0b.tin) (tout := Q0b.tout) (fun x K => Q0b.c k x.1 x.2.1 K) Try.func55 (by kernel_rfl) (by kernel_rfl) Q8.nil (Q0b.body k)
abbrev Qd.l0.σ : Type := Int × Int × ByteArray × Int × Unit
abbrev Qd.l0.τ : Type := (ByteArray × Unit)
def Qd.l0.r (k : Nat) {ρ : Type} (x : Qd.l0.σ) (kn : Qd.l0.σ → Option ρ) (ke : Qd.l0.τ → Option ρ) : Option ρ :=
 bif (decide (x.2.2.2.1 < x.2.1)) then (let v0 : Int := (Int.tmod x.1 (256 : Int))
 let v1 : ByteArray := (bytesOf (List.set (List.replicate 1 (0 : Int)) 0 (IntKind.wrap IntKind.u8 v0)))
 bif (Nat.ble ((ByteArray.size x.2.2.1) + (ByteArray.size v1)) 9223372036854775807) then (let v2 : ByteArray := (x.2.2.1 ++ v1)
 let v3 : Int := (IntKind.wrap IntKind.u64 (Int.tdiv x.1 (256 : Int)))
 let v4 : Int := (IntKind.wrap IntKind.i64 (x.2.2.2.1 + (1 : Int)))
 kn (v3, (x.2.1, (v2, (v4, ()))))) else (none)) else (ke (x.2.2.1, ()))
def Qd.l0 (k : Nat) : Nat → Qd.l0.σ → Option Qd.l0.τ := Q0o (Qd.l0.r k)
def Qd.l0.T : StT := ⟨.dat (.int .u64) :: .dat (.int .i64) :: us 3 ++ .dat .str :: .dat (.int .i64) :: us 15, []⟩
def Qd.l0.os : List Out := [⟨(.exit 0), [.mask [5], .auto 0], ⟨us 5 ++ .dat .str :: us 16, []⟩⟩]
def Qd.c (k : Nat) {ρ : Type} (n : Int) (bytes : Int) (K : ByteArray × Unit → Option ρ) : Option ρ :=
 (Qd.l0 k k (n, (bytes, ((⟨(List.toArray [])⟩ : ByteArray), ((0 : Int), ()))))).bind fun t5 => K (t5.1, ())
def Qd (k : Nat) (n : Int) (bytes : Int) : Option (ByteArray × Unit) := Qd.c k n bytes some
def Qd.tin : List Ty := [(.int .u64), (.int .i64)]
def Qd.tout : List Ty := [.str]
def Qd.sem (k : Nat) : QK := QR Qd.tin Qd.tout fun x => Qd k x.1 x.2.1
noncomputable def Qd.ctx (k : Nat) : Ctx := ⟨Try.prog, gam []⟩
theorem Qd.gok (k : Nat) : ∀ f, Qz Try.prog f ((Qd.ctx k).Γ f) := Q03
theorem Qd.l0.round (k : Nat) : Q0s (Qd.ctx k) (QZ (Func.code Try.f60) [1, 1, 0, 1, 0, 0]) (.nil) Qd.l0.T [.mask [0, 1, 5, 6], .auto 0] Qd.l0.os (Qd.l0.r k) := by
 intro ρ x kn ke; kernel_rfl
theorem Qd.l0.ok (k : Nat) : StOK 0 Try.prog (.loop (QZ (Func.code Try.f60) [1, 1, 0, 1, 0, 0])) (QE Qd.l0.T Qd.l0.os (Qd.l0 k k)) :=
 Q0u (C := Qd.ctx k) (Qd.gok k) Try.mix Q8.nil (by kernel_rfl) (by kernel_rfl) (by kernel_rfl) (Qd.l0.round k) k
def Qd.ann (k : Nat) : Ann := .node [] none (.nil) (.node [] none (.nil) (.node [] none (.node [] none (.nil) (.node [] none (.node [] (some (QE Qd.l0.T Qd.l0.os (Qd.l0 k k))) .nil .nil) (.nil))) (.nil)))
theorem Qd.body (k : Nat) : Q0t (Qd.ctx k) Try.f60 (Func.code Try.f60) (Qd.ann k) Qd.tin Qd.tout (fun x K => Qd.c k x.1 x.2.1 K) := by
 intro ρ x K; kernel_rfl
theorem Qd.sem_ok (k : Nat) : Qz Try.prog 60 (Qd.sem k) :=
 QT (C := Qd.ctx k) (Qd.gok k) Try.mix (c := Func.code Try.f60) (ann := Qd.ann k) (tin := Qd.tin) (tout := Qd.tout) (fun x K => Qd.c k x.1 x.2.1 K) Try.func60 (by kernel_rfl) (by kernel_rfl) (Q8.seq Q8.nil (Q8.seq Q8.nil (Q8.seq (Q8.seq Q8.nil (Q8.block (Q8.loop (by kernel_rfl) (Qd.l0.ok k)))) Q8.nil))) (Qd.body k)
abbrev Q6.l0.σ : Type := Int × (List Int) × Unit
abbrev Q6.l0.τ : Type := (Int × (List Int) × Unit)
def Q6.l0.r (k : Nat) {ρ : Type} (x : Q6.l0.σ) (kn : Q6.l0.σ → Option ρ) (ke : Q6.l0.τ → Option ρ) : Option ρ :=
 let v0 : Int := (((List.length x.2.1) : Nat) : Int)
 let v1 : Int := (IntKind.wrap IntKind.u64 (x.1 + (IntKind.wrap IntKind.u64 v0)))
 bif ((Int.tmod v1 (64 : Int)) != (56 : Int)) then (bif (Nat.ble (((List.length x.2.1) + 1) * 1) 140737488355328) then (kn (x.1, ((x.2.1 ++ (List.set (List.replicate 1 (0 : Int)) 0 (0 : Int))), ()))) else (none)) else (ke (x.1, (x.2.1, ())))
def Q6.l0 (k : Nat) : Nat → Q6.l0.σ → Option Q6.l0.τ := Q0o (Q6.l0.r k)
def Q6.l0.T : StT := ⟨.dat (.int .u64) :: us 2 ++ .vsl 0 :: us 29, [.vec (.int .u8)]⟩
def Q6.l0.os : List Out := [⟨(.exit 0), [.mask [0, 3], .auto 0], ⟨.dat (.int .u64) :: us 2 ++ .vsl 0 :: us 29, [.vec (.int .u8)]⟩⟩]
abbrev Q6.l1.σ : Type := Int × Int × (List Int) × Unit
abbrev Q6.l1.τ : Type := Qgj 
def Q6.l1.r (k : Nat) {ρ : Type} (x : Q6.l1.σ) (kn : Q6.l1.σ → Option ρ) (ke : Q6.l1.τ → Option ρ) : Option ρ :=
 bif (decide (x.2.1 ≥ (0 : Int))) then (let v4 : Int := (IntKind.wrap IntKind.i64 ((8 : Int) * x.2.1))
 bif (decide ((0 : Int) ≤ v4)) then (let v5 : Int := (Q10 IntKind.u64 x.1 v4)
 bif (Nat.ble (((List.length x.2.2.1) + (List.length (List.set (List.replicate 1 (0 : Int)) 0 (IntKind.wrap IntKind.u8 v5)))) * 1) 140737488355328) then (let v6 : Int := (IntKind.wrap IntKind.i64 (x.2.1 - (1 : Int)))
 kn (x.1, (v6, ((x.2.2.1 ++ (List.set (List.replicate 1 (0 : Int)) 0 (IntKind.wrap IntKind.u8 v5))), ())))) else (none)) else (none)) else (ke (x.2.2.1, ()))
def Q6.l1 (k : Nat) : Nat → Q6.l1.σ → Option Q6.l1.τ := Q0o (Q6.l1.r k)
def Q6.l1.T : StT := ⟨us 3 ++ .vsl 0 :: .dat (.int .u64) :: .dat (.int .i64) :: us 27, [.vec (.int .u8)]⟩
def Q6.l1.os : List Out := [⟨(.exit 2), [.mask [3], .auto 0], ⟨us 3 ++ .vsl 0 :: us 29, [.vec (.int .u8)]⟩⟩]
def Q6.c (k : Nat) {ρ : Type} (n : Int) (K : ByteArray × Unit → Option ρ) : Option ρ :=
 (Q6.l0 k k (n, ((List.set (List.replicate 1 (0 : Int)) 0 (128 : Int)), ()))).bind fun t2 => let v3 : Int := (IntKind.wrap IntKind.u64 ((8 : Int) * t2.1))
 (Q6.l1 k k (v3, ((7 : Int), (t2.2.1, ())))).bind fun t7 => K ((bytesOf t7.1), ())
def Q6 (k : Nat) (n : Int) : Option (ByteArray × Unit) := Q6.c k n some
def Q6.tin : List Ty := [(.int .u64)]
def Q6.tout : List Ty := [.str]
def Q6.sem (k : Nat) : QK := QR Q6.tin Q6.tout fun x => Q6 k x.1
noncomputable def Q6.ctx (k : Nat) : Ctx := ⟨Try.prog, gam []⟩
theorem Q6.gok (k : Nat) : ∀ f, Qz Try.prog f ((Q6.ctx k).Γ f) := Q03
theorem Q6.l1.round (k : Nat) : Q0s (Q6.ctx k) (QZ (Func.code Try.f113) [1, 1, 1, 1, 0, 1, 0, 0]) (.nil) Q6.l1.T [.mask [3, 4, 5], .auto 0] Q6.l1.os (Q6.l1.r k) := by
 intro ρ x kn ke; kernel_rfl
theorem Q6.l1.ok (k : Nat) : StOK 0 Try.prog (.loop (QZ (Func.code Try.f113) [1, 1, 1, 1, 0, 1, 0, 0])) (QE Q6.l1.T Q6.l1.os (Q6.l1 k k)) :=
 Q0u (C := Q6.ctx k) (Q6.gok k) Try.mix Q8.nil (by kernel_rfl) (by kernel_rfl) (by kernel_rfl) (Q6.l1.round k) k
theorem Q6.l0.round (k : Nat) : Q0s (Q6.ctx k) (QZ (Func.code Try.f113) [1, 1, 0, 0, 0]) (.nil) Q6.l0.T [.mask [0, 3], .auto 0] Q6.l0.os (Q6.l0.r k) := by
 intro ρ x kn ke; kernel_rfl
theorem Q6.l0.ok (k : Nat) : StOK 0 Try.prog (.loop (QZ (Func.code Try.f113) [1, 1, 0, 0, 0])) (QE Q6.l0.T Q6.l0.os (Q6.l0 k k)) :=
 Q0u (C := Q6.ctx k) (Q6.gok k) Try.mix Q8.nil (by kernel_rfl) (by kernel_rfl) (by kernel_rfl) (Q6.l0.round k) k
def Q6.ann (k : Nat) : Ann := .node [] none (.nil) (.node [] none (.nil) (.node [] none (.node [] none (.node [.mask [0, 3], .auto 0] (some (QE Q6.l0.T Q6.l0.os (Q6.l0 k k))) .nil .nil) (.nil)) (.node [] none (.nil) (.node [] none (.node [] none (.nil) (.node [] none (.node [.mask [3, 4, 5], .auto 0] (some (QE Q6.l1.T Q6.l1.os (Q6.l1 k k))) .nil .nil) (.nil))) (.nil)))))
theorem Q6.body (k : Nat) : Q0t (Q6.ctx k) Try.f113 (Func.code Try.f113) (Q6.ann k) Q6.tin Q6.tout (fun x K => Q6.c k x.1 K) := by
 intro ρ x K; kernel_rfl
theorem Q6.sem_ok (k : Nat) : Qz Try.prog 113 (Q6.sem k) :=
 QT (C := Q6.ctx k) (Q6.gok k) Try.mix (c := Func.code Try.f113) (ann := Q6.ann k) (tin := Q6.tin) (tout := Q6.tout) (fun x K => Q6.c k x.1 K) Try.func113 (by kernel_rfl) (by kernel_rfl) (Q8.seq Q8.nil (Q8.seq Q8.nil (Q8.seq (Q8.block (Q8.loop (by kernel_rfl) (Q6.l0.ok k))) (Q8.seq Q8.nil (Q8.seq (Q8.seq Q8.nil (Q8.block (Q8.loop (by kernel_rfl) (Q6.l1.ok k)))) Q8.nil))))) (Q6.body k)
def QB.c (k : Nat) {ρ : Type}  (K : (List Int) × Unit → Option ρ) : Option ρ :=
 let v0 : (List Int) := (List.set (List.set (List.set (List.set (List.set (List.set (List.set (List.set (List.replicate 8 (0 : Int)) 0 (1779033703 : Int)) 1 (3144134277 : Int)) 2 (1013904242 : Int)) 3 (2773480762 : Int)) 4 (1359893119 : Int)) 5 (2600822924 : Int)) 6 (528734635 : Int)) 7 (1541459225 : Int))
 K (v0, ())
def QB (k : Nat)  : Option Qgj := QB.c k  some
def QB.tin : List Ty := []
def QB.tout : List Ty := [Qgh]
def QB.sem (k : Nat) : QK := QR QB.tin QB.tout fun x => QB k 
noncomputable def QB.ctx (k : Nat) : Ctx := ⟨Try.prog, gam []⟩
theorem QB.gok (k : Nat) : ∀ f, Qz Try.prog f ((QB.ctx k).Γ f) := Q03
def QB.ann (k : Nat) : Ann := .nil
theorem QB.body (k : Nat) : Q0t (QB.ctx k) Try.f114 (Func.code Try.f114) (QB.ann k) QB.tin QB.tout (fun x K => QB.c k  K) := by
 intro ρ x K; kernel_rfl
theorem QB.sem_ok (k : Nat) : Qz Try.prog 114 (QB.sem k) :=
 QT (C := QB.ctx k) (QB.gok k) Try.mix (c := Func.code Try.f114) (ann := QB.ann k) (tin := QB.tin) (tout := QB.tout) (fun x K => QB.c k  K) Try.func114 (by kernel_rfl) (by kernel_rfl) Q8.nil (QB.body k)
def Qr.c (k : Nat) {ρ : Type}  (K : (List Int) × Unit → Option ρ) : Option ρ :=
 let v0 : (List Int) := (List.set (List.set (List.set (List.set (List.set (List.set (List.set (List.set (List.set (List.set (List.set (List.set (List.set (List.set (List.set (List.set (List.set (List.set (List.set (List.set (List.set (List.set (List.set (List.set (List.set (List.set (List.set (List.set (List.set (List.set (List.set (List.set (List.set (List.set (List.set (List.set (List.set (List.set (List.set (List.set (List.set (List.set (List.set (List.set (List.set (List.set (List.set (List.set (List.set (List.set (List.set (List.set (List.set (List.set (List.set (List.set (List.set (List.set (List.set (List.set (List.set (List.set (List.set (List.set (List.replicate 64 (0 : Int)) 0 (1116352408 : Int)) 1 (1899447441 : Int)) 2 (3049323471 : Int)) 3 (3921009573 : Int)) 4 (961987163 : Int)) 5 (1508970993 : Int)) 6 (2453635748 : Int)) 7 (2870763221 : Int)) 8 (3624381080 : Int)) 9 (310598401 : Int)) 10 (607225278 : Int)) 11 (1426881987 : Int)) 12 (1925078388 : Int)) 13 (2162078206 : Int)) 14 (2614888103 : Int)) 15 (3248222580 : Int)) 16 (3835390401 : Int)) 17 (4022224774 : Int)) 18 (264347078 : Int)) 19 (604807628 : Int)) 20 (770255983 : Int)) 21 (1249150122 : Int)) 22 (1555081692 : Int)) 23 (1996064986 : Int)) 24 (2554220882 : Int)) 25 (2821834349 : Int)) 26 (2952996808 : Int)) 27 (3210313671 : Int)) 28 (3336571891 : Int)) 29 (3584528711 : Int)) 30 (113926993 : Int)) 31 (338241895 : Int)) 32 (666307205 : Int)) 33 (773529912 : Int)) 34 (1294757372 : Int)) 35 (1396182291 : Int)) 36 (1695183700 : Int)) 37 (1986661051 : Int)) 38 (2177026350 : Int)) 39 (2456956037 : Int)) 40 (2730485921 : Int)) 41 (2820302411 : Int)) 42 (3259730800 : Int)) 43 (3345764771 : Int)) 44 (3516065817 : Int)) 45 (3600352804 : Int)) 46 (4094571909 : Int)) 47 (275423344 : Int)) 48 (430227734 : Int)) 49 (506948616 : Int)) 50 (659060556 : Int)) 51 (883997877 : Int)) 52 (958139571 : Int)) 53 (1322822218 : Int)) 54 (1537002063 : Int)) 55 (1747873779 : Int)) 56 (1955562222 : Int)) 57 (2024104815 : Int)) 58 (2227730452 : Int)) 59 (2361852424 : Int)) 60 (2428436474 : Int)) 61 (2756734187 : Int)) 62 (3204031479 : Int)) 63 (3329325298 : Int))
 K (v0, ())
def Qr (k : Nat)  : Option Qgj := Qr.c k  some
def Qr.tin : List Ty := []
def Qr.tout : List Ty := [Qgf]
def Qr.sem (k : Nat) : QK := QR Qr.tin Qr.tout fun x => Qr k 
noncomputable def Qr.ctx (k : Nat) : Ctx := ⟨Try.prog, gam []⟩
theorem Qr.gok (k : Nat) : ∀ f, Qz Try.prog f ((Qr.ctx k).Γ f) := Q03
def Qr.ann (k : Nat) : Ann := .nil
theorem Qr.body (k : Nat) : Q0t (Qr.ctx k) Try.f126 (Func.code Try.f126) (Qr.ann k) Qr.tin Qr.tout (fun x K => Qr.c k  K) := by
 intro ρ x K; kernel_rfl
theorem Qr.sem_ok (k : Nat) : Qz Try.prog 126 (Qr.sem k) :=
 QT (C := Qr.ctx k) (Qr.gok k) Try.mix (c := Func.code Try.f126) (ann := Qr.ann k) (tin := Qr.tin) (tout := Qr.tout) (fun x K => Qr.c k  K) Try.func126 (by kernel_rfl) (by kernel_rfl) Q8.nil (Qr.body k)
def Qq.c (k : Nat) {ρ : Type} (n : Int) (by_1 : Int) (K : Int × Unit → Option ρ) : Option ρ :=
 bif (decide ((0 : Int) ≤ by_1)) then (let v0 : Int := (IntKind.wrap IntKind.i64 ((32 : Int) - by_1))
 bif (decide ((0 : Int) ≤ v0)) then (let v1 : Int := (Qw BinOp.or IntKind.u32 (Q10 IntKind.u32 n by_1) (Q1H IntKind.u32 n v0))
 K (v1, ())) else (none)) else (none)
def Qq (k : Nat) (n : Int) (by_1 : Int) : Option (Int × Unit) := Qq.c k n by_1 some
def Qq.tin : List Ty := [(.int .u32), (.int .i64)]
def Qq.tout : List Ty := [(.int .u32)]
def Qq.sem (k : Nat) : QK := QR Qq.tin Qq.tout fun x => Qq k x.1 x.2.1
noncomputable def Qq.ctx (k : Nat) : Ctx := ⟨Try.prog, gam []⟩
theorem Qq.gok (k : Nat) : ∀ f, Qz Try.prog f ((Qq.ctx k).Γ f) := Q03
def Qq.ann (k : Nat) : Ann := .nil
theorem Qq.body (k : Nat) : Q0t (Qq.ctx k) Try.f127 (Func.code Try.f127) (Qq.ann k) Qq.tin Qq.tout (fun x K => Qq.c k x.1 x.2.1 K) := by
 intro ρ x K; kernel_rfl
theorem Qq.sem_ok (k : Nat) : Qz Try.prog 127 (Qq.sem k) :=
 QT (C := Qq.ctx k) (Qq.gok k) Try.mix (c := Func.code Try.f127) (ann := Qq.ann k) (tin := Qq.tin) (tout := Qq.tout) (fun x K => Qq.c k x.1 x.2.1 K) Try.func127 (by kernel_rfl) (by kernel_rfl) Q8.nil (Qq.body k)
abbrev Q2.l0.σ : Type := Int × (List Int) × (List Int) × (List Int) × (List Int) × (List Int) × Unit
abbrev Q2.l0.τ : Type := ((List Int) × (List Int) × (List Int) × (List Int) × Unit)
def Q2.l0.r (k : Nat) {ρ : Type} (x : Q2.l0.σ) (kn : Q2.l0.σ → Option ρ) (ke : Q2.l0.τ → Option ρ) : Option ρ :=
 bif (decide (x.1 < (64 : Int))) then (bif (decide (x.1 < (16 : Int))) then (let v2 : Int := (IntKind.wrap IntKind.i64 ((4 : Int) * x.1))
 bif (decide (((0 : Int) ≤ v2) ∧ (v2 < ((64 : Nat) : Int)))) then (let v3 : Int := (List.getD x.2.2.1 (Int.toNat v2) (0 : Int))
 let v4 : Int := (Q1H IntKind.u32 (IntKind.wrap IntKind.u32 v3) (24 : Int))
 let v5 : Int := (IntKind.wrap IntKind.i64 ((4 : Int) * x.1))
 let v6 : Int := (IntKind.wrap IntKind.i64 (v5 + (1 : Int)))
 bif (decide (((0 : Int) ≤ v6) ∧ (v6 < ((64 : Nat) : Int)))) then (let v7 : Int := (List.getD x.2.2.1 (Int.toNat v6) (0 : Int))
 let v8 : Int := (Q1H IntKind.u32 (IntKind.wrap IntKind.u32 v7) (16 : Int))
 let v9 : Int := (IntKind.wrap IntKind.i64 ((4 : Int) * x.1))
 let v10 : Int := (IntKind.wrap IntKind.i64 (v9 + (2 : Int)))
 bif (decide (((0 : Int) ≤ v10) ∧ (v10 < ((64 : Nat) : Int)))) then (let v11 : Int := (List.getD x.2.2.1 (Int.toNat v10) (0 : Int))
 let v12 : Int := (Q1H IntKind.u32 (IntKind.wrap IntKind.u32 v11) (8 : Int))
 let v13 : Int := (Qw BinOp.or IntKind.u32 (Qw BinOp.or IntKind.u32 v4 v8) v12)
 let v14 : Int := (IntKind.wrap IntKind.i64 ((4 : Int) * x.1))
 let v15 : Int := (IntKind.wrap IntKind.i64 (v14 + (3 : Int)))
 bif (decide (((0 : Int) ≤ v15) ∧ (v15 < ((64 : Nat) : Int)))) then (let v16 : Int := (List.getD x.2.2.1 (Int.toNat v15) (0 : Int))
 bif (decide (((0 : Int) ≤ x.1) ∧ (x.1 < ((64 : Nat) : Int)))) then (let v17 : Int := (IntKind.wrap IntKind.i64 (x.1 + (1 : Int)))
 kn (v17, (x.2.1, (x.2.2.1, (x.2.2.2.1, (x.2.2.2.2.1, ((List.set x.2.2.2.2.2.1 (Int.toNat x.1) (Qw BinOp.or IntKind.u32 v13 (IntKind.wrap IntKind.u32 v16))), ()))))))) else (none)) else (none)) else (none)) else (none)) else (none)) else (let v18 : Int := (IntKind.wrap IntKind.i64 (x.1 - (15 : Int)))
 bif (decide (((0 : Int) ≤ v18) ∧ (v18 < ((64 : Nat) : Int)))) then (let v19 : Int := (List.getD x.2.2.2.2.2.1 (Int.toNat v18) (0 : Int))
 let v20 : Int := (IntKind.wrap IntKind.i64 (x.1 - (2 : Int)))
 bif (decide (((0 : Int) ≤ v20) ∧ (v20 < ((64 : Nat) : Int)))) then (let v21 : Int := (List.getD x.2.2.2.2.2.1 (Int.toNat v20) (0 : Int))
 (Qq k v21 (17 : Int)).bind fun t22 => (Qq k v21 (19 : Int)).bind fun t23 => let v24 : Int := (Qw BinOp.xor IntKind.u32 t22.1 t23.1)
 let v25 : Int := (Q10 IntKind.u32 v21 (10 : Int))
 let v26 : Int := (IntKind.wrap IntKind.i64 (x.1 - (7 : Int)))
 bif (decide (((0 : Int) ≤ v26) ∧ (v26 < ((64 : Nat) : Int)))) then (let v27 : Int := (List.getD x.2.2.2.2.2.1 (Int.toNat v26) (0 : Int))
 let v28 : Int := (IntKind.wrap IntKind.u32 ((Qw BinOp.xor IntKind.u32 v24 v25) + v27))
 (Qq k v19 (7 : Int)).bind fun t29 => (Qq k v19 (18 : Int)).bind fun t30 => let v31 : Int := (Qw BinOp.xor IntKind.u32 t29.1 t30.1)
 let v32 : Int := (Q10 IntKind.u32 v19 (3 : Int))
 let v33 : Int := (IntKind.wrap IntKind.u32 (v28 + (Qw BinOp.xor IntKind.u32 v31 v32)))
 let v34 : Int := (IntKind.wrap IntKind.i64 (x.1 - (16 : Int)))
 bif (decide (((0 : Int) ≤ v34) ∧ (v34 < ((64 : Nat) : Int)))) then (let v35 : Int := (List.getD x.2.2.2.2.2.1 (Int.toNat v34) (0 : Int))
 let v36 : Int := (IntKind.wrap IntKind.u32 (v33 + v35))
 bif (decide (((0 : Int) ≤ x.1) ∧ (x.1 < ((64 : Nat) : Int)))) then (let v37 : Int := (IntKind.wrap IntKind.i64 (x.1 + (1 : Int)))
 kn (v37, (x.2.1, (x.2.2.1, (x.2.2.2.1, (x.2.2.2.2.1, ((List.set x.2.2.2.2.2.1 (Int.toNat x.1) v36), ()))))))) else (none)) else (none)) else (none)) else (none)) else (none))) else (ke (x.2.1, (x.2.2.2.1, (x.2.2.2.2.1, (x.2.2.2.2.2.1, ())))))
def Q2.l0 (k : Nat) : Nat → Q2.l0.σ → Option Q2.l0.τ := Q0o (Q2.l0.r k)
def Q2.l0.T : StT := ⟨us 2 ++ .ptr 0 [] :: .ptr 1 [] :: .ptr 2 [] :: .ptr 3 [] :: .ptr 4 [] :: .dat (.int .i64) :: us 181, [.dat Qgh, .dat (.arr 64 (.int .u8)), .dat Qgh, .dat Qgf, .dat Qgf]⟩
def Q2.l0.os : List Out := [⟨(.exit 0), [.mask [2, 4, 5, 6], .auto 0], ⟨us 2 ++ .ptr 0 [] :: us 1 ++ .ptr 1 [] :: .ptr 2 [] :: .ptr 3 [] :: us 182, [.dat Qgh, .dat Qgh, .dat Qgf, .dat Qgf]⟩⟩]
abbrev Q2.l1.σ : Type := Int × (List Int) × (List Int) × (List Int) × (List Int) × (List Int) × Unit
abbrev Q2.l1.τ : Type := ((List Int) × (List Int) × (List Int) × Unit)
def Q2.l1.r (k : Nat) {ρ : Type} (x : Q2.l1.σ) (kn : Q2.l1.σ → Option ρ) (ke : Q2.l1.τ → Option ρ) : Option ρ :=
 bif (decide (x.1 < (64 : Int))) then (let v40 : Int := (List.getD x.2.2.2.2.2.1 4 (0 : Int))
 let v41 : Int := (List.getD x.2.2.2.2.2.1 0 (0 : Int))
 let v42 : Int := (List.getD x.2.2.2.2.2.1 7 (0 : Int))
 (Qq k v40 (6 : Int)).bind fun t43 => (Qq k v40 (11 : Int)).bind fun t44 => let v45 : Int := (Qw BinOp.xor IntKind.u32 t43.1 t44.1)
 (Qq k v40 (25 : Int)).bind fun t46 => let v47 : Int := (Qw BinOp.xor IntKind.u32 v45 t46.1)
 let v48 : Int := (IntKind.wrap IntKind.u32 (v42 + v47))
 let v49 : Int := (List.getD x.2.2.2.2.2.1 5 (0 : Int))
 let v50 : Int := (IntKind.wrap IntKind.u32 ((4294967295 : Int) - v40))
 let v51 : Int := (List.getD x.2.2.2.2.2.1 6 (0 : Int))
 let v52 : Int := (Qw BinOp.xor IntKind.u32 (Qw BinOp.and IntKind.u32 v40 v49) (Qw BinOp.and IntKind.u32 v50 v51))
 let v53 : Int := (IntKind.wrap IntKind.u32 (v48 + v52))
 bif (decide (((0 : Int) ≤ x.1) ∧ (x.1 < ((64 : Nat) : Int)))) then (let v54 : Int := (List.getD x.2.2.2.1 (Int.toNat x.1) (0 : Int))
 let v55 : Int := (IntKind.wrap IntKind.u32 (v53 + v54))
 bif (decide (((0 : Int) ≤ x.1) ∧ (x.1 < ((64 : Nat) : Int)))) then (let v56 : Int := (List.getD x.2.2.2.2.1 (Int.toNat x.1) (0 : Int))
 let v57 : Int := (IntKind.wrap IntKind.u32 (v55 + v56))
 (Qq k v41 (2 : Int)).bind fun t58 => (Qq k v41 (13 : Int)).bind fun t59 => let v60 : Int := (Qw BinOp.xor IntKind.u32 t58.1 t59.1)
 (Qq k v41 (22 : Int)).bind fun t61 => let v62 : Int := (Qw BinOp.xor IntKind.u32 v60 t61.1)
 let v63 : Int := (List.getD x.2.2.2.2.2.1 1 (0 : Int))
 let v64 : Int := (List.getD x.2.2.2.2.2.1 2 (0 : Int))
 let v65 : Int := (Qw BinOp.xor IntKind.u32 (Qw BinOp.and IntKind.u32 v41 v63) (Qw BinOp.and IntKind.u32 v41 v64))
 let v66 : Int := (List.getD x.2.2.2.2.2.1 1 (0 : Int))
 let v67 : Int := (List.getD x.2.2.2.2.2.1 2 (0 : Int))
 let v68 : Int := (Qw BinOp.xor IntKind.u32 v65 (Qw BinOp.and IntKind.u32 v66 v67))
 let v69 : Int := (IntKind.wrap IntKind.u32 (v62 + v68))
 let v70 : Int := (IntKind.wrap IntKind.u32 (v57 + v69))
 let v71 : Int := (List.getD x.2.2.2.2.2.1 0 (0 : Int))
 let v72 : Int := (List.getD x.2.2.2.2.2.1 1 (0 : Int))
 let v73 : Int := (List.getD x.2.2.2.2.2.1 2 (0 : Int))
 let v74 : Int := (List.getD x.2.2.2.2.2.1 3 (0 : Int))
 let v75 : Int := (IntKind.wrap IntKind.u32 (v74 + v57))
 let v76 : Int := (List.getD x.2.2.2.2.2.1 4 (0 : Int))
 let v77 : Int := (List.getD x.2.2.2.2.2.1 5 (0 : Int))
 let v78 : Int := (List.getD x.2.2.2.2.2.1 6 (0 : Int))
 let v79 : (List Int) := (List.set (List.set (List.set (List.set (List.set (List.set (List.set (List.set (List.replicate 8 (0 : Int)) 0 v70) 1 v71) 2 v72) 3 v73) 4 v75) 5 v76) 6 v77) 7 v78)
 let v80 : Int := (IntKind.wrap IntKind.i64 (x.1 + (1 : Int)))
 kn (v80, (x.2.1, (x.2.2.1, (x.2.2.2.1, (x.2.2.2.2.1, (v79, ()))))))) else (none)) else (none)) else (ke (x.2.1, (x.2.2.1, (x.2.2.2.2.2.1, ()))))
def Q2.l1 (k : Nat) : Nat → Q2.l1.σ → Option Q2.l1.τ := Q0o (Q2.l1.r k)
def Q2.l1.T : StT := ⟨us 2 ++ .ptr 0 [] :: us 1 ++ .ptr 1 [] :: .ptr 2 [] :: .ptr 3 [] :: us 3 ++ .ptr 4 [] :: .dat (.int .i64) :: us 177, [.dat Qgh, .dat Qgh, .dat Qgf, .dat Qgf, .dat Qgh]⟩
def Q2.l1.os : List Out := [⟨(.exit 2), [.mask [2, 4, 10], .auto 0], ⟨us 2 ++ .ptr 0 [] :: us 1 ++ .ptr 1 [] :: us 5 ++ .ptr 2 [] :: us 178, [.dat Qgh, .dat Qgh, .dat Qgh]⟩⟩]
abbrev Q2.l2.σ : Type := Int × (List Int) × (List Int) × (List Int) × Unit
abbrev Q2.l2.τ : Type := ((List Int) × (List Int) × Unit)
def Q2.l2.r (k : Nat) {ρ : Type} (x : Q2.l2.σ) (kn : Q2.l2.σ → Option ρ) (ke : Q2.l2.τ → Option ρ) : Option ρ :=
 bif (decide (x.1 < (8 : Int))) then (bif (decide (((0 : Int) ≤ x.1) ∧ (x.1 < ((8 : Nat) : Int)))) then (let v82 : Int := (List.getD x.2.1 (Int.toNat x.1) (0 : Int))
 bif (decide (((0 : Int) ≤ x.1) ∧ (x.1 < ((8 : Nat) : Int)))) then (let v83 : Int := (List.getD x.2.2.2.1 (Int.toNat x.1) (0 : Int))
 let v84 : Int := (IntKind.wrap IntKind.u32 (v82 + v83))
 bif (decide (((0 : Int) ≤ x.1) ∧ (x.1 < ((8 : Nat) : Int)))) then (let v85 : Int := (IntKind.wrap IntKind.i64 (x.1 + (1 : Int)))
 kn (v85, ((List.set x.2.1 (Int.toNat x.1) v84), (x.2.2.1, (x.2.2.2.1, ()))))) else (none)) else (none)) else (none)) else (ke (x.2.1, (x.2.2.1, ())))
def Q2.l2 (k : Nat) : Nat → Q2.l2.σ → Option Q2.l2.τ := Q0o (Q2.l2.r k)
def Q2.l2.T : StT := ⟨us 2 ++ .ptr 0 [] :: us 1 ++ .ptr 1 [] :: us 5 ++ .ptr 2 [] :: us 5 ++ .dat (.int .i64) :: us 172, [.dat Qgh, .dat Qgh, .dat Qgh]⟩
def Q2.l2.os : List Out := [⟨(.exit 4), [.mask [2, 4], .auto 0], ⟨us 2 ++ .ptr 0 [] :: us 1 ++ .ptr 1 [] :: us 184, [.dat Qgh, .dat Qgh]⟩⟩]
def Q2.c (k : Nat) {ρ : Type} (s : (List Int)) (block : (List Int)) (K : (List Int) × Unit → Option ρ) : Option ρ :=
 (Qr k ).bind fun t0 => let v1 : (List Int) := (List.replicate 64 (0 : Int))
 (Q2.l0 k k ((0 : Int), (s, (block, ((List.replicate 8 (0 : Int)), (t0.1, (v1, ()))))))).bind fun t38 => let v39 : (List Int) := t38.1
 (Q2.l1 k k ((0 : Int), (t38.1, (t38.2.1, (t38.2.2.1, (t38.2.2.2.1, (v39, ()))))))).bind fun t81 => (Q2.l2 k k ((0 : Int), (t81.1, (t81.2.1, (t81.2.2.1, ()))))).bind fun t86 => let v87 : (List Int) := t86.1
 K (v87, ())
def Q2 (k : Nat) (s : (List Int)) (block : (List Int)) : Option Qgj := Q2.c k s block some
def Q2.tin : List Ty := [Qgh, (.arr 64 (.int .u8))]
def Q2.tout : List Ty := [Qgh]
def Q2.sem (k : Nat) : QK := QR Q2.tin Q2.tout fun x => Q2 k x.1 x.2.1
noncomputable def Q2.ctx (k : Nat) : Ctx := ⟨Try.prog, gam [(126, (Qr.sem k)), (127, (Qq.sem k))]⟩
theorem Q2.gok (k : Nat) : ∀ f, Qz Try.prog f ((Q2.ctx k).Γ f) := (QA (Qr.sem_ok k) (QA (Qq.sem_ok k) Q03))
theorem Q2.l2.round (k : Nat) : Q0s (Q2.ctx k) (QZ (Func.code Try.f115) [1, 1, 1, 1, 1, 1, 0, 1, 0, 0]) (.nil) Q2.l2.T [.mask [2, 4, 10, 16], .auto 0] Q2.l2.os (Q2.l2.r k) := by
 intro ρ x kn ke; kernel_rfl
theorem Q2.l2.ok (k : Nat) : StOK 0 Try.prog (.loop (QZ (Func.code Try.f115) [1, 1, 1, 1, 1, 1, 0, 1, 0, 0])) (QE Q2.l2.T Q2.l2.os (Q2.l2 k k)) :=
 Q0u (C := Q2.ctx k) (Q2.gok k) Try.mix Q8.nil (by kernel_rfl) (by kernel_rfl) (by kernel_rfl) (Q2.l2.round k) k
theorem Q2.l1.round (k : Nat) : Q0s (Q2.ctx k) (QZ (Func.code Try.f115) [1, 1, 1, 1, 1, 0, 1, 0, 0]) (.nil) Q2.l1.T [.mask [2, 4, 5, 6, 10, 11], .auto 0] Q2.l1.os (Q2.l1.r k) := by
 intro ρ x kn ke; kernel_rfl
theorem Q2.l1.ok (k : Nat) : StOK 0 Try.prog (.loop (QZ (Func.code Try.f115) [1, 1, 1, 1, 1, 0, 1, 0, 0])) (QE Q2.l1.T Q2.l1.os (Q2.l1 k k)) :=
 Q0u (C := Q2.ctx k) (Q2.gok k) Try.mix Q8.nil (by kernel_rfl) (by kernel_rfl) (by kernel_rfl) (Q2.l1.round k) k
theorem Q2.l0.round (k : Nat) : Q0s (Q2.ctx k) (QZ (Func.code Try.f115) [1, 1, 1, 0, 1, 0, 0]) (.nil) Q2.l0.T [.mask [2, 3, 4, 5, 6, 7], .auto 0] Q2.l0.os (Q2.l0.r k) := by
 intro ρ x kn ke; kernel_rfl
theorem Q2.l0.ok (k : Nat) : StOK 0 Try.prog (.loop (QZ (Func.code Try.f115) [1, 1, 1, 0, 1, 0, 0])) (QE Q2.l0.T Q2.l0.os (Q2.l0 k k)) :=
 Q0u (C := Q2.ctx k) (Q2.gok k) Try.mix Q8.nil (by kernel_rfl) (by kernel_rfl) (by kernel_rfl) (Q2.l0.round k) k
def Q2.ann (k : Nat) : Ann := .node [] none (.nil) (.node [] none (.nil) (.node [] none (.nil) (.node [] none (.node [] none (.nil) (.node [] none (.node [.mask [2, 3, 4, 5, 6, 7], .auto 0] (some (QE Q2.l0.T Q2.l0.os (Q2.l0 k k))) .nil .nil) (.nil))) (.node [] none (.nil) (.node [] none (.node [] none (.nil) (.node [] none (.node [.mask [2, 4, 5, 6, 10, 11], .auto 0] (some (QE Q2.l1.T Q2.l1.os (Q2.l1 k k))) .nil .nil) (.nil))) (.node [] none (.node [] none (.nil) (.node [] none (.node [.mask [2, 4, 10, 16], .auto 0] (some (QE Q2.l2.T Q2.l2.os (Q2.l2 k k))) .nil .nil) (.nil))) (.nil)))))))
theorem Q2.body (k : Nat) : Q0t (Q2.ctx k) Try.f115 (Func.code Try.f115) (Q2.ann k) Q2.tin Q2.tout (fun x K => Q2.c k x.1 x.2.1 K) := by
 intro ρ x K; kernel_rfl
theorem Q2.sem_ok (k : Nat) : Qz Try.prog 115 (Q2.sem k) :=
 QT (C := Q2.ctx k) (Q2.gok k) Try.mix (c := Func.code Try.f115) (ann := Q2.ann k) (tin := Q2.tin) (tout := Q2.tout) (fun x K => Q2.c k x.1 x.2.1 K) Try.func115 (by kernel_rfl) (by kernel_rfl) (Q8.seq Q8.nil (Q8.seq Q8.nil (Q8.seq Q8.nil (Q8.seq (Q8.seq Q8.nil (Q8.block (Q8.loop (by kernel_rfl) (Q2.l0.ok k)))) (Q8.seq Q8.nil (Q8.seq (Q8.seq Q8.nil (Q8.block (Q8.loop (by kernel_rfl) (Q2.l1.ok k)))) (Q8.seq (Q8.seq Q8.nil (Q8.block (Q8.loop (by kernel_rfl) (Q2.l2.ok k)))) Q8.nil))))))) (Q2.body k)
abbrev Q4.l1.σ : Type := Int × Int × (List Int) × (List Int) × (List Int) × Unit
abbrev Q4.l1.τ : Type := (Int × (List Int) × (List Int) × (List Int) × Unit)
def Q4.l1.r (k : Nat) {ρ : Type} (x : Q4.l1.σ) (kn : Q4.l1.σ → Option ρ) (ke : Q4.l1.τ → Option ρ) : Option ρ :=
 bif (decide (x.2.1 < (4 : Int))) then (let v1 : Int := (IntKind.wrap IntKind.i64 ((4 : Int) * x.1))
 let v2 : Int := (IntKind.wrap IntKind.i64 (v1 + x.2.1))
 bif (decide (((0 : Int) ≤ x.1) ∧ (x.1 < ((8 : Nat) : Int)))) then (let v3 : Int := (List.getD x.2.2.1 (Int.toNat x.1) (0 : Int))
 let v4 : Int := (IntKind.wrap IntKind.i64 ((8 : Int) * x.2.1))
 let v5 : Int := (IntKind.wrap IntKind.i64 ((24 : Int) - v4))
 bif (decide ((0 : Int) ≤ v5)) then (bif (decide (((0 : Int) ≤ v2) ∧ (v2 < ((32 : Nat) : Int)))) then (let v6 : Int := (IntKind.wrap IntKind.i64 (x.2.1 + (1 : Int)))
 kn (x.1, (v6, (x.2.2.1, (x.2.2.2.1, ((List.set x.2.2.2.2.1 (Int.toNat v2) (IntKind.wrap IntKind.u8 (Q10 IntKind.u32 v3 v5))), ())))))) else (none)) else (none)) else (none)) else (ke (x.1, (x.2.2.1, (x.2.2.2.1, (x.2.2.2.2.1, ())))))
def Q4.l1 (k : Nat) : Nat → Q4.l1.σ → Option Q4.l1.τ := Q0o (Q4.l1.r k)
def Q4.l1.T : StT := ⟨us 1 ++ .ptr 0 [] :: .ptr 1 [] :: .ptr 2 [] :: .dat (.int .i64) :: .dat (.int .i64) :: us 23, [.dat Qgh, .dat Qgi, .dat Qgi]⟩
def Q4.l1.os : List Out := [⟨(.exit 2), [.mask [1, 2, 3, 4], .auto 0], ⟨us 1 ++ .ptr 0 [] :: .ptr 1 [] :: .ptr 2 [] :: .dat (.int .i64) :: us 24, [.dat Qgh, .dat Qgi, .dat Qgi]⟩⟩]
abbrev Q4.l0.σ : Type := Int × (List Int) × (List Int) × (List Int) × Unit
abbrev Q4.l0.τ : Type := ((List Int) × (List Int) × Unit)
def Q4.l0.r (k : Nat) {ρ : Type} (x : Q4.l0.σ) (kn : Q4.l0.σ → Option ρ) (ke : Q4.l0.τ → Option ρ) : Option ρ :=
 bif (decide (x.1 < (8 : Int))) then ((Q4.l1 k k (x.1, ((0 : Int), (x.2.1, (x.2.2.1, (x.2.2.2.1, ())))))).bind fun t7 => let v8 : Int := (IntKind.wrap IntKind.i64 (t7.1 + (1 : Int)))
 kn (v8, (t7.2.1, (t7.2.2.1, (t7.2.2.2.1, ()))))) else (ke (x.2.2.1, (x.2.2.2.1, ())))
def Q4.l0 (k : Nat) : Nat → Q4.l0.σ → Option Q4.l0.τ := Q0o (Q4.l0.r k)
def Q4.l0.T : StT := ⟨us 1 ++ .ptr 0 [] :: .ptr 1 [] :: .ptr 2 [] :: .dat (.int .i64) :: us 24, [.dat Qgh, .dat Qgi, .dat Qgi]⟩
def Q4.l0.os : List Out := [⟨(.exit 0), [.mask [2, 3], .auto 0], ⟨us 2 ++ .ptr 0 [] :: .ptr 1 [] :: us 25, [.dat Qgi, .dat Qgi]⟩⟩]
def Q4.c (k : Nat) {ρ : Type} (x_0 : (List Int)) (K : (List Int) × Unit → Option ρ) : Option ρ :=
 let v0 : (List Int) := (List.replicate 32 (0 : Int))
 (Q4.l0 k k ((0 : Int), (x_0, ((List.replicate 32 (0 : Int)), (v0, ()))))).bind fun t9 => let v10 : (List Int) := t9.2.1
 K (v10, ())
def Q4 (k : Nat) (x_0 : (List Int)) : Option Qgj := Q4.c k x_0 some
def Q4.tin : List Ty := [Qgh]
def Q4.tout : List Ty := [Qgi]
def Q4.sem (k : Nat) : QK := QR Q4.tin Q4.tout fun x => Q4 k x.1
noncomputable def Q4.ctx (k : Nat) : Ctx := ⟨Try.prog, gam []⟩
theorem Q4.gok (k : Nat) : ∀ f, Qz Try.prog f ((Q4.ctx k).Γ f) := Q03
theorem Q4.l1.round (k : Nat) : Q0s (Q4.ctx k) (QZ (Func.code Try.f116) [1, 1, 0, 1, 0, 0, 1, 0, 0, 1, 0, 0]) (.nil) Q4.l1.T [.mask [1, 2, 3, 4, 5], .auto 0] Q4.l1.os (Q4.l1.r k) := by
 intro ρ x kn ke; kernel_rfl
theorem Q4.l1.ok (k : Nat) : StOK 0 Try.prog (.loop (QZ (Func.code Try.f116) [1, 1, 0, 1, 0, 0, 1, 0, 0, 1, 0, 0])) (QE Q4.l1.T Q4.l1.os (Q4.l1 k k)) :=
 Q0u (C := Q4.ctx k) (Q4.gok k) Try.mix Q8.nil (by kernel_rfl) (by kernel_rfl) (by kernel_rfl) (Q4.l1.round k) k
theorem Q4.l0.round (k : Nat) : Q0s (Q4.ctx k) (QZ (Func.code Try.f116) [1, 1, 0, 1, 0, 0]) (.node [] none (.nil) (.node [] none (.node [] none (.node [] none (.nil) (.node [] none (.node [.mask [1, 2, 3, 4, 5], .auto 0] (some (QE Q4.l1.T Q4.l1.os (Q4.l1 k k))) .nil .nil) (.nil))) (.nil)) (.nil))) Q4.l0.T [.mask [1, 2, 3, 4], .auto 0] Q4.l0.os (Q4.l0.r k) := by
 intro ρ x kn ke; kernel_rfl
theorem Q4.l0.ok (k : Nat) : StOK 0 Try.prog (.loop (QZ (Func.code Try.f116) [1, 1, 0, 1, 0, 0])) (QE Q4.l0.T Q4.l0.os (Q4.l0 k k)) :=
 Q0u (C := Q4.ctx k) (Q4.gok k) Try.mix (Q8.seq Q8.nil (Q8.seq (Q8.block (Q8.seq Q8.nil (Q8.block (Q8.loop (by kernel_rfl) (Q4.l1.ok k))))) Q8.nil)) (by kernel_rfl) (by kernel_rfl) (by kernel_rfl) (Q4.l0.round k) k
def Q4.ann (k : Nat) : Ann := .node [] none (.nil) (.node [] none (.nil) (.node [] none (.node [] none (.nil) (.node [] none (.node [.mask [1, 2, 3, 4], .auto 0] (some (QE Q4.l0.T Q4.l0.os (Q4.l0 k k))) .nil .nil) (.nil))) (.nil)))
theorem Q4.body (k : Nat) : Q0t (Q4.ctx k) Try.f116 (Func.code Try.f116) (Q4.ann k) Q4.tin Q4.tout (fun x K => Q4.c k x.1 K) := by
 intro ρ x K; kernel_rfl
theorem Q4.sem_ok (k : Nat) : Qz Try.prog 116 (Q4.sem k) :=
 QT (C := Q4.ctx k) (Q4.gok k) Try.mix (c := Func.code Try.f116) (ann := Q4.ann k) (tin := Q4.tin) (tout := Q4.tout) (fun x K => Q4.c k x.1 K) Try.func116 (by kernel_rfl) (by kernel_rfl) (Q8.seq Q8.nil (Q8.seq Q8.nil (Q8.seq (Q8.seq Q8.nil (Q8.block (Q8.loop (by kernel_rfl) (Q4.l0.ok k)))) Q8.nil))) (Q4.body k)
abbrev Q7.l1.σ : Type := ByteArray × Int × Int × (List Int) × (List Int) × (List Int) × Unit
abbrev Q7.l1.τ : Type := (ByteArray × Int × (List Int) × (List Int) × (List Int) × Unit)
def Q7.l1.r (k : Nat) {ρ : Type} (x : Q7.l1.σ) (kn : Q7.l1.σ → Option ρ) (ke : Q7.l1.τ → Option ρ) : Option ρ :=
 bif (decide (x.2.2.1 < (64 : Int))) then (let v5 : Int := (IntKind.wrap IntKind.i64 (x.2.1 + x.2.2.1))
 bif (decide (((0 : Int) ≤ v5) ∧ (v5 < (((ByteArray.size x.1) : Nat) : Int)))) then (let v6 : Int := (Q0C x.1 (Int.toNat v5))
 bif (decide (((0 : Int) ≤ x.2.2.1) ∧ (x.2.2.1 < ((64 : Nat) : Int)))) then (let v7 : Int := (IntKind.wrap IntKind.i64 (x.2.2.1 + (1 : Int)))
 kn (x.1, (x.2.1, (v7, (x.2.2.2.1, (x.2.2.2.2.1, ((List.set x.2.2.2.2.2.1 (Int.toNat x.2.2.1) v6), ()))))))) else (none)) else (none)) else (ke (x.1, (x.2.1, (x.2.2.2.1, (x.2.2.2.2.1, (x.2.2.2.2.2.1, ()))))))
def Q7.l1 (k : Nat) : Nat → Q7.l1.σ → Option Q7.l1.τ := Q0o (Q7.l1.r k)
def Q7.l1.T : StT := ⟨.dat .str :: us 1 ++ .ptr 0 [] :: .ptr 1 [] :: .dat (.int .i64) :: .ptr 2 [] :: .dat (.int .i64) :: us 30, [.dat Qgi, .dat Qgh, .dat (.arr 64 (.int .u8))]⟩
def Q7.l1.os : List Out := [⟨(.exit 2), [.mask [0, 2, 3, 4, 5], .auto 0], ⟨.dat .str :: us 1 ++ .ptr 0 [] :: .ptr 1 [] :: .dat (.int .i64) :: .ptr 2 [] :: us 31, [.dat Qgi, .dat Qgh, .dat (.arr 64 (.int .u8))]⟩⟩]
abbrev Q7.l0.σ : Type := ByteArray × Int × (List Int) × (List Int) × Unit
abbrev Q7.l0.τ : Type := ((List Int) × (List Int) × Unit)
def Q7.l0.r (k : Nat) {ρ : Type} (x : Q7.l0.σ) (kn : Q7.l0.σ → Option ρ) (ke : Q7.l0.τ → Option ρ) : Option ρ :=
 let v3 : Int := (((ByteArray.size x.1) : Nat) : Int)
 bif (decide (x.2.1 < v3)) then (let v4 : (List Int) := (List.replicate 64 (0 : Int))
 (Q7.l1 k k (x.1, (x.2.1, ((0 : Int), (x.2.2.1, (x.2.2.2.1, (v4, ()))))))).bind fun t8 => let v9 : (List Int) := t8.2.2.2.1
 let v10 : (List Int) := t8.2.2.2.2.1
 (Q2 k v9 v10).bind fun t11 => let v12 : Int := (IntKind.wrap IntKind.i64 (t8.2.1 + (64 : Int)))
 kn (t8.1, (v12, (t8.2.2.1, (t11.1, ()))))) else (ke (x.2.2.1, (x.2.2.2.1, ())))
def Q7.l0 (k : Nat) : Nat → Q7.l0.σ → Option Q7.l0.τ := Q0o (Q7.l0.r k)
def Q7.l0.T : StT := ⟨.dat .str :: us 1 ++ .ptr 0 [] :: .ptr 1 [] :: .dat (.int .i64) :: us 32, [.dat Qgi, .dat Qgh]⟩
def Q7.l0.os : List Out := [⟨(.exit 0), [.mask [2, 3], .auto 0], ⟨us 2 ++ .ptr 0 [] :: .ptr 1 [] :: us 33, [.dat Qgi, .dat Qgh]⟩⟩]
def Q7.c (k : Nat) {ρ : Type} (s : ByteArray) (K : (List Int) × Unit → Option ρ) : Option ρ :=
 (Q6 k (IntKind.wrap IntKind.u64 (((ByteArray.size s) : Nat) : Int))).bind fun t0 => bif (Nat.ble ((ByteArray.size s) + (ByteArray.size t0.1)) 9223372036854775807) then (let v1 : ByteArray := (s ++ t0.1)
 (QB k ).bind fun t2 => (Q7.l0 k k (v1, ((0 : Int), ((List.replicate 32 (0 : Int)), (t2.1, ()))))).bind fun t13 => let v14 : (List Int) := t13.2.1
 (Q4 k v14).bind fun t15 => K (t15.1, ())) else (none)
def Q7 (k : Nat) (s : ByteArray) : Option Qgj := Q7.c k s some
def Q7.tin : List Ty := [.str]
def Q7.tout : List Ty := [Qgi]
def Q7.sem (k : Nat) : QK := QR Q7.tin Q7.tout fun x => Q7 k x.1
noncomputable def Q7.ctx (k : Nat) : Ctx := ⟨Try.prog, gam [(113, (Q6.sem k)), (114, (QB.sem k)), (115, (Q2.sem k)), (116, (Q4.sem k))]⟩
theorem Q7.gok (k : Nat) : ∀ f, Qz Try.prog f ((Q7.ctx k).Γ f) := (QA (Q6.sem_ok k) (QA (QB.sem_ok k) (QA (Q2.sem_ok k) (QA (Q4.sem_ok k) Q03))))
theorem Q7.l1.round (k : Nat) : Q0s (Q7.ctx k) (QZ (Func.code Try.f94) [1, 1, 1, 0, 1, 0, 0, 1, 0, 0, 1, 0, 1, 0, 0]) (.nil) Q7.l1.T [.mask [0, 2, 3, 4, 5, 6], .auto 0] Q7.l1.os (Q7.l1.r k) := by
 intro ρ x kn ke; kernel_rfl
theorem Q7.l1.ok (k : Nat) : StOK 0 Try.prog (.loop (QZ (Func.code Try.f94) [1, 1, 1, 0, 1, 0, 0, 1, 0, 0, 1, 0, 1, 0, 0])) (QE Q7.l1.T Q7.l1.os (Q7.l1 k k)) :=
 Q0u (C := Q7.ctx k) (Q7.gok k) Try.mix Q8.nil (by kernel_rfl) (by kernel_rfl) (by kernel_rfl) (Q7.l1.round k) k
theorem Q7.l0.round (k : Nat) : Q0s (Q7.ctx k) (QZ (Func.code Try.f94) [1, 1, 1, 0, 1, 0, 0]) (.node [] none (.nil) (.node [] none (.node [] none (.node [] none (.nil) (.node [] none (.node [] none (.nil) (.node [] none (.node [.mask [0, 2, 3, 4, 5, 6], .auto 0] (some (QE Q7.l1.T Q7.l1.os (Q7.l1 k k))) .nil .nil) (.nil))) (.nil))) (.nil)) (.nil))) Q7.l0.T [.mask [0, 2, 3, 4], .auto 0] Q7.l0.os (Q7.l0.r k) := by
 intro ρ x kn ke; kernel_rfl
theorem Q7.l0.ok (k : Nat) : StOK 0 Try.prog (.loop (QZ (Func.code Try.f94) [1, 1, 1, 0, 1, 0, 0])) (QE Q7.l0.T Q7.l0.os (Q7.l0 k k)) :=
 Q0u (C := Q7.ctx k) (Q7.gok k) Try.mix (Q8.seq Q8.nil (Q8.seq (Q8.block (Q8.seq Q8.nil (Q8.seq (Q8.seq Q8.nil (Q8.block (Q8.loop (by kernel_rfl) (Q7.l1.ok k)))) Q8.nil))) Q8.nil)) (by kernel_rfl) (by kernel_rfl) (by kernel_rfl) (Q7.l0.round k) k
def Q7.ann (k : Nat) : Ann := .node [] none (.nil) (.node [] none (.nil) (.node [] none (.nil) (.node [] none (.node [] none (.nil) (.node [] none (.node [.mask [0, 2, 3, 4], .auto 0] (some (QE Q7.l0.T Q7.l0.os (Q7.l0 k k))) .nil .nil) (.nil))) (.nil))))
theorem Q7.body (k : Nat) : Q0t (Q7.ctx k) Try.f94 (Func.code Try.f94) (Q7.ann k) Q7.tin Q7.tout (fun x K => Q7.c k x.1 K) := by
 intro ρ x K; kernel_rfl
theorem Q7.sem_ok (k : Nat) : Qz Try.prog 94 (Q7.sem k) :=
 QT (C := Q7.ctx k) (Q7.gok k) Try.mix (c := Func.code Try.f94) (ann := Q7.ann k) (tin := Q7.tin) (tout := Q7.tout) (fun x K => Q7.c k x.1 K) Try.func94 (by kernel_rfl) (by kernel_rfl) (Q8.seq Q8.nil (Q8.seq Q8.nil (Q8.seq Q8.nil (Q8.seq (Q8.seq Q8.nil (Q8.block (Q8.loop (by kernel_rfl) (Q7.l0.ok k)))) Q8.nil)))) (Q7.body k)
def QC.c (k : Nat) {ρ : Type} (header : ByteArray) (nonce : Int) (K : Int × Int × Unit → Option ρ) : Option ρ :=
 (Qd k nonce (8 : Int)).bind fun t0 => bif (Nat.ble ((ByteArray.size header) + (ByteArray.size t0.1)) 9223372036854775807) then (let v1 : ByteArray := (header ++ t0.1)
 (Q7 k v1).bind fun t2 => let v3 : ByteArray := (bytesOf (List.take 8 (List.drop 0 t2.1)))
 (Qb k v3).bind fun t4 => let v5 : ByteArray := (bytesOf (List.take 8 (List.drop 8 t2.1)))
 (Qb k v5).bind fun t6 => K (t4.1, (t6.1, ()))) else (none)
def QC (k : Nat) (header : ByteArray) (nonce : Int) : Option (Int × Int × Unit) := QC.c k header nonce some
def QC.tin : List Ty := [.str, (.int .u64)]
def QC.tout : List Ty := [(.int .u64), (.int .u64)]
def QC.sem (k : Nat) : QK := QR QC.tin QC.tout fun x => QC k x.1 x.2.1
noncomputable def QC.ctx (k : Nat) : Ctx := ⟨Try.prog, gam [(60, (Qd.sem k)), (94, (Q7.sem k)), (61, (Qb.sem k))]⟩
theorem QC.gok (k : Nat) : ∀ f, Qz Try.prog f ((QC.ctx k).Γ f) := (QA (Qd.sem_ok k) (QA (Q7.sem_ok k) (QA (Qb.sem_ok k) Q03)))
def QC.ann (k : Nat) : Ann := .nil
theorem QC.body (k : Nat) : Q0t (QC.ctx k) Try.f56 (Func.code Try.f56) (QC.ann k) QC.tin QC.tout (fun x K => QC.c k x.1 x.2.1 K) := by
 intro ρ x K; kernel_rfl
theorem QC.sem_ok (k : Nat) : Qz Try.prog 56 (QC.sem k) :=
 QT (C := QC.ctx k) (QC.gok k) Try.mix (c := Func.code Try.f56) (ann := QC.ann k) (tin := QC.tin) (tout := QC.tout) (fun x K => QC.c k x.1 x.2.1 K) Try.func56 (by kernel_rfl) (by kernel_rfl) Q8.nil (QC.body k)
def Q00.c (k : Nat) {ρ : Type} (k_0 : Qgg) (id : (List Int)) (K : Int × Unit → Option ρ) : Option ρ :=
 let v0 : ByteArray := (bytesOf (List.take 32 (List.drop 0 id)))
 (Q06 k (k_0.1, (k_0.2.1, ())) v0).bind fun t1 => let v2 : Int := (Qw BinOp.and IntKind.u64 t1.1 (281474976710655 : Int))
 K (v2, ())
def Q00 (k : Nat) (k_0 : Qgg) (id : (List Int)) : Option (Int × Unit) := Q00.c k k_0 id some
def Q00.tin : List Ty := [Qgd, Qgi]
def Q00.tout : List Ty := [(.int .u64)]
def Q00.sem (k : Nat) : QK := QR Q00.tin Q00.tout fun x => Q00 k x.1 x.2.1
noncomputable def Q00.ctx (k : Nat) : Ctx := ⟨Try.prog, gam [(15, (Q06.sem k))]⟩
theorem Q00.gok (k : Nat) : ∀ f, Qz Try.prog f ((Q00.ctx k).Γ f) := (QA (Q06.sem_ok k) Q03)
def Q00.ann (k : Nat) : Ann := .nil
theorem Q00.body (k : Nat) : Q0t (Q00.ctx k) Try.f57 (Func.code Try.f57) (Q00.ann k) Q00.tin Q00.tout (fun x K => Q00.c k x.1 x.2.1 K) := by
 intro ρ x K; kernel_rfl
theorem Q00.sem_ok (k : Nat) : Qz Try.prog 57 (Q00.sem k) :=
 QT (C := Q00.ctx k) (Q00.gok k) Try.mix (c := Func.code Try.f57) (ann := Q00.ann k) (tin := Q00.tin) (tout := Q00.tout) (fun x K => Q00.c k x.1 x.2.1 K) Try.func57 (by kernel_rfl) (by kernel_rfl) Q8.nil (Q00.body k)
def QI.c (k : Nat) {ρ : Type} (short : Int) (K : ByteArray × Int × Unit → Option ρ) : Option ρ :=
 bif (decide (short > (281474976710655 : Int))) then (K ((⟨(List.toArray [])⟩ : ByteArray), ((30 : Int), ()))) else ((QN k ).bind fun t0 => (QH k short (((), ((), ())), ()) t0.2.1).bind fun t1 => (Qx k (((), ((), ())), ()) t1.2.1).bind fun t2 => bif (decide (((0 : Int) ≤ (0 : Int)) ∧ (((0 : Int) ≤ (6 : Int)) ∧ ((6 : Int) ≤ (((ByteArray.size t2.1) : Nat) : Int))))) then (K ((ByteArray.extract t2.1 0 6), ((0 : Int), ()))) else (none))
def QI (k : Nat) (short : Int) : Option (ByteArray × Int × Unit) := QI.c k short some
def QI.tin : List Ty := [(.int .u64)]
def QI.tout : List Ty := [.str, (.int .i64)]
def QI.sem (k : Nat) : QK := QR QI.tin QI.tout fun x => QI k x.1
noncomputable def QI.ctx (k : Nat) : Ctx := ⟨Try.prog, gam [(76, (QN.sem k)), (81, (QH.sem k)), (82, (Qx.sem k))]⟩
theorem QI.gok (k : Nat) : ∀ f, Qz Try.prog f ((QI.ctx k).Γ f) := (QA (QN.sem_ok k) (QA (QH.sem_ok k) (QA (Qx.sem_ok k) Q03)))
def QI.ann (k : Nat) : Ann := .nil
theorem QI.body (k : Nat) : Q0t (QI.ctx k) Try.f58 (Func.code Try.f58) (QI.ann k) QI.tin QI.tout (fun x K => QI.c k x.1 K) := by
 intro ρ x K; kernel_rfl
theorem QI.sem_ok (k : Nat) : Qz Try.prog 58 (QI.sem k) :=
 QT (C := QI.ctx k) (QI.gok k) Try.mix (c := Func.code Try.f58) (ann := QI.ann k) (tin := QI.tin) (tout := QI.tout) (fun x K => QI.c k x.1 K) Try.func58 (by kernel_rfl) (by kernel_rfl) Q8.nil (QI.body k)
abbrev Qm.p0.σ : Type := ByteArray × Int × Unit
abbrev Qm.p0.τ : Type := (Int × Int × Unit) ⊕ (ByteArray × Int × Unit)
def Qm.p0.r (k : Nat) {ρ : Type} (x : Qm.p0.σ) (K : Qm.p0.τ → Option ρ) : Option ρ :=
 bif (decide (x.2.1 < (0 : Int))) then (K (.inl ((0 : Int), ((1 : Int), ())))) else (let v0 : Int := (((ByteArray.size x.1) : Nat) : Int)
 bif (decide (x.2.1 > v0)) then (K (.inl ((0 : Int), ((1 : Int), ())))) else (K (.inr (x.1, (x.2.1, ())))))
def Qm.p0 (k : Nat) (x : Qm.p0.σ) : Option Qm.p0.τ := Qm.p0.r k x some
def Qm.p0.T : StT := ⟨.dat .str :: .dat (.int .i64) :: us 29, []⟩
def Qm.p0.os : List Out := [⟨.ret, [.mask [4, 5], .auto 0], ⟨us 4 ++ .dat (.int .u64) :: .dat (.int .i64) :: us 25, []⟩⟩, ⟨.normal, [.mask [0, 1], .auto 0], ⟨.dat .str :: .dat (.int .i64) :: us 29, []⟩⟩]
def Qm.c (k : Nat) {ρ : Type} (s : ByteArray) (at_1 : Int) (K : Int × Int × Unit → Option ρ) : Option ρ :=
  (Qm.p0 k (s, (at_1, ()))).bind fun t1 => (match t1 with
 | .inl t2 => (K (t2.1, (t2.2.1, ())))
 | .inr (t3) => (bif (decide (((0 : Int) ≤ t3.2.1) ∧ ((t3.2.1 ≤ (((ByteArray.size t3.1) : Nat) : Int)) ∧ ((((ByteArray.size t3.1) : Nat) : Int) ≤ (((ByteArray.size t3.1) : Nat) : Int))))) then (let v4 : ByteArray := (ByteArray.extract t3.1 (Int.toNat t3.2.1) (Int.toNat (((ByteArray.size t3.1) : Nat) : Int)))
  (QD k v4).bind fun t5 => (Qu k (6 : Int) (t5.1.1, (t5.1.2.1, (t5.1.2.2.1, ())))).bind fun t6 => (QG k (t6.2.1.1, (t6.2.1.2.1, (t6.2.1.2.2.1, ())))).bind fun t7 => bif (t7.1 != (0 : Int)) then ((QG k (t7.2.1.1, (t7.2.1.2.1, (t7.2.1.2.2.1, ())))).bind fun t8 => K ((0 : Int), (t8.1, ()))) else (bif (Nat.ble ((ByteArray.size t6.1) + 2) 9223372036854775807) then (let v9 : ByteArray := (t6.1 ++ (⟨(List.toArray [0, 0])⟩ : ByteArray))
  (QD k v9).bind fun t10 => (Qv k (t10.1.1, (t10.1.2.1, (t10.1.2.2.1, ())))).bind fun t11 => K (t11.1, ((0 : Int), ()))) else (none))) else (none)))
def Qm (k : Nat) (s : ByteArray) (at_1 : Int) : Option (Int × Int × Unit) := Qm.c k s at_1 some
def Qm.tin : List Ty := [.str, (.int .i64)]
def Qm.tout : List Ty := [(.int .u64), (.int .i64)]
def Qm.sem (k : Nat) : QK := QR Qm.tin Qm.tout fun x => Qm k x.1 x.2.1
noncomputable def Qm.ctx (k : Nat) : Ctx := ⟨Try.prog, gam [(68, (QD.sem k)), (97, (Qu.sem k)), (98, (QG.sem k)), (69, (Qv.sem k))]⟩
theorem Qm.gok (k : Nat) : ∀ f, Qz Try.prog f ((Qm.ctx k).Γ f) := (QA (QD.sem_ok k) (QA (Qu.sem_ok k) (QA (QG.sem_ok k) (QA (Qv.sem_ok k) Q03))))
theorem Qm.p0.is (k : Nat) : Q2B (Qm.ctx k) (QZ (Func.code Try.f59) [1, 0]) (.nil) Qm.p0.T Qm.p0.os (Qm.p0.r k) := by
 intro ρ x K; kernel_rfl
theorem Qm.p0.ok (k : Nat) : StOK 0 Try.prog (QZ (Func.code Try.f59) [1, 0]) (QE Qm.p0.T Qm.p0.os (Qm.p0 k)) :=
 Q2r (C := Qm.ctx k) (T := Qm.p0.T) (os := Qm.p0.os) (Qm.gok k) Try.mix (fun x K => Qm.p0.r k x K) Q8.nil (by kernel_rfl) (by kernel_rfl) (Qm.p0.is k)
def Qm.ann (k : Nat) : Ann := .node [] none (.nil) (.node [] none (.node [] (some (QE Qm.p0.T Qm.p0.os (Qm.p0 k))) .nil .nil) (.nil))
theorem Qm.body (k : Nat) : Q0t (Qm.ctx k) Try.f59 (Func.code Try.f59) (Qm.ann k) Qm.tin Qm.tout (fun x K => Qm.c k x.1 x.2.1 K) := by
 intro ρ x K; kernel_rfl
theorem Qm.sem_ok (k : Nat) : Qz Try.prog 59 (Qm.sem k) :=
 QT (C := Qm.ctx k) (Qm.gok k) Try.mix (c := Func.code Try.f59) (ann := Qm.ann k) (tin := Qm.tin) (tout := Qm.tout) (fun x K => Qm.c k x.1 x.2.1 K) Try.func59 (by kernel_rfl) (by kernel_rfl) (Q8.seq Q8.nil (Q8.seq (Q8.loop (by kernel_rfl) (Qm.p0.ok k)) Q8.nil)) (Qm.body k)
def Ql.c (k : Nat) {ρ : Type} (k0 : Int) (k1 : Int) (id : (List Int)) (K : Int × Unit → Option ρ) : Option ρ :=
 let v0 : ByteArray := (bytesOf (List.take 32 (List.drop 0 id)))
 (Q5 k k0 k1 v0).bind fun t1 => let v2 : Int := (Int.tmod t1.1 (281474976710656 : Int))
 K (v2, ())
def Ql (k : Nat) (k0 : Int) (k1 : Int) (id : (List Int)) : Option (Int × Unit) := Ql.c k k0 k1 id some
def Ql.tin : List Ty := [(.int .u64), (.int .u64), Qgi]
def Ql.tout : List Ty := [(.int .u64)]
def Ql.sem (k : Nat) : QK := QR Ql.tin Ql.tout fun x => Ql k x.1 x.2.1 x.2.2.1
noncomputable def Ql.ctx (k : Nat) : Ctx := ⟨Try.prog, gam [(16, (Q5.sem k))]⟩
theorem Ql.gok (k : Nat) : ∀ f, Qz Try.prog f ((Ql.ctx k).Γ f) := (QA (Q5.sem_ok k) Q03)
def Ql.ann (k : Nat) : Ann := .nil
theorem Ql.body (k : Nat) : Q0t (Ql.ctx k) Try.f31 (Func.code Try.f31) (Ql.ann k) Ql.tin Ql.tout (fun x K => Ql.c k x.1 x.2.1 x.2.2.1 K) := by
 intro ρ x K; kernel_rfl
theorem Ql.sem_ok (k : Nat) : Qz Try.prog 31 (Ql.sem k) :=
 QT (C := Ql.ctx k) (Ql.gok k) Try.mix (c := Func.code Try.f31) (ann := Ql.ann k) (tin := Ql.tin) (tout := Ql.tout) (fun x K => Ql.c k x.1 x.2.1 x.2.2.1 K) Try.func31 (by kernel_rfl) (by kernel_rfl) Q8.nil (Ql.body k)
abbrev Q1.p0.σ : Type := ByteArray × Int × ByteArray × Int × Int × (List Int) × Qgg × Unit
abbrev Q1.p0.τ : Type := (Bool × Unit) ⊕ (ByteArray × Int × ByteArray × Int × Int × (List Int) × Qgg × Unit)
def Q1.p0.r (k : Nat) {ρ : Type} (x : Q1.p0.σ) (K : Q1.p0.τ → Option ρ) : Option ρ :=
 (Qp k ).bind fun t7 => bif (!t7.1) then (K (.inl (false, ()))) else (let v8 : Int := (((ByteArray.size x.1) : Nat) : Int)
 bif (!((x.2.2.2.2.1 == (0 : Int)) == (v8 == (80 : Int)))) then (K (.inl (false, ()))) else (bif (x.2.2.2.2.1 != (0 : Int)) then (bif (x.2.2.2.2.1 != (1 : Int)) then (K (.inl (false, ()))) else (bif (!((x.2.2.2.2.2.2.1.1 == (0 : Int)) && ((x.2.2.2.2.2.2.1.2.1 == (0 : Int)) && true))) then (K (.inl (false, ()))) else (K (.inr (x.1, (x.2.1, (x.2.2.1, (x.2.2.2.1, (x.2.2.2.2.1, (x.2.2.2.2.2.1, ((x.2.2.2.2.2.2.1.1, (x.2.2.2.2.2.2.1.2.1, ())), ()))))))))))) else (K (.inr (x.1, (x.2.1, (x.2.2.1, (x.2.2.2.1, (x.2.2.2.2.1, (x.2.2.2.2.2.1, ((x.2.2.2.2.2.2.1.1, (x.2.2.2.2.2.2.1.2.1, ())), ())))))))))))
def Q1.p0 (k : Nat) (x : Q1.p0.σ) : Option Q1.p0.τ := Q1.p0.r k x some
def Q1.p0.T : StT := ⟨us 3 ++ .dat .str :: .dat (.int .u64) :: .ptr 0 [] :: .dat .str :: .dat (.int .i64) :: .ptr 1 [] :: .dat (.int .i64) :: us 171, [.dat Qgi, .dat Qgd]⟩
def Q1.p0.os : List Out := [⟨.ret, [.mask [2], .auto 0], ⟨us 2 ++ .dat .bool :: us 178, []⟩⟩, ⟨.normal, [.mask [3, 4, 5, 6, 7, 8, 9], .auto 0], ⟨us 3 ++ .dat .str :: .dat (.int .u64) :: .ptr 0 [] :: .dat .str :: .dat (.int .i64) :: .ptr 1 [] :: .dat (.int .i64) :: us 171, [.dat Qgi, .dat Qgd]⟩⟩]
abbrev Q1.p1.σ : Type := ByteArray × Int × ByteArray × Int × Int × (List Int) × Qgg × Unit
abbrev Q1.p1.τ : Type := (Bool × Unit) ⊕ (Int × ByteArray × Int × (List Int) × Qgg × Unit)
def Q1.p1.r (k : Nat) {ρ : Type} (x : Q1.p1.σ) (K : Q1.p1.τ → Option ρ) : Option ρ :=
 bif (x.2.2.2.2.1 == (0 : Int)) then ((QC k x.1 x.2.1).bind fun t12 => let v13 : Int := t12.1
 let v14 : Int := t12.2.1
 let v15 : Int := x.2.2.2.2.2.2.1.1
 bif (v15 != v13) then (K (.inl (false, ()))) else (let v16 : Int := x.2.2.2.2.2.2.1.2.1
 bif (v16 != v14) then (K (.inl (false, ()))) else (K (.inr (x.2.1, (x.2.2.1, (x.2.2.2.1, (x.2.2.2.2.2.1, ((x.2.2.2.2.2.2.1.1, (x.2.2.2.2.2.2.1.2.1, ())), ()))))))))) else (K (.inr (x.2.1, (x.2.2.1, (x.2.2.2.1, (x.2.2.2.2.2.1, ((x.2.2.2.2.2.2.1.1, (x.2.2.2.2.2.2.1.2.1, ())), ())))))))
def Q1.p1 (k : Nat) (x : Q1.p1.σ) : Option Q1.p1.τ := Q1.p1.r k x some
def Q1.p1.T : StT := ⟨us 3 ++ .dat .str :: .dat (.int .u64) :: .ptr 0 [] :: .dat .str :: .dat (.int .i64) :: .ptr 1 [] :: .dat (.int .i64) :: us 171, [.dat Qgi, .dat Qgd]⟩
def Q1.p1.os : List Out := [⟨.ret, [.mask [2], .auto 0], ⟨us 2 ++ .dat .bool :: us 178, []⟩⟩, ⟨.normal, [.mask [4, 5, 6, 7, 8], .auto 0], ⟨us 4 ++ .dat (.int .u64) :: .ptr 0 [] :: .dat .str :: .dat (.int .i64) :: .ptr 1 [] :: us 172, [.dat Qgi, .dat Qgd]⟩⟩]
abbrev Q1.p2.σ : Type := Int × ByteArray × Int × Int × ByteArray × Int × Int × Int × Int × (List Int) × Qgg × Unit
abbrev Q1.p2.τ : Type := (Bool × Unit) ⊕ (ByteArray × Int × Unit)
def Q1.p2.r (k : Nat) {ρ : Type} (x : Q1.p2.σ) (K : Q1.p2.τ → Option ρ) : Option ρ :=
 let v31 : Int := x.2.2.2.2.2.2.2.2.2.2.1.1
 let v32 : Int := x.2.2.2.2.2.2.2.2.2.2.1.2.1
 let v33 : (List Int) := x.2.2.2.2.2.2.2.2.2.1
 (Ql k v31 v32 v33).bind fun t34 => bif (x.2.2.2.1 != t34.1) then (K (.inl (false, ()))) else (bif (x.2.2.2.2.2.1 != (0 : Int)) then (K (.inl (false, ()))) else ((Qd k x.2.2.2.1 (6 : Int)).bind fun t35 => bif (!(Q26 x.2.2.2.2.1 t35.1)) then (K (.inl (false, ()))) else (bif (x.2.2.2.2.2.2.1 != x.2.2.2.1) then (K (.inl (false, ()))) else (bif (x.2.2.2.2.2.2.2.1 != (0 : Int)) then (K (.inl (false, ()))) else (bif (!((x.2.2.2.2.2.2.2.2.1 == (0 : Int)) == (decide (x.1 < (281474976710656 : Int))))) then (K (.inl (false, ()))) else (bif (x.2.2.2.2.2.2.2.2.1 != (0 : Int)) then (bif (x.2.2.2.2.2.2.2.2.1 != (30 : Int)) then (K (.inl (false, ()))) else (K (.inr (x.2.1, (x.2.2.1, ()))))) else (K (.inr (x.2.1, (x.2.2.1, ()))))))))))
def Q1.p2 (k : Nat) (x : Q1.p2.σ) : Option Q1.p2.τ := Q1.p2.r k x some
def Q1.p2.T : StT := ⟨us 4 ++ .dat (.int .u64) :: .ptr 0 [] :: .dat .str :: .dat (.int .i64) :: .ptr 1 [] :: us 3 ++ .dat (.int .u64) :: .dat .str :: .dat (.int .i64) :: .dat (.int .u64) :: .dat (.int .i64) :: us 1 ++ .dat (.int .i64) :: us 162, [.dat Qgi, .dat Qgd]⟩
def Q1.p2.os : List Out := [⟨.ret, [.mask [2], .auto 0], ⟨us 2 ++ .dat .bool :: us 178, []⟩⟩, ⟨.normal, [.mask [6, 7], .auto 0], ⟨us 6 ++ .dat .str :: .dat (.int .i64) :: us 173, []⟩⟩]
abbrev Q1.p3.σ : Type := ByteArray × Int × Int × Int × Unit
abbrev Q1.p3.τ : Type := (Bool × Unit) ⊕ (ByteArray × Int × Int × Int × Unit)
def Q1.p3.r (k : Nat) {ρ : Type} (x : Q1.p3.σ) (K : Q1.p3.τ → Option ρ) : Option ρ :=
 bif (decide (x.2.1 < (0 : Int))) then (bif (x.2.2.1 == (0 : Int)) then (K (.inl ((x.2.2.2.1 == (1 : Int)), ()))) else (K (.inl (false, ())))) else (let v42 : Int := (((ByteArray.size x.1) : Nat) : Int)
 bif (decide (x.2.1 > v42)) then (bif (x.2.2.1 == (0 : Int)) then (K (.inl ((x.2.2.2.1 == (1 : Int)), ()))) else (K (.inl (false, ())))) else (K (.inr (x.1, (x.2.1, (x.2.2.1, (x.2.2.2.1, ())))))))
def Q1.p3 (k : Nat) (x : Q1.p3.σ) : Option Q1.p3.τ := Q1.p3.r k x some
def Q1.p3.T : StT := ⟨us 6 ++ .dat .str :: .dat (.int .i64) :: us 11 ++ .dat (.int .u64) :: .dat (.int .i64) :: us 160, []⟩
def Q1.p3.os : List Out := [⟨.ret, [.mask [2], .auto 0], ⟨us 2 ++ .dat .bool :: us 178, []⟩⟩, ⟨.normal, [.mask [6, 7, 19, 20], .auto 0], ⟨us 6 ++ .dat .str :: .dat (.int .i64) :: us 11 ++ .dat (.int .u64) :: .dat (.int .i64) :: us 160, []⟩⟩]
def Q1.c (k : Nat) {ρ : Type} (d : (ByteArray × (Int × ((List Int) × (ByteArray × (Int × Unit)))))) (K : Bool × Unit → Option ρ) : Option ρ :=
  let v0 : ByteArray := d.1
  let v1 : Int := d.2.1
  let v2 : (List Int) := d.2.2.1
  let v3 : ByteArray := d.2.2.2.1
  let v4 : Int := d.2.2.2.2.1
  (Q0b k v0 v1).bind fun t5 => let v6 : Int := t5.2.1
  (Q1.p0 k (v0, (v1, (v3, (v4, (v6, (v2, ((t5.1.1, (t5.1.2.1, ())), ())))))))).bind fun t9 => (match t9 with
 | .inl t10 => (K (t10.1, ()))
 | .inr (t11) => ((Q1.p1 k (t11.1, (t11.2.1, (t11.2.2.1, (t11.2.2.2.1, (t11.2.2.2.2.1, (t11.2.2.2.2.2.1, ((t11.2.2.2.2.2.2.1.1, (t11.2.2.2.2.2.2.1.2.1, ())), ())))))))).bind fun t17 => (match t17 with
 | .inl t18 => (K (t18.1, ()))
 | .inr (t19) => (let v20 : (List Int) := t19.2.2.2.1
  (Q00 k (t19.2.2.2.2.1.1, (t19.2.2.2.2.1.2.1, ())) v20).bind fun t21 => (QI k t21.1).bind fun t22 => let v23 : ByteArray := t22.1
  let v24 : Int := t22.2.1
  (Qm k v23 (0 : Int)).bind fun t25 => let v26 : Int := t25.1
  let v27 : Int := t25.2.1
  (QI k t19.1).bind fun t28 => let v29 : ByteArray := t28.1
  let v30 : Int := t28.2.1
  (Q1.p2 k (t19.1, (t19.2.1, (t19.2.2.1, (t21.1, (v23, (v24, (v26, (v27, (v30, (t19.2.2.2.1, ((t19.2.2.2.2.1.1, (t19.2.2.2.2.1.2.1, ())), ())))))))))))).bind fun t36 => (match t36 with
 | .inl t37 => (K (t37.1, ()))
 | .inr (t38) => ((Qm k t38.1 t38.2.1).bind fun t39 => let v40 : Int := t39.1
  let v41 : Int := t39.2.1
  (Q1.p3 k (t38.1, (t38.2.1, (v40, (v41, ()))))).bind fun t43 => (match t43 with
 | .inl t44 => (K (t44.1, ()))
 | .inr (t45) => (let v46 : Int := (((ByteArray.size t45.1) : Nat) : Int)
  let v47 : Int := (IntKind.wrap IntKind.i64 (v46 - t45.2.1))
  bif (decide (v47 < (6 : Int))) then (bif (t45.2.2.1 == (0 : Int)) then (K ((t45.2.2.2.1 == (4 : Int)), ())) else (K (false, ()))) else (bif (t45.2.2.2.1 == (0 : Int)) then (let v48 : Int := (IntKind.wrap IntKind.i64 (t45.2.1 + (6 : Int)))
  bif (decide (((0 : Int) ≤ t45.2.1) ∧ ((t45.2.1 ≤ v48) ∧ (v48 ≤ (((ByteArray.size t45.1) : Nat) : Int))))) then (let v49 : ByteArray := (ByteArray.extract t45.1 (Int.toNat t45.2.1) (Int.toNat v48))
  (Qb k v49).bind fun t50 => K ((t45.2.2.1 == t50.1), ())) else (none)) else (K (false, ())))))))))))
def Q1 (k : Nat) (d : (ByteArray × (Int × ((List Int) × (ByteArray × (Int × Unit)))))) : Option (Bool × Unit) := Q1.c k d some
def Q1.tin : List Ty := [(.pair .str (.pair (.int .u64) (.pair Qgi (.pair .str (.pair (.int .i64) .unit)))))]
def Q1.tout : List Ty := [.bool]
def Q1.sem (k : Nat) : QK := QR Q1.tin Q1.tout fun x => Q1 k x.1
noncomputable def Q1.ctx (k : Nat) : Ctx := ⟨Try.prog, gam [(55, (Q0b.sem k)), (14, (Qp.sem k)), (56, (QC.sem k)), (57, (Q00.sem k)), (58, (QI.sem k)), (59, (Qm.sem k)), (31, (Ql.sem k)), (60, (Qd.sem k)), (61, (Qb.sem k))]⟩
theorem Q1.gok (k : Nat) : ∀ f, Qz Try.prog f ((Q1.ctx k).Γ f) := (QA (Q0b.sem_ok k) (QA (Qp.sem_ok k) (QA (QC.sem_ok k) (QA (Q00.sem_ok k) (QA (QI.sem_ok k) (QA (Qm.sem_ok k) (QA (Ql.sem_ok k) (QA (Qd.sem_ok k) (QA (Qb.sem_ok k) Q03)))))))))
theorem Q1.p3.is (k : Nat) : Q2B (Q1.ctx k) (QZ (Func.code Try.f12) [1, 1, 1, 1, 1, 1, 1, 1, 1, 1, 1, 0]) (.nil) Q1.p3.T Q1.p3.os (Q1.p3.r k) := by
 intro ρ x K; kernel_rfl
theorem Q1.p3.ok (k : Nat) : StOK 0 Try.prog (QZ (Func.code Try.f12) [1, 1, 1, 1, 1, 1, 1, 1, 1, 1, 1, 0]) (QE Q1.p3.T Q1.p3.os (Q1.p3 k)) :=
 Q2r (C := Q1.ctx k) (T := Q1.p3.T) (os := Q1.p3.os) (Q1.gok k) Try.mix (fun x K => Q1.p3.r k x K) Q8.nil (by kernel_rfl) (by kernel_rfl) (Q1.p3.is k)
theorem Q1.p2.is (k : Nat) : Q2B (Q1.ctx k) (QZ (Func.code Try.f12) [1, 1, 1, 1, 1, 1, 1, 1, 1, 0]) (.nil) Q1.p2.T Q1.p2.os (Q1.p2.r k) := by
 intro ρ x K; kernel_rfl
theorem Q1.p2.ok (k : Nat) : StOK 0 Try.prog (QZ (Func.code Try.f12) [1, 1, 1, 1, 1, 1, 1, 1, 1, 0]) (QE Q1.p2.T Q1.p2.os (Q1.p2 k)) :=
 Q2r (C := Q1.ctx k) (T := Q1.p2.T) (os := Q1.p2.os) (Q1.gok k) Try.mix (fun x K => Q1.p2.r k x K) Q8.nil (by kernel_rfl) (by kernel_rfl) (Q1.p2.is k)
theorem Q1.p1.is (k : Nat) : Q2B (Q1.ctx k) (QZ (Func.code Try.f12) [1, 1, 1, 1, 0]) (.nil) Q1.p1.T Q1.p1.os (Q1.p1.r k) := by
 intro ρ x K; kernel_rfl
theorem Q1.p1.ok (k : Nat) : StOK 0 Try.prog (QZ (Func.code Try.f12) [1, 1, 1, 1, 0]) (QE Q1.p1.T Q1.p1.os (Q1.p1 k)) :=
 Q2r (C := Q1.ctx k) (T := Q1.p1.T) (os := Q1.p1.os) (Q1.gok k) Try.mix (fun x K => Q1.p1.r k x K) Q8.nil (by kernel_rfl) (by kernel_rfl) (Q1.p1.is k)
theorem Q1.p0.is (k : Nat) : Q2B (Q1.ctx k) (QZ (Func.code Try.f12) [1, 1, 1, 0]) (.nil) Q1.p0.T Q1.p0.os (Q1.p0.r k) := by
 intro ρ x K; kernel_rfl
theorem Q1.p0.ok (k : Nat) : StOK 0 Try.prog (QZ (Func.code Try.f12) [1, 1, 1, 0]) (QE Q1.p0.T Q1.p0.os (Q1.p0 k)) :=
 Q2r (C := Q1.ctx k) (T := Q1.p0.T) (os := Q1.p0.os) (Q1.gok k) Try.mix (fun x K => Q1.p0.r k x K) Q8.nil (by kernel_rfl) (by kernel_rfl) (Q1.p0.is k)
def Q1.ann (k : Nat) : Ann := .node [] none (.nil) (.node [] none (.nil) (.node [] none (.nil) (.node [] none (.node [.mask [3, 4, 5, 6, 7, 8, 9], .auto 0] (some (QE Q1.p0.T Q1.p0.os (Q1.p0 k))) .nil .nil) (.node [] none (.node [.mask [3, 4, 5, 6, 7, 8, 9], .auto 0] (some (QE Q1.p1.T Q1.p1.os (Q1.p1 k))) .nil .nil) (.node [] none (.nil) (.node [] none (.nil) (.node [] none (.nil) (.node [] none (.nil) (.node [] none (.node [.mask [4, 5, 6, 7, 8, 12, 13, 14, 15, 16, 18], .auto 0] (some (QE Q1.p2.T Q1.p2.os (Q1.p2 k))) .nil .nil) (.node [] none (.nil) (.node [] none (.node [] (some (QE Q1.p3.T Q1.p3.os (Q1.p3 k))) .nil .nil) (.nil))))))))))))
theorem Q1.body (k : Nat) : Q0t (Q1.ctx k) Try.f12 (Func.code Try.f12) (Q1.ann k) Q1.tin Q1.tout (fun x K => Q1.c k x.1 K) := by
 intro ρ x K; kernel_rfl
theorem Q1.sem_ok (k : Nat) : Qz Try.prog 12 (Q1.sem k) :=
 QT (C := Q1.ctx k) (Q1.gok k) Try.mix (c := Func.code Try.f12) (ann := Q1.ann k) (tin := Q1.tin) (tout := Q1.tout) (fun x K => Q1.c k x.1 K) Try.func12 (by kernel_rfl) (by kernel_rfl) (Q8.seq Q8.nil (Q8.seq Q8.nil (Q8.seq Q8.nil (Q8.seq (Q8.loop (by kernel_rfl) (Q1.p0.ok k)) (Q8.seq (Q8.loop (by kernel_rfl) (Q1.p1.ok k)) (Q8.seq Q8.nil (Q8.seq Q8.nil (Q8.seq Q8.nil (Q8.seq Q8.nil (Q8.seq (Q8.loop (by kernel_rfl) (Q1.p2.ok k)) (Q8.seq Q8.nil (Q8.seq (Q8.loop (by kernel_rfl) (Q1.p3.ok k)) Q8.nil)))))))))))) (Q1.body k)
end Go.Am
namespace Go.Am
open Go
theorem Q7R {σ τ : Type} {r : {ρ : Type} → σ → (σ → Option ρ) → (τ → Option ρ) → Option ρ} (S : Nat → σ) (n : Nat) (T : τ) (a : Nat)
  (hstep : ∀ i, a ≤ i → i < n → ∀ (kn : σ → Option τ) (ke : τ → Option τ), r (S i) kn ke = kn (S (i + 1))) (hend : ∀ (kn : σ → Option τ) (ke : τ → Option τ), r (S n) kn ke = ke T) :
  ∀ {fuel : Nat}, a ≤ n → n - a < fuel → Q0o r fuel (S a) = some T := by
 intro fuel ha hf
 have key : ∀ (d i fuel : Nat), a ≤ i → i + d = n → d < fuel → Q0o r fuel (S i) = some T := by
  intro d
  induction d with
  | zero =>
   intro i fuel _ hi hf
   cases fuel with
   | zero => omega
   | succ fuel =>
    have : i = n := by omega
    subst this
    exact hend _ _
  | succ d ih =>
   intro i fuel hai hi hf
   cases fuel with
   | zero => omega
   | succ fuel =>
    show r (S i) (Q0o r fuel) some = _
    rw [hstep i hai (by omega)]
    exact ih (i + 1) fuel (by omega) (by omega) (by omega)
 exact key (n - a) a fuel (Nat.le_refl _) (by omega) hf
theorem Q0f {σ τ : Type} {r : {ρ : Type} → σ → (σ → Option ρ) → (τ → Option ρ) → Option ρ} (S : Nat → σ) (n : Nat) (T : τ)
  (hstep : ∀ i, i < n → ∀ (kn : σ → Option τ) (ke : τ → Option τ), r (S i) kn ke = kn (S (i + 1))) (hend : ∀ (kn : σ → Option τ) (ke : τ → Option τ), r (S n) kn ke = ke T)
  {fuel : Nat} (hf : n < fuel) : Q0o r fuel (S 0) = some T := Q7R S n T 0 (fun i _ hi => hstep i hi) hend (Nat.zero_le _) (by omega)
theorem QdP {σ τ : Type} {r : {ρ : Type} → σ → (σ → Option ρ) → (τ → Option ρ) → Option ρ} (I : Nat → σ → Prop) (T : τ → Prop)
  (h : ∀ n s, I n s → (∃ s' m, m < n ∧ I m s' ∧ ∀ (kn : σ → Option τ) (ke : τ → Option τ), r s kn ke = kn s') ∨ (∃ t, T t ∧ ∀ (kn : σ → Option τ) (ke : τ → Option τ), r s kn ke = ke t)) :
  ∀ (n fuel : Nat) (s : σ), n < fuel → I n s → ∃ t, T t ∧ Q0o r fuel s = some t
 | n, fuel + 1, s, hf, hi => by
  rcases h n s hi with ⟨s', m, hm, hI, hr⟩ | ⟨t, ht, hr⟩
  ·obtain ⟨t, ht, h2⟩ := QdP I T h m fuel s' (by omega) hI
   exact ⟨t, ht, (hr (Q0o r fuel) some).trans h2⟩
  ·exact ⟨t, ht, hr (Q0o r fuel) some⟩
theorem i64_in {n : Int} (h : -9223372036854775808 ≤ n ∧ n ≤ 9223372036854775807) : IntKind.i64.wrap n = n := IntWalk.i64_in n h
theorem u64_in {n : Int} (h : 0 ≤ n ∧ n ≤ 18446744073709551615) : IntKind.u64.wrap n = n := IntWalk.u64_in n h
theorem u8_in {n : Int} (h : 0 ≤ n ∧ n ≤ 255) : IntKind.u8.wrap n = n := IntWalk.u8_in n h
theorem Q16 {a b : Nat} (h : a ≤ b) : Nat.ble a b = true := by rw [Nat.ble_eq]; exact h
theorem Q6F (n : Int) : IntKind.u8.wrap n = n % 256 := IntKind.wrap_u8 n
theorem Q5B (n : Int) : IntKind.u32.wrap n = n % 4294967296 := IntKind.wrap_u32 n
theorem Q3e (n : Int) : IntKind.u64.wrap n = n % 18446744073709551616 := IntKind.wrap_u64 n
theorem Q3M {n : Int} (h : 0 ≤ n ∧ n ≤ 4294967295) : IntKind.u32.wrap n = n := by rw [Q5B]; omega
theorem Q0l {α : Type} {b : Bool} {x y : α} (h : b = true) : (bif b then x else y) = x := by rw [h]; rfl
theorem Q6S {α : Type} {b : Bool} {x y : α} (h : b = false) : (bif b then x else y) = y := by rw [h]; rfl
theorem QF {α : Type} {p : Prop} [Decidable p] {x y : α} (h : p) : (bif decide p then x else y) = x := by rw [decide_eq_true h]; rfl
theorem Q0z {α : Type} {p : Prop} [Decidable p] {x y : α} (h : ¬ p) : (bif decide p then x else y) = y := by rw [decide_eq_false h]; rfl
theorem Q5M (k : IntKind) (x y : Int) : Qw .or k x y = Qw .or k y x := by
 simp only [Qw, BitVec.or_comm]
theorem Qe7 (k : IntKind) (x y : Int) : Qw .xor k x y = Qw .xor k y x := by
 simp only [Qw, BitVec.xor_comm]
theorem Qe8 (k : IntKind) (x y : Int) : Qw .and k x y = Qw .and k y x := by
 simp only [Qw, BitVec.and_comm]
theorem toNat_ofInt (w A : Nat) (h : A < 2 ^ w) : (BitVec.ofInt w (A : Int)).toNat = A := by
 rw [BitVec.toNat_ofInt]
 have : ((A : Int) % ((2 : Nat) ^ w : Nat)).toNat = A % 2 ^ w := by
  rw [← Int.natCast_emod]; rfl
 rw [this]
 exact Nat.mod_eq_of_lt h
theorem QfG {A B : Nat} (ha : A < 4294967296) (hb : B < 4294967296) : Qw .and .u32 (A : Int) (B : Int) = ((A &&& B : Nat) : Int) := by
 show IntKind.u32.wrap (((BitVec.ofInt 32 (A : Int) &&& BitVec.ofInt 32 (B : Int) : BitVec 32).toNat : Nat) : Int) = _
 rw [BitVec.toNat_and, toNat_ofInt 32 A (by simpa using ha), toNat_ofInt 32 B (by simpa using hb)]
 exact Q3M ⟨by omega, by have : A &&& B ≤ A := Nat.and_le_left; omega⟩
theorem Qfg {A B : Nat} (ha : A < 4294967296) (hb : B < 4294967296) : Qw .or .u32 (A : Int) (B : Int) = ((A ||| B : Nat) : Int) := by
 show IntKind.u32.wrap (((BitVec.ofInt 32 (A : Int) ||| BitVec.ofInt 32 (B : Int) : BitVec 32).toNat : Nat) : Int) = _
 rw [BitVec.toNat_or, toNat_ofInt 32 A (by simpa using ha), toNat_ofInt 32 B (by simpa using hb)]
 exact Q3M ⟨by omega, by have : A ||| B < 2 ^ 32 := Nat.or_lt_two_pow (by simpa using ha) (by simpa using hb); simp at this; omega⟩
theorem Qep {A B : Nat} (ha : A < 4294967296) (hb : B < 4294967296) : Qw .xor .u32 (A : Int) (B : Int) = ((A ^^^ B : Nat) : Int) := by
 show IntKind.u32.wrap (((BitVec.ofInt 32 (A : Int) ^^^ BitVec.ofInt 32 (B : Int) : BitVec 32).toNat : Nat) : Int) = _
 rw [BitVec.toNat_xor, toNat_ofInt 32 A (by simpa using ha), toNat_ofInt 32 B (by simpa using hb)]
 exact Q3M ⟨by omega, by have : A ^^^ B < 2 ^ 32 := Nat.xor_lt_two_pow (by simpa using ha) (by simpa using hb); simp at this; omega⟩
theorem Qes {x : Int} (h : 0 ≤ x ∧ x ≤ 4294967295) : notI .u32 x = 4294967295 - x := by
 obtain ⟨A, rfl⟩ := Int.eq_ofNat_of_zero_le h.1
 show Qw .xor .u32 (4294967295 : Int) (A : Int) = _
 rw [show (4294967295 : Int) = ((4294967295 : Nat) : Int) from rfl, Qep (by omega) (by omega)]
 have : 4294967295 ^^^ A = 4294967295 - A := by
  have h1 : (BitVec.allOnes 32 ^^^ BitVec.ofNat 32 A).toNat = 4294967295 - A := by
   rw [BitVec.allOnes_xor, BitVec.toNat_not, BitVec.toNat_ofNat, Nat.mod_eq_of_lt (by omega)]
  rw [← h1, BitVec.toNat_xor, BitVec.toNat_allOnes, BitVec.toNat_ofNat, Nat.mod_eq_of_lt (show A < 2 ^ 32 by omega)]
 rw [this]; omega
theorem QdE (op : BinOp) (x y : Int) (h : op = .and ∨ op = .or ∨ op = .xor) : 0 ≤ Qw op .u32 x y ∧ Qw op .u32 x y ≤ 4294967295 := by
 rcases h with rfl | rfl | rfl <;> simp only [Qw] <;> rw [Q5B] <;> omega
theorem Qfb {A B j : Nat} (ha : A < 2 ^ j) : A ||| B * 2 ^ j = B * 2 ^ j + A := by
 rw [Nat.or_comm, Nat.mul_comm, ← Nat.two_pow_add_eq_or_of_lt ha]
theorem Q3V {A B j : Nat} (ha : A < 2 ^ j) (hlt : B * 2 ^ j + A < 4294967296) : Qw .or .u32 ((B * 2 ^ j : Nat) : Int) (A : Int) = ((B * 2 ^ j + A : Nat) : Int) := by
 rw [Qfg (by omega) (by omega), Nat.or_comm, Qfb ha]
theorem Q7q (x : Int) {j : Nat} (hj : j ≤ 32) : Q1H .u32 x (j : Int) = (x * 2 ^ j) % 4294967296 := by
 unfold Q1H
 rw [show min (j : Int).toNat IntKind.u32.bits = j by simp [IntKind.bits]; omega, Q5B]
theorem QfC {x : Int} {j : Nat} (hj : j ≤ 32) : Q10 .u32 x (j : Int) = x / 2 ^ j := by
 unfold Q10
 rw [show min (j : Int).toNat IntKind.u32.bits = j by simp [IntKind.bits]; omega]
 exact Int.fdiv_eq_ediv_of_nonneg _ (Int.le_of_lt (Int.pow_pos (by omega)))
def QfN (a b c d : Int) : Int := ((a * 256 + b) * 256 + c) * 256 + d
def QfI (x : Int) : Prop := 0 ≤ x ∧ x < 256
def QfR (x : Int) : Prop := 0 ≤ x ∧ x ≤ 4294967295
end Go.Am
