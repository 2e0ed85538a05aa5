/- A part of a proof: a machine of abstract values that tells what functions of the program compute, and the plain facts on them. -/
import Derived.Test.YtpoofchknajlgaaAm9
import Derived.Test.YtpoofchknajlgaaAm6
import Derived.KernelRfl
set_option linter.unusedVariables false
set_option linter.unusedSimpArgs false
set_option linter.unnecessarySimpa false
set_option linter.unusedSectionVars false
namespace Go.Am
abbrev Qf9 : Ty := (.pair .bool .unit)
abbrev Qf8 : Type := (List (ByteArray × ByteArray))
abbrev Qf7 : Type := (ByteArray × (Int × (Int × Unit)))
abbrev Qf6 : Ty := (.pair (.int .i64)  Qf9 )
abbrev Qf5 : Type := (Int ×  Qf7  × Unit)
abbrev Qf4 : Type := (Unit × (Unit × (Unit × (Int × (Unit × (Bool × Unit))))))
abbrev Qf3 : Ty := (.pair .str (.pair (.int .i64) (.pair (.int .i64) .unit)))
abbrev Qf2 : Type := (Int × (ByteArray × (ByteArray × (Int × (ByteArray × Unit)))))
abbrev Qf1 : Type := (List  Qf2 )
abbrev Qf0 : Type := (Unit × (ByteArray × (Int × (Unit × (Unit × (Int × (Bool × Unit)))))))
abbrev QeZ : Ty := (.pair (.int .i64) (.pair .str (.pair .str (.pair (.int .i64) (.pair .str .unit)))))
abbrev QeY : Type := ( Qf4  ×  Qf8  ×  Qf8  × Unit)
abbrev QeX : Type := (Int ×  Qf4  ×  Qf8  ×  Qf8  × Unit)
abbrev QeW : Type := (Bool ×  Qf4  ×  Qf8  ×  Qf8  × Unit)
abbrev QeV : Type := (ByteArray ×  Qf4  ×  Qf8  ×  Qf8  × Unit)
abbrev QeU : Type := (ByteArray × Int ×  Qf4  ×  Qf8  ×  Qf8  × Unit)
abbrev QeT : Type := (ByteArray × ByteArray ×  Qf4  ×  Qf8  ×  Qf8  × Unit)
abbrev QeS : Type := ( Qf4  ×  Qf8  ×  Qf8  ×  Qf1  × Unit)
abbrev QeR : Type := (Int ×  Qf4  ×  Qf8  ×  Qf8  ×  Qf1  × Unit)
abbrev QeQ : Type := (Bool ×  Qf4  ×  Qf8  ×  Qf8  ×  Qf1  × Unit)
abbrev QeP : Type := (ByteArray ×  Qf4  ×  Qf8  ×  Qf8  ×  Qf1  × Unit)
abbrev QeO : Type := (ByteArray × Int ×  Qf4  ×  Qf8  ×  Qf8  ×  Qf1  × Unit)
abbrev QeN : Type := (Int ×  Qf0  ×  Qf4  ×  Qf8  ×  Qf8  × (List Int) × Unit)
abbrev QeM : Type := (Int ×  Qf0  ×  Qf4  ×  Qf8  ×  Qf8  × (List ByteArray) × (List Int) × Unit)
abbrev QeL : Type := (Int ×  Qf0  ×  Qf4  ×  Qf8  ×  Qf8  × (List Int) ×  Qf1  × Unit)
abbrev QeK : Type := (Int ×  Qf0  ×  Qf4  ×  Qf8  ×  Qf8  × (List ByteArray) × (List Int) ×  Qf1  × Unit)
end Go.Am
namespace Go.Am
open Go Go.Proofs
set_option maxRecDepth 100000
abbrev Q1c.τ : Type := QeY 
def Q1c.c (k : Nat) {ρ : Type}  (K : Q1c.τ → Option ρ) : Option ρ :=
 K (((), ((), ((), ((0 : Int), ((), (false, ())))))), ([], ([], ())))
def Q1c (k : Nat)  : Option Q1c.τ := Q1c.c k  some
def Q1c.T : Q15 := ⟨[], [], 0⟩
def Q1c.os : List Out := [⟨.ret, [.auto 0], ⟨[.ptr 0 []], [.pair (.mp 1) (.pair (.mp 2) (.pair (.nils) (.pair (.dat (.int .i64)) (.pair (.nils) (.dat Qf9))))), .mpd .str .str, .mpd .str .str]⟩⟩]
def Q1c.sem (k : Nat) : QS := Q17 Q1c.T Q1c.os fun x => Q1c k 
noncomputable def Q1c.ctx (k : Nat) : Ctx := ⟨Try.prog, gam []⟩
theorem Q1c.gok (k : Nat) : ∀ f, Qu Try.prog f ((Q1c.ctx k).Γ f) := Q0e
def Q1c.ann (k : Nat) : Ann := .nil
theorem Q1c.body (k : Nat) : Q18 (Q1c.ctx k) Try.f15 (Func.code Try.f15) (Q1c.ann k) Q1c.T Q1c.os (fun x K => Q1c.c k  K) := by
 intro ρ x K; kernel_rfl
theorem Q1c.sem_ok (k : Nat) : Qu Try.prog 15 (Q1c.sem k) :=
 Q0u (C := Q1c.ctx k) (Q1c.gok k) Try.mix (c := Func.code Try.f15) (ann := Q1c.ann k) (T := Q1c.T) (os := Q1c.os) (fun x K => Q1c.c k  K) Try.func15 (by kernel_rfl) (by kernel_rfl) Q2.nil (Q1c.body k) (by kernel_rfl) (by kernel_rfl) (by kernel_rfl)
abbrev Q0H.τ : Type := QeW 
def Q0H.c (k : Nat) {ρ : Type} (b0 : Qf4) (b1 : Qf8) (b2 : Qf8) (K : Q0H.τ → Option ρ) : Option ρ :=
 K (b0.2.2.2.2.2.1, (((), ((), ((), (b0.2.2.2.1, ((), (b0.2.2.2.2.2.1, ())))))), (b1, (b2, ()))))
def Q0H (k : Nat) (b0 : Qf4) (b1 : Qf8) (b2 : Qf8) : Option Q0H.τ := Q0H.c k b0 b1 b2 some
def Q0H.T : Q15 := ⟨[.ptr 0 []], [.pair (.mp 1) (.pair (.mp 2) (.pair (.nils) (.pair (.dat (.int .i64)) (.pair (.nils) (.dat Qf9))))), .mpd .str .str, .mpd .str .str], 3⟩
def Q0H.os : List Out := [⟨.ret, [.freeze (.slot 0), .auto 3], ⟨[.dat .bool], [.pair (.mp 1) (.pair (.mp 2) (.pair (.nils) (.pair (.dat (.int .i64)) (.pair (.nils) (.dat Qf9))))), .mpd .str .str, .mpd .str .str]⟩⟩]
def Q0H.sem (k : Nat) : QS := Q17 Q0H.T Q0H.os fun x => Q0H k x.1 x.2.1 x.2.2.1
noncomputable def Q0H.ctx (k : Nat) : Ctx := ⟨Try.prog, gam []⟩
theorem Q0H.gok (k : Nat) : ∀ f, Qu Try.prog f ((Q0H.ctx k).Γ f) := Q0e
def Q0H.ann (k : Nat) : Ann := .nil
theorem Q0H.body (k : Nat) : Q18 (Q0H.ctx k) Try.f30 (Func.code Try.f30) (Q0H.ann k) Q0H.T Q0H.os (fun x K => Q0H.c k x.1 x.2.1 x.2.2.1 K) := by
 intro ρ x K; kernel_rfl
theorem Q0H.sem_ok (k : Nat) : Qu Try.prog 30 (Q0H.sem k) :=
 Q0u (C := Q0H.ctx k) (Q0H.gok k) Try.mix (c := Func.code Try.f30) (ann := Q0H.ann k) (T := Q0H.T) (os := Q0H.os) (fun x K => Q0H.c k x.1 x.2.1 x.2.2.1 K) Try.func30 (by kernel_rfl) (by kernel_rfl) Q2.nil (Q0H.body k) (by kernel_rfl) (by kernel_rfl) (by kernel_rfl)
abbrev Qk.p1.σ : Type := ByteArray × (List ByteArray) × Int × Int × Unit
abbrev Qk.p1.τ : Type := (Int × Unit) ⊕ (ByteArray × (List ByteArray) × Int × Int × Unit)
def Qk.p1.r (k : Nat) {ρ : Type} (x : Qk.p1.σ) (K : Qk.p1.τ → Option ρ) : Option ρ :=
 let v1 : Int := (((ByteArray.size x.1) : Nat) : Int)
 bif (decide (v1 < (1 : Int))) then (K (.inl ((70 : Int), ()))) else (let v2 : Int := (((ByteArray.size x.1) : Nat) : Int)
 bif (decide (v2 > (32 : Int))) then (K (.inl ((70 : Int), ()))) else (K (.inr (x.1, (x.2.1, (x.2.2.1, (x.2.2.2.1, ())))))))
def Qk.p1 (k : Nat) (x : Qk.p1.σ) : Option Qk.p1.τ := Qk.p1.r k x some
def Qk.p1.T : StT := ⟨us 4 ++ .dat .str :: us 2 ++ .dat (.sl .str) :: .dat (.int .i64) :: .dat (.int .i64) :: us 43, []⟩
def Qk.p1.os : List Out := [⟨.ret, [.mask [2], .auto 0], ⟨us 2 ++ .dat (.int .i64) :: us 50, []⟩⟩, ⟨.normal, [.mask [4, 7, 8, 9], .auto 0], ⟨us 4 ++ .dat .str :: us 2 ++ .dat (.sl .str) :: .dat (.int .i64) :: .dat (.int .i64) :: us 43, []⟩⟩]
abbrev Qk.l2.σ : Type := ByteArray × (List ByteArray) × Int × Int × Int × Int × Unit
abbrev Qk.l2.τ : Type := (Int × Unit) ⊕ ((List ByteArray) × Int × Int × Unit)
def Qk.l2.r (k : Nat) {ρ : Type} (x : Qk.l2.σ) (kn : Qk.l2.σ → Option ρ) (ke : Qk.l2.τ → Option ρ) : Option ρ :=
 bif (decide (x.2.2.2.2.2.1 < x.2.2.2.2.1)) then (bif (decide (((0 : Int) ≤ x.2.2.2.2.2.1) ∧ (x.2.2.2.2.2.1 < (((ByteArray.size x.1) : Nat) : Int)))) then (let v7 : Int := (Q1v x.1 (Int.toNat x.2.2.2.2.2.1))
 bif (decide (v7 < (97 : Int))) then (bif (decide (v7 < (48 : Int))) then (bif (v7 != (46 : Int)) then (bif (v7 != (45 : Int)) then (ke (.inl ((70 : Int), ()))) else (let v8 : Int := (IntKind.wrap IntKind.i64 (x.2.2.2.2.2.1 + (1 : Int)))
 kn (x.1, (x.2.1, (x.2.2.1, (x.2.2.2.1, (x.2.2.2.2.1, (v8, ())))))))) else (let v9 : Int := (IntKind.wrap IntKind.i64 (x.2.2.2.2.2.1 + (1 : Int)))
 kn (x.1, (x.2.1, (x.2.2.1, (x.2.2.2.1, (x.2.2.2.2.1, (v9, ())))))))) else (bif (decide (v7 > (57 : Int))) then (bif (v7 != (46 : Int)) then (bif (v7 != (45 : Int)) then (ke (.inl ((70 : Int), ()))) else (let v10 : Int := (IntKind.wrap IntKind.i64 (x.2.2.2.2.2.1 + (1 : Int)))
 kn (x.1, (x.2.1, (x.2.2.1, (x.2.2.2.1, (x.2.2.2.2.1, (v10, ())))))))) else (let v11 : Int := (IntKind.wrap IntKind.i64 (x.2.2.2.2.2.1 + (1 : Int)))
 kn (x.1, (x.2.1, (x.2.2.1, (x.2.2.2.1, (x.2.2.2.2.1, (v11, ())))))))) else (let v12 : Int := (IntKind.wrap IntKind.i64 (x.2.2.2.2.2.1 + (1 : Int)))
 kn (x.1, (x.2.1, (x.2.2.1, (x.2.2.2.1, (x.2.2.2.2.1, (v12, ()))))))))) else (bif (decide (v7 > (122 : Int))) then (bif (decide (v7 < (48 : Int))) then (bif (v7 != (46 : Int)) then (bif (v7 != (45 : Int)) then (ke (.inl ((70 : Int), ()))) else (let v13 : Int := (IntKind.wrap IntKind.i64 (x.2.2.2.2.2.1 + (1 : Int)))
 kn (x.1, (x.2.1, (x.2.2.1, (x.2.2.2.1, (x.2.2.2.2.1, (v13, ())))))))) else (let v14 : Int := (IntKind.wrap IntKind.i64 (x.2.2.2.2.2.1 + (1 : Int)))
 kn (x.1, (x.2.1, (x.2.2.1, (x.2.2.2.1, (x.2.2.2.2.1, (v14, ())))))))) else (bif (decide (v7 > (57 : Int))) then (bif (v7 != (46 : Int)) then (bif (v7 != (45 : Int)) then (ke (.inl ((70 : Int), ()))) else (let v15 : Int := (IntKind.wrap IntKind.i64 (x.2.2.2.2.2.1 + (1 : Int)))
 kn (x.1, (x.2.1, (x.2.2.1, (x.2.2.2.1, (x.2.2.2.2.1, (v15, ())))))))) else (let v16 : Int := (IntKind.wrap IntKind.i64 (x.2.2.2.2.2.1 + (1 : Int)))
 kn (x.1, (x.2.1, (x.2.2.1, (x.2.2.2.1, (x.2.2.2.2.1, (v16, ())))))))) else (let v17 : Int := (IntKind.wrap IntKind.i64 (x.2.2.2.2.2.1 + (1 : Int)))
 kn (x.1, (x.2.1, (x.2.2.1, (x.2.2.2.1, (x.2.2.2.2.1, (v17, ()))))))))) else (let v18 : Int := (IntKind.wrap IntKind.i64 (x.2.2.2.2.2.1 + (1 : Int)))
 kn (x.1, (x.2.1, (x.2.2.1, (x.2.2.2.1, (x.2.2.2.2.1, (v18, ()))))))))) else (none)) else (ke (.inr (x.2.1, (x.2.2.1, (x.2.2.2.1, ())))))
def Qk.l2 (k : Nat) : Nat → Qk.l2.σ → Option Qk.l2.τ := Q1f (Qk.l2.r k)
def Qk.l2.T : StT := ⟨us 4 ++ .dat .str :: us 2 ++ .dat (.sl .str) :: .dat (.int .i64) :: .dat (.int .i64) :: us 12 ++ .dat (.int .i64) :: .dat (.int .i64) :: us 29, []⟩
def Qk.l2.os : List Out := [⟨.ret, [.mask [2], .auto 0], ⟨us 2 ++ .dat (.int .i64) :: us 50, []⟩⟩, ⟨(.exit 2), [.mask [7, 8, 9], .auto 0], ⟨us 7 ++ .dat (.sl .str) :: .dat (.int .i64) :: .dat (.int .i64) :: us 43, []⟩⟩]
abbrev Qk.l0.σ : Type := (List ByteArray) × Int × Int × Unit
abbrev Qk.l0.τ : Type := (Int × Unit) ⊕ (Unit)
def Qk.l0.r (k : Nat) {ρ : Type} (x : Qk.l0.σ) (kn : Qk.l0.σ → Option ρ) (ke : Qk.l0.τ → Option ρ) : Option ρ :=
  bif (decide (x.2.2.1 < x.2.1)) then (bif (decide (((0 : Int) ≤ x.2.2.1) ∧ (x.2.2.1 < (((List.length x.1) : Nat) : Int)))) then (let v0 : ByteArray := (List.getD x.1 (Int.toNat x.2.2.1) ByteArray.empty)
  (Qk.p1 k (v0, (x.1, (x.2.1, (x.2.2.1, ()))))).bind fun t3 => (match t3 with
 | .inl t4 => (ke (.inl (t4.1, ())))
 | .inr (t5) => (let v6 : Int := (((ByteArray.size t5.1) : Nat) : Int)
  (Qk.l2 k k (t5.1, (t5.2.1, (t5.2.2.1, (t5.2.2.2.1, (v6, ((0 : Int), ()))))))).bind fun t19 => (match t19 with
 | .inl t20 => (ke (.inl (t20.1, ())))
 | .inr (t21) => (let v22 : Int := (IntKind.wrap IntKind.i64 (t21.2.2.1 + (1 : Int)))
  kn (t21.1, (t21.2.1, (v22, ())))))))) else (none)) else (ke (.inr ()))
def Qk.l0 (k : Nat) : Nat → Qk.l0.σ → Option Qk.l0.τ := Q1f (Qk.l0.r k)
def Qk.l0.T : StT := ⟨us 7 ++ .dat (.sl .str) :: .dat (.int .i64) :: .dat (.int .i64) :: us 43, []⟩
def Qk.l0.os : List Out := [⟨.ret, [.mask [2], .auto 0], ⟨us 2 ++ .dat (.int .i64) :: us 50, []⟩⟩, ⟨(.exit 0), [.mask [], .auto 0], ⟨us 53, []⟩⟩]
def Qk.c (k : Nat) {ρ : Type} (names : (List ByteArray)) (K : Int × Unit → Option ρ) : Option ρ :=
  (Qk.l0 k k (names, ((((List.length names) : Nat) : Int), ((0 : Int), ())))).bind fun t23 => (match t23 with
 | .inl t24 => (K (t24.1, ()))
 | .inr (t25) => (K ((0 : Int), ())))
def Qk (k : Nat) (names : (List ByteArray)) : Option (Int × Unit) := Qk.c k names some
def Qk.tin : List Ty := [(.sl .str)]
def Qk.tout : List Ty := [(.int .i64)]
def Qk.sem (k : Nat) : QS := Q16 Qk.tin Qk.tout fun x => Qk k x.1
noncomputable def Qk.ctx (k : Nat) : Ctx := ⟨Try.prog, gam []⟩
theorem Qk.gok (k : Nat) : ∀ f, Qu Try.prog f ((Qk.ctx k).Γ f) := Q0e
theorem Qk.p1.is (k : Nat) : Q26 (Qk.ctx k) (Q0O (Func.code Try.f89) [1, 0, 1, 0, 0, 1, 1, 0, 0, 1, 0]) (.nil) Qk.p1.T Qk.p1.os (Qk.p1.r k) := by
 intro ρ x K; kernel_rfl
theorem Qk.p1.ok (k : Nat) : StOK 0 Try.prog (Q0O (Func.code Try.f89) [1, 0, 1, 0, 0, 1, 1, 0, 0, 1, 0]) (Q05 Qk.p1.T Qk.p1.os (Qk.p1 k)) :=
 Q1T (C := Qk.ctx k) (T := Qk.p1.T) (os := Qk.p1.os) (Qk.gok k) Try.mix (fun x K => Qk.p1.r k x K) Q2.nil (by kernel_rfl) (by kernel_rfl) (Qk.p1.is k)
theorem Qk.l2.round (k : Nat) : Q1j (Qk.ctx k) (Q0O (Func.code Try.f89) [1, 0, 1, 0, 0, 1, 1, 0, 0, 1, 1, 1, 0, 0]) (.nil) Qk.l2.T [.mask [4, 7, 8, 9, 22, 23], .auto 0] Qk.l2.os (Qk.l2.r k) := by
 intro ρ x kn ke; kernel_rfl
theorem Qk.l2.ok (k : Nat) : StOK 0 Try.prog (.loop (Q0O (Func.code Try.f89) [1, 0, 1, 0, 0, 1, 1, 0, 0, 1, 1, 1, 0, 0])) (Q05 Qk.l2.T Qk.l2.os (Qk.l2 k k)) :=
 Q1m (C := Qk.ctx k) (Qk.gok k) Try.mix Q2.nil (by kernel_rfl) (by kernel_rfl) (by kernel_rfl) (Qk.l2.round k) k
theorem Qk.l0.round (k : Nat) : Q1j (Qk.ctx k) (Q0O (Func.code Try.f89) [1, 0, 1, 0, 0]) (.node [] none (.nil) (.node [] none (.nil) (.node [] none (.node [] none (.node [] none (.nil) (.node [] none (.node [] (some (Q05 Qk.p1.T Qk.p1.os (Qk.p1 k))) .nil .nil) (.node [] none (.nil) (.node [] none (.node [] (some (Q05 Qk.l2.T Qk.l2.os (Qk.l2 k k))) .nil .nil) (.nil))))) (.nil)) (.nil)))) Qk.l0.T [.mask [7, 8, 9], .auto 0] Qk.l0.os (Qk.l0.r k) := by
 intro ρ x kn ke; kernel_rfl
theorem Qk.l0.ok (k : Nat) : StOK 0 Try.prog (.loop (Q0O (Func.code Try.f89) [1, 0, 1, 0, 0])) (Q05 Qk.l0.T Qk.l0.os (Qk.l0 k k)) :=
 Q1m (C := Qk.ctx k) (Qk.gok k) Try.mix (Q2.seq Q2.nil (Q2.seq Q2.nil (Q2.seq (Q2.block (Q2.seq Q2.nil (Q2.seq (Q2.loop (by kernel_rfl) (Qk.p1.ok k)) (Q2.seq Q2.nil (Q2.block (Q2.loop (by kernel_rfl) (Qk.l2.ok k))))))) Q2.nil))) (by kernel_rfl) (by kernel_rfl) (by kernel_rfl) (Qk.l0.round k) k
def Qk.ann (k : Nat) : Ann := .node [] none (.nil) (.node [] none (.node [] none (.nil) (.node [] none (.node [] (some (Q05 Qk.l0.T Qk.l0.os (Qk.l0 k k))) .nil .nil) (.nil))) (.nil))
theorem Qk.body (k : Nat) : Q1p (Qk.ctx k) Try.f89 (Func.code Try.f89) (Qk.ann k) Qk.tin Qk.tout (fun x K => Qk.c k x.1 K) := by
 intro ρ x K; kernel_rfl
theorem Qk.sem_ok (k : Nat) : Qu Try.prog 89 (Qk.sem k) :=
 Q12 (C := Qk.ctx k) (Qk.gok k) Try.mix (c := Func.code Try.f89) (ann := Qk.ann k) (tin := Qk.tin) (tout := Qk.tout) (fun x K => Qk.c k x.1 K) Try.func89 (by kernel_rfl) (by kernel_rfl) (Q2.seq Q2.nil (Q2.seq (Q2.seq Q2.nil (Q2.block (Q2.loop (by kernel_rfl) (Qk.l0.ok k)))) Q2.nil)) (Qk.body k)
abbrev Q0K.τ : Type := QeX 
def Q0K.c (k : Nat) {ρ : Type} (names : (List ByteArray)) (b0 : Qf4) (b1 : Qf8) (b2 : Qf8) (K : Q0K.τ → Option ρ) : Option ρ :=
 (Q0H k ((), ((), ((), (b0.2.2.2.1, ((), (b0.2.2.2.2.2.1, ())))))) b1 b2).bind fun t0 => bif t0.1 then (K ((7 : Int), (((), ((), ((), (t0.2.1.2.2.2.1, ((), (t0.2.1.2.2.2.2.2.1, ())))))), (t0.2.2.1, (t0.2.2.2.1, ()))))) else ((Qk k names).bind fun t1 => K (t1.1, (((), ((), ((), (t0.2.1.2.2.2.1, ((), (t0.2.1.2.2.2.2.2.1, ())))))), (t0.2.2.1, (t0.2.2.2.1, ())))))
def Q0K (k : Nat) (names : (List ByteArray)) (b0 : Qf4) (b1 : Qf8) (b2 : Qf8) : Option Q0K.τ := Q0K.c k names b0 b1 b2 some
def Q0K.T : Q15 := ⟨[.ptr 0 [], .dat (.sl .str)], [.pair (.mp 1) (.pair (.mp 2) (.pair (.nils) (.pair (.dat (.int .i64)) (.pair (.nils) (.dat Qf9))))), .mpd .str .str, .mpd .str .str], 3⟩
def Q0K.os : List Out := [⟨.ret, [.freeze (.slot 0), .auto 3], ⟨[.dat (.int .i64)], [.pair (.mp 1) (.pair (.mp 2) (.pair (.nils) (.pair (.dat (.int .i64)) (.pair (.nils) (.dat Qf9))))), .mpd .str .str, .mpd .str .str]⟩⟩]
def Q0K.sem (k : Nat) : QS := Q17 Q0K.T Q0K.os fun x => Q0K k x.1 x.2.1 x.2.2.1 x.2.2.2.1
noncomputable def Q0K.ctx (k : Nat) : Ctx := ⟨Try.prog, gam [(30, (Q0H.sem k)), (89, (Qk.sem k))]⟩
theorem Q0K.gok (k : Nat) : ∀ f, Qu Try.prog f ((Q0K.ctx k).Γ f) := (Qf (Q0H.sem_ok k) (Qf (Qk.sem_ok k) Q0e))
def Q0K.ann (k : Nat) : Ann := .nil
theorem Q0K.body (k : Nat) : Q18 (Q0K.ctx k) Try.f79 (Func.code Try.f79) (Q0K.ann k) Q0K.T Q0K.os (fun x K => Q0K.c k x.1 x.2.1 x.2.2.1 x.2.2.2.1 K) := by
 intro ρ x K; kernel_rfl
theorem Q0K.sem_ok (k : Nat) : Qu Try.prog 79 (Q0K.sem k) :=
 Q0u (C := Q0K.ctx k) (Q0K.gok k) Try.mix (c := Func.code Try.f79) (ann := Q0K.ann k) (T := Q0K.T) (os := Q0K.os) (fun x K => Q0K.c k x.1 x.2.1 x.2.2.1 x.2.2.2.1 K) Try.func79 (by kernel_rfl) (by kernel_rfl) Q2.nil (Q0K.body k) (by kernel_rfl) (by kernel_rfl) (by kernel_rfl)
abbrev Qj.l0.σ : Type := Bool × Int × Int × Qf4 × Qf8 × Qf8 × Unit
abbrev Qj.l0.τ : Type := QeY 
def Qj.l0.r (k : Nat) {ρ : Type} (x : Qj.l0.σ) (kn : Qj.l0.σ → Option ρ) (ke : Qj.l0.τ → Option ρ) : Option ρ :=
 bif (decide (x.2.2.1 < x.2.1)) then (none) else (ke (((), ((), ((), (x.2.2.2.1.2.2.2.1, ((), (x.2.2.2.1.2.2.2.2.2.1, ())))))), (x.2.2.2.2.1, (x.2.2.2.2.2.1, ()))))
def Qj.l0 (k : Nat) : Nat → Qj.l0.σ → Option Qj.l0.τ := Q1f (Qj.l0.r k)
def Qj.l0.T : StT := ⟨.ptr 0 [] :: .dat .bool :: us 8 ++ .nils :: .dat (.int .i64) :: .dat (.int .i64) :: us 36, [.pair (.mp 1) (.pair (.mp 2) (.pair (.nils) (.pair (.dat (.int .i64)) (.pair (.nils) (.dat Qf9))))), .mpd .str .str, .mpd .str .str]⟩
def Qj.l0.os : List Out := [⟨(.exit 0), [.mask [], .auto 3], ⟨us 49, [.pair (.mp 1) (.pair (.mp 2) (.pair (.nils) (.pair (.dat (.int .i64)) (.pair (.nils) (.dat Qf9))))), .mpd .str .str, .mpd .str .str]⟩⟩]
abbrev Qj.τ : Type := QeW 
def Qj.c (k : Nat) {ρ : Type} (sync : Bool) (b0 : Qf4) (b1 : Qf8) (b2 : Qf8) (K : Qj.τ → Option ρ) : Option ρ :=
 (Qj.l0 k k (sync, ((0 : Int), ((0 : Int), (((), ((), ((), (b0.2.2.2.1, ((), (b0.2.2.2.2.2.1, ())))))), (b1, (b2, ()))))))).bind fun t0 => K (false, (((), ((), ((), (t0.1.2.2.2.1, ((), (t0.1.2.2.2.2.2.1, ())))))), (t0.2.1, (t0.2.2.1, ()))))
def Qj (k : Nat) (sync : Bool) (b0 : Qf4) (b1 : Qf8) (b2 : Qf8) : Option Qj.τ := Qj.c k sync b0 b1 b2 some
def Qj.T : Q15 := ⟨[.ptr 0 [], .dat .bool], [.pair (.mp 1) (.pair (.mp 2) (.pair (.nils) (.pair (.dat (.int .i64)) (.pair (.nils) (.dat Qf9))))), .mpd .str .str, .mpd .str .str], 3⟩
def Qj.os : List Out := [⟨.ret, [.freeze (.slot 0), .auto 3], ⟨[.dat .bool], [.pair (.mp 1) (.pair (.mp 2) (.pair (.nils) (.pair (.dat (.int .i64)) (.pair (.nils) (.dat Qf9))))), .mpd .str .str, .mpd .str .str]⟩⟩]
def Qj.sem (k : Nat) : QS := Q17 Qj.T Qj.os fun x => Qj k x.1 x.2.1 x.2.2.1 x.2.2.2.1
noncomputable def Qj.ctx (k : Nat) : Ctx := ⟨Try.prog, gam []⟩
theorem Qj.gok (k : Nat) : ∀ f, Qu Try.prog f ((Qj.ctx k).Γ f) := Q0e
theorem Qj.l0.round (k : Nat) : Q1j (Qj.ctx k) (Q0O (Func.code Try.f76) [1, 0, 1, 0, 0]) (.nil) Qj.l0.T [] Qj.l0.os (Qj.l0.r k) := by
 intro ρ x kn ke; kernel_rfl
theorem Qj.l0.ok (k : Nat) : StOK 3 Try.prog (.loop (Q0O (Func.code Try.f76) [1, 0, 1, 0, 0])) (Q05 Qj.l0.T Qj.l0.os (Qj.l0 k k)) :=
 Q1m (C := Qj.ctx k) (Qj.gok k) Try.mix Q2.nil (by kernel_rfl) (by kernel_rfl) (by kernel_rfl) (Qj.l0.round k) k
def Qj.ann (k : Nat) : Ann := .node [] none (.nil) (.node [] none (.node [] none (.nil) (.node [] none (.node [.mask [0, 1, 10, 11, 12], .auto 3] (some (Q05 Qj.l0.T Qj.l0.os (Qj.l0 k k))) .nil .nil) (.nil))) (.nil))
theorem Qj.body (k : Nat) : Q18 (Qj.ctx k) Try.f76 (Func.code Try.f76) (Qj.ann k) Qj.T Qj.os (fun x K => Qj.c k x.1 x.2.1 x.2.2.1 x.2.2.2.1 K) := by
 intro ρ x K; kernel_rfl
theorem Qj.sem_ok (k : Nat) : Qu Try.prog 76 (Qj.sem k) :=
 Q0u (C := Qj.ctx k) (Qj.gok k) Try.mix (c := Func.code Try.f76) (ann := Qj.ann k) (T := Qj.T) (os := Qj.os) (fun x K => Qj.c k x.1 x.2.1 x.2.2.1 x.2.2.2.1 K) Try.func76 (by kernel_rfl) (by kernel_rfl) (Q2.seq Q2.nil (Q2.seq (Q2.seq Q2.nil (Q2.block (Q2.loop (by kernel_rfl) (Qj.l0.ok k)))) Q2.nil)) (Qj.body k) (by kernel_rfl) (by kernel_rfl) (by kernel_rfl)
abbrev Q0J.τ : Type := (Qf8 × Unit)
def Q0J.c (k : Nat) {ρ : Type} (c : Qf2) (b0 : Qf8) (K : Q0J.τ → Option ρ) : Option ρ :=
 let v0 : Int := c.1
 bif (v0 == (0 : Int)) then (let v1 : ByteArray := c.2.1
 let v2 : ByteArray := (Option.getD (mget Ty.str v1 b0) ByteArray.empty)
 let v3 : ByteArray := c.2.1
 let v4 : Int := c.2.2.2.1
 bif (decide (((0 : Int) ≤ (0 : Int)) ∧ (((0 : Int) ≤ v4) ∧ (v4 ≤ (((ByteArray.size v2) : Nat) : Int))))) then (let v5 : ByteArray := c.2.2.2.2.1
 bif (Nat.ble ((ByteArray.size (ByteArray.extract v2 0 (Int.toNat v4))) + (ByteArray.size v5)) 9223372036854775807) then (let v6 : ByteArray := ((ByteArray.extract v2 0 (Int.toNat v4)) ++ v5)
 let v7 : Int := c.2.2.2.1
 let v8 : ByteArray := c.2.2.2.2.1
 let v9 : Int := (IntKind.wrap IntKind.i64 (v7 + (((ByteArray.size v8) : Nat) : Int)))
 let v10 : Int := (if (v9 < (((ByteArray.size v2) : Nat) : Int)) then v9 else (((ByteArray.size v2) : Nat) : Int))
 bif (decide (((0 : Int) ≤ v10) ∧ ((v10 ≤ (((ByteArray.size v2) : Nat) : Int)) ∧ ((((ByteArray.size v2) : Nat) : Int) ≤ (((ByteArray.size v2) : Nat) : Int))))) then (let v11 : ByteArray := (ByteArray.extract v2 (Int.toNat v10) (Int.toNat (((ByteArray.size v2) : Nat) : Int)))
 bif (Nat.ble ((ByteArray.size v6) + (ByteArray.size v11)) 9223372036854775807) then (let v12 : ByteArray := (v6 ++ v11)
 K ((mset Ty.str v3 v12 b0), ())) else (none)) else (none)) else (none)) else (none)) else (bif (v0 == (1 : Int)) then (let v13 : ByteArray := c.2.1
 let v14 : ByteArray := c.2.1
 let v15 : ByteArray := (Option.getD (mget Ty.str v14 b0) ByteArray.empty)
 let v16 : Int := c.2.2.2.1
 bif (decide (((0 : Int) ≤ (0 : Int)) ∧ (((0 : Int) ≤ v16) ∧ (v16 ≤ (((ByteArray.size v15) : Nat) : Int))))) then (K ((mset Ty.str v13 (ByteArray.extract v15 0 (Int.toNat v16)) b0), ())) else (none)) else (bif (v0 == (2 : Int)) then (let v17 : ByteArray := c.2.1
 let v18 : ByteArray := (Option.getD (mget Ty.str v17 b0) ByteArray.empty)
 let v19 : ByteArray := c.2.1
 let v20 : ByteArray := c.2.2.1
 K ((mset Ty.str v20 v18 (mdel Ty.str v19 b0)), ())) else (bif (v0 == (3 : Int)) then (let v21 : ByteArray := c.2.1
 K ((mdel Ty.str v21 b0), ())) else (K (b0, ())))))
def Q0J (k : Nat) (c : Qf2) (b0 : Qf8) : Option Q0J.τ := Q0J.c k c b0 some
def Q0J.T : Q15 := ⟨[.mp 0, .dat QeZ], [.mpd .str .str], 1⟩
def Q0J.os : List Out := [⟨.ret, [.auto 1], ⟨[], [.mpd .str .str]⟩⟩]
def Q0J.sem (k : Nat) : QS := Q17 Q0J.T Q0J.os fun x => Q0J k x.1 x.2.1
noncomputable def Q0J.ctx (k : Nat) : Ctx := ⟨Try.prog, gam []⟩
theorem Q0J.gok (k : Nat) : ∀ f, Qu Try.prog f ((Q0J.ctx k).Γ f) := Q0e
def Q0J.ann (k : Nat) : Ann := .nil
theorem Q0J.body (k : Nat) : Q18 (Q0J.ctx k) Try.f77 (Func.code Try.f77) (Q0J.ann k) Q0J.T Q0J.os (fun x K => Q0J.c k x.1 x.2.1 K) := by
 intro ρ x K; kernel_rfl
theorem Q0J.sem_ok (k : Nat) : Qu Try.prog 77 (Q0J.sem k) :=
 Q0u (C := Q0J.ctx k) (Q0J.gok k) Try.mix (c := Func.code Try.f77) (ann := Q0J.ann k) (T := Q0J.T) (os := Q0J.os) (fun x K => Q0J.c k x.1 x.2.1 K) Try.func77 (by kernel_rfl) (by kernel_rfl) Q2.nil (Q0J.body k) (by kernel_rfl) (by kernel_rfl) (by kernel_rfl)
abbrev Q0v.τ : Type := QeX ⊕ QeR 
def Q0v.c (k : Nat) {ρ : Type} (c : Qf2) (b0 : Qf4) (b1 : Qf8) (b2 : Qf8) (K : Q0v.τ → Option ρ) : Option ρ :=
 (Qj k false ((), ((), ((), (b0.2.2.2.1, ((), (b0.2.2.2.2.2.1, ())))))) b1 b2).bind fun t0 => bif t0.1 then (K (.inl ((7 : Int), (((), ((), ((), (t0.2.1.2.2.2.1, ((), (t0.2.1.2.2.2.2.2.1, ())))))), (t0.2.2.1, (t0.2.2.2.1, ())))))) else ((Q0J k (c.1, (c.2.1, (c.2.2.1, (c.2.2.2.1, (c.2.2.2.2.1, ()))))) t0.2.2.2.1).bind fun t1 => bif (Nat.ble ((List.length (List.set (List.replicate 1 ((0 : Int), (ByteArray.empty, (ByteArray.empty, ((0 : Int), (ByteArray.empty, ())))))) 0 (c.1, (c.2.1, (c.2.2.1, (c.2.2.2.1, (c.2.2.2.2.1, ()))))))) * 64) 140737488355328) then (let v2 : Int := t0.2.1.2.2.2.1
 let v3 : Int := (IntKind.wrap IntKind.i64 (v2 + (1 : Int)))
 K (.inr ((0 : Int), (((), ((), ((), (v3, ((), (t0.2.1.2.2.2.2.2.1, ())))))), (t0.2.2.1, (t1.1, ((List.set (List.replicate 1 ((0 : Int), (ByteArray.empty, (ByteArray.empty, ((0 : Int), (ByteArray.empty, ())))))) 0 (c.1, (c.2.1, (c.2.2.1, (c.2.2.2.1, (c.2.2.2.2.1, ())))))), ()))))))) else (none))
def Q0v (k : Nat) (c : Qf2) (b0 : Qf4) (b1 : Qf8) (b2 : Qf8) : Option Q0v.τ := Q0v.c k c b0 b1 b2 some
def Q0v.T : Q15 := ⟨[.ptr 0 [], .dat QeZ], [.pair (.mp 1) (.pair (.mp 2) (.pair (.nils) (.pair (.dat (.int .i64)) (.pair (.nils) (.dat Qf9))))), .mpd .str .str, .mpd .str .str], 3⟩
def Q0v.os : List Out := [⟨.ret, [.freeze (.slot 0), .auto 3], ⟨[.dat (.int .i64)], [.pair (.mp 1) (.pair (.mp 2) (.pair (.nils) (.pair (.dat (.int .i64)) (.pair (.nils) (.dat Qf9))))), .mpd .str .str, .mpd .str .str]⟩⟩, ⟨.ret, [.freeze (.slot 0), .auto 3], ⟨[.dat (.int .i64)], [.pair (.mp 1) (.pair (.mp 2) (.pair (.vsl 3) (.pair (.dat (.int .i64)) (.pair (.nils) (.dat Qf9))))), .mpd .str .str, .mpd .str .str, .vec QeZ]⟩⟩]
def Q0v.sem (k : Nat) : QS := Q17 Q0v.T Q0v.os fun x => Q0v k x.1 x.2.1 x.2.2.1 x.2.2.2.1
noncomputable def Q0v.ctx (k : Nat) : Ctx := ⟨Try.prog, gam [(76, (Qj.sem k)), (77, (Q0J.sem k))]⟩
theorem Q0v.gok (k : Nat) : ∀ f, Qu Try.prog f ((Q0v.ctx k).Γ f) := (Qf (Qj.sem_ok k) (Qf (Q0J.sem_ok k) Q0e))
def Q0v.ann (k : Nat) : Ann := .nil
theorem Q0v.body (k : Nat) : Q18 (Q0v.ctx k) Try.f74 (Func.code Try.f74) (Q0v.ann k) Q0v.T Q0v.os (fun x K => Q0v.c k x.1 x.2.1 x.2.2.1 x.2.2.2.1 K) := by
 intro ρ x K; kernel_rfl
theorem Q0v.sem_ok (k : Nat) : Qu Try.prog 74 (Q0v.sem k) :=
 Q0u (C := Q0v.ctx k) (Q0v.gok k) Try.mix (c := Func.code Try.f74) (ann := Q0v.ann k) (T := Q0v.T) (os := Q0v.os) (fun x K => Q0v.c k x.1 x.2.1 x.2.2.1 x.2.2.2.1 K) Try.func74 (by kernel_rfl) (by kernel_rfl) Q2.nil (Q0v.body k) (by kernel_rfl) (by kernel_rfl) (by kernel_rfl)
abbrev Q0j.τ : Type := QeX ⊕ QeR 
def Q0j.c (k : Nat) {ρ : Type} (name : ByteArray) (at_2 : Int) (s : ByteArray) (b0 : Qf4) (b1 : Qf8) (b2 : Qf8) (K : Q0j.τ → Option ρ) : Option ρ :=
  (Q0K k (List.set (List.replicate 1 ByteArray.empty) 0 name) ((), ((), ((), (b0.2.2.2.1, ((), (b0.2.2.2.2.2.1, ())))))) b1 b2).bind fun t0 => bif (t0.1 != (0 : Int)) then (K (.inl (t0.1, (((), ((), ((), (t0.2.1.2.2.2.1, ((), (t0.2.1.2.2.2.2.2.1, ())))))), (t0.2.2.1, (t0.2.2.2.1, ())))))) else (let v1 : ByteArray := (Option.getD (mget Ty.str name t0.2.2.2.1) ByteArray.empty)
  bif (decide (at_2 < (0 : Int))) then (K (.inl ((1 : Int), (((), ((), ((), (t0.2.1.2.2.2.1, ((), (t0.2.1.2.2.2.2.2.1, ())))))), (t0.2.2.1, (t0.2.2.2.1, ())))))) else (bif (decide (at_2 > (((ByteArray.size v1) : Nat) : Int))) then (K (.inl ((1 : Int), (((), ((), ((), (t0.2.1.2.2.2.1, ((), (t0.2.1.2.2.2.2.2.1, ())))))), (t0.2.2.1, (t0.2.2.2.1, ())))))) else (let v2 : Int := (IntKind.wrap IntKind.i64 ((16777216 : Int) - at_2))
  bif (decide ((((ByteArray.size s) : Nat) : Int) > v2)) then (K (.inl ((71 : Int), (((), ((), ((), (t0.2.1.2.2.2.1, ((), (t0.2.1.2.2.2.2.2.1, ())))))), (t0.2.2.1, (t0.2.2.2.1, ())))))) else (bif (!(Option.isSome (mget Ty.str name t0.2.2.2.1))) then (let v3 : Int := (((List.length t0.2.2.2.1) : Nat) : Int)
  bif (decide (v3 ≥ (64 : Int))) then (K (.inl ((71 : Int), (((), ((), ((), (t0.2.1.2.2.2.1, ((), (t0.2.1.2.2.2.2.2.1, ())))))), (t0.2.2.1, (t0.2.2.2.1, ())))))) else ((Q0v k ((0 : Int), (name, ((⟨(List.toArray [])⟩ : ByteArray), (at_2, (s, ()))))) ((), ((), ((), (t0.2.1.2.2.2.1, ((), (t0.2.1.2.2.2.2.2.1, ())))))) t0.2.2.1 t0.2.2.2.1).bind fun t4 => (match t4 with
 | .inl t5 => (K (.inl (t5.1, (((), ((), ((), (t5.2.1.2.2.2.1, ((), (t5.2.1.2.2.2.2.2.1, ())))))), (t5.2.2.1, (t5.2.2.2.1, ()))))))
 | .inr (t6) => (K (.inr (t6.1, (((), ((), ((), (t6.2.1.2.2.2.1, ((), (t6.2.1.2.2.2.2.2.1, ())))))), (t6.2.2.1, (t6.2.2.2.1, (t6.2.2.2.2.1, ())))))))))) else ((Q0v k ((0 : Int), (name, ((⟨(List.toArray [])⟩ : ByteArray), (at_2, (s, ()))))) ((), ((), ((), (t0.2.1.2.2.2.1, ((), (t0.2.1.2.2.2.2.2.1, ())))))) t0.2.2.1 t0.2.2.2.1).bind fun t7 => (match t7 with
 | .inl t8 => (K (.inl (t8.1, (((), ((), ((), (t8.2.1.2.2.2.1, ((), (t8.2.1.2.2.2.2.2.1, ())))))), (t8.2.2.1, (t8.2.2.2.1, ()))))))
 | .inr (t9) => (K (.inr (t9.1, (((), ((), ((), (t9.2.1.2.2.2.1, ((), (t9.2.1.2.2.2.2.2.1, ())))))), (t9.2.2.1, (t9.2.2.2.1, (t9.2.2.2.2.1, ())))))))))))))
def Q0j (k : Nat) (name : ByteArray) (at_2 : Int) (s : ByteArray) (b0 : Qf4) (b1 : Qf8) (b2 : Qf8) : Option Q0j.τ := Q0j.c k name at_2 s b0 b1 b2 some
def Q0j.T : Q15 := ⟨[.ptr 0 [], .dat .str, .dat (.int .i64), .dat .str], [.pair (.mp 1) (.pair (.mp 2) (.pair (.nils) (.pair (.dat (.int .i64)) (.pair (.nils) (.dat Qf9))))), .mpd .str .str, .mpd .str .str], 3⟩
def Q0j.os : List Out := [⟨.ret, [.freeze (.slot 0), .auto 3], ⟨[.dat (.int .i64)], [.pair (.mp 1) (.pair (.mp 2) (.pair (.nils) (.pair (.dat (.int .i64)) (.pair (.nils) (.dat Qf9))))), .mpd .str .str, .mpd .str .str]⟩⟩, ⟨.ret, [.freeze (.slot 0), .auto 3], ⟨[.dat (.int .i64)], [.pair (.mp 1) (.pair (.mp 2) (.pair (.vsl 3) (.pair (.dat (.int .i64)) (.pair (.nils) (.dat Qf9))))), .mpd .str .str, .mpd .str .str, .vec QeZ]⟩⟩]
def Q0j.sem (k : Nat) : QS := Q17 Q0j.T Q0j.os fun x => Q0j k x.1 x.2.1 x.2.2.1 x.2.2.2.1 x.2.2.2.2.1 x.2.2.2.2.2.1
noncomputable def Q0j.ctx (k : Nat) : Ctx := ⟨Try.prog, gam [(79, (Q0K.sem k)), (74, (Q0v.sem k))]⟩
theorem Q0j.gok (k : Nat) : ∀ f, Qu Try.prog f ((Q0j.ctx k).Γ f) := (Qf (Q0K.sem_ok k) (Qf (Q0v.sem_ok k) Q0e))
def Q0j.ann (k : Nat) : Ann := .nil
theorem Q0j.body (k : Nat) : Q18 (Q0j.ctx k) Try.f72 (Func.code Try.f72) (Q0j.ann k) Q0j.T Q0j.os (fun x K => Q0j.c k x.1 x.2.1 x.2.2.1 x.2.2.2.1 x.2.2.2.2.1 x.2.2.2.2.2.1 K) := by
 intro ρ x K; kernel_rfl
theorem Q0j.sem_ok (k : Nat) : Qu Try.prog 72 (Q0j.sem k) :=
 Q0u (C := Q0j.ctx k) (Q0j.gok k) Try.mix (c := Func.code Try.f72) (ann := Q0j.ann k) (T := Q0j.T) (os := Q0j.os) (fun x K => Q0j.c k x.1 x.2.1 x.2.2.1 x.2.2.2.1 x.2.2.2.2.1 x.2.2.2.2.2.1 K) Try.func72 (by kernel_rfl) (by kernel_rfl) Q2.nil (Q0j.body k) (by kernel_rfl) (by kernel_rfl) (by kernel_rfl)
def Q11.c (k : Nat) {ρ : Type} (name : ByteArray) (K : Bool × Unit → Option ρ) : Option ρ :=
  (Q1c k ).bind fun t0 => (Q0j k name (0 : Int) (⟨(List.toArray [])⟩ : ByteArray) ((), ((), ((), (t0.1.2.2.2.1, ((), (t0.1.2.2.2.2.2.1, ())))))) t0.2.1 t0.2.2.1).bind fun t1 => (match t1 with
 | .inl t2 => (K ((t2.1 == (0 : Int)), ()))
 | .inr (t3) => (K ((t3.1 == (0 : Int)), ())))
def Q11 (k : Nat) (name : ByteArray) : Option (Bool × Unit) := Q11.c k name some
def Q11.tin : List Ty := [.str]
def Q11.tout : List Ty := [.bool]
def Q11.sem (k : Nat) : QS := Q16 Q11.tin Q11.tout fun x => Q11 k x.1
noncomputable def Q11.ctx (k : Nat) : Ctx := ⟨Try.prog, gam [(15, (Q1c.sem k)), (72, (Q0j.sem k))]⟩
theorem Q11.gok (k : Nat) : ∀ f, Qu Try.prog f ((Q11.ctx k).Γ f) := (Qf (Q1c.sem_ok k) (Qf (Q0j.sem_ok k) Q0e))
def Q11.ann (k : Nat) : Ann := .nil
theorem Q11.body (k : Nat) : Q1p (Q11.ctx k) Try.f50 (Func.code Try.f50) (Q11.ann k) Q11.tin Q11.tout (fun x K => Q11.c k x.1 K) := by
 intro ρ x K; kernel_rfl
theorem Q11.sem_ok (k : Nat) : Qu Try.prog 50 (Q11.sem k) :=
 Q12 (C := Q11.ctx k) (Q11.gok k) Try.mix (c := Func.code Try.f50) (ann := Q11.ann k) (tin := Q11.tin) (tout := Q11.tout) (fun x K => Q11.c k x.1 K) Try.func50 (by kernel_rfl) (by kernel_rfl) Q2.nil (Q11.body k)
abbrev Q0f.τ : Type := QeU 
def Q0f.c (k : Nat) {ρ : Type} (name : ByteArray) (b0 : Qf4) (b1 : Qf8) (b2 : Qf8) (K : Q0f.τ → Option ρ) : Option ρ :=
 (Q0K k (List.set (List.replicate 1 ByteArray.empty) 0 name) ((), ((), ((), (b0.2.2.2.1, ((), (b0.2.2.2.2.2.1, ())))))) b1 b2).bind fun t0 => bif (t0.1 != (0 : Int)) then (K ((⟨(List.toArray [])⟩ : ByteArray), (t0.1, (((), ((), ((), (t0.2.1.2.2.2.1, ((), (t0.2.1.2.2.2.2.2.1, ())))))), (t0.2.2.1, (t0.2.2.2.1, ())))))) else (let v1 : ByteArray := (Option.getD (mget Ty.str name t0.2.2.2.1) ByteArray.empty)
 bif (!(Option.isSome (mget Ty.str name t0.2.2.2.1))) then (K ((⟨(List.toArray [])⟩ : ByteArray), ((2 : Int), (((), ((), ((), (t0.2.1.2.2.2.1, ((), (t0.2.1.2.2.2.2.2.1, ())))))), (t0.2.2.1, (t0.2.2.2.1, ())))))) else (K (v1, ((0 : Int), (((), ((), ((), (t0.2.1.2.2.2.1, ((), (t0.2.1.2.2.2.2.2.1, ())))))), (t0.2.2.1, (t0.2.2.2.1, ())))))))
def Q0f (k : Nat) (name : ByteArray) (b0 : Qf4) (b1 : Qf8) (b2 : Qf8) : Option Q0f.τ := Q0f.c k name b0 b1 b2 some
def Q0f.T : Q15 := ⟨[.ptr 0 [], .dat .str], [.pair (.mp 1) (.pair (.mp 2) (.pair (.nils) (.pair (.dat (.int .i64)) (.pair (.nils) (.dat Qf9))))), .mpd .str .str, .mpd .str .str], 3⟩
def Q0f.os : List Out := [⟨.ret, [.freeze (.slot 0), .freeze (.slot 1), .auto 3], ⟨[.dat .str, .dat (.int .i64)], [.pair (.mp 1) (.pair (.mp 2) (.pair (.nils) (.pair (.dat (.int .i64)) (.pair (.nils) (.dat Qf9))))), .mpd .str .str, .mpd .str .str]⟩⟩]
def Q0f.sem (k : Nat) : QS := Q17 Q0f.T Q0f.os fun x => Q0f k x.1 x.2.1 x.2.2.1 x.2.2.2.1
noncomputable def Q0f.ctx (k : Nat) : Ctx := ⟨Try.prog, gam [(79, (Q0K.sem k))]⟩
theorem Q0f.gok (k : Nat) : ∀ f, Qu Try.prog f ((Q0f.ctx k).Γ f) := (Qf (Q0K.sem_ok k) Q0e)
def Q0f.ann (k : Nat) : Ann := .nil
theorem Q0f.body (k : Nat) : Q18 (Q0f.ctx k) Try.f73 (Func.code Try.f73) (Q0f.ann k) Q0f.T Q0f.os (fun x K => Q0f.c k x.1 x.2.1 x.2.2.1 x.2.2.2.1 K) := by
 intro ρ x K; kernel_rfl
theorem Q0f.sem_ok (k : Nat) : Qu Try.prog 73 (Q0f.sem k) :=
 Q0u (C := Q0f.ctx k) (Q0f.gok k) Try.mix (c := Func.code Try.f73) (ann := Q0f.ann k) (T := Q0f.T) (os := Q0f.os) (fun x K => Q0f.c k x.1 x.2.1 x.2.2.1 x.2.2.2.1 K) Try.func73 (by kernel_rfl) (by kernel_rfl) Q2.nil (Q0f.body k) (by kernel_rfl) (by kernel_rfl) (by kernel_rfl)
abbrev Q0G.τ : Type := QeU 
def Q0G.c (k : Nat) {ρ : Type} (name : ByteArray) (b0 : Qf4) (b1 : Qf8) (b2 : Qf8) (K : Q0G.τ → Option ρ) : Option ρ :=
 (Q0f k name ((), ((), ((), (b0.2.2.2.1, ((), (b0.2.2.2.2.2.1, ())))))) b1 b2).bind fun t0 => let v1 : ByteArray := t0.1
 let v2 : Int := t0.2.1
 K (v1, (v2, (((), ((), ((), (t0.2.2.1.2.2.2.1, ((), (t0.2.2.1.2.2.2.2.2.1, ())))))), (t0.2.2.2.1, (t0.2.2.2.2.1, ())))))
def Q0G (k : Nat) (name : ByteArray) (b0 : Qf4) (b1 : Qf8) (b2 : Qf8) : Option Q0G.τ := Q0G.c k name b0 b1 b2 some
def Q0G.T : Q15 := ⟨[.ptr 0 [], .dat .str], [.pair (.mp 1) (.pair (.mp 2) (.pair (.nils) (.pair (.dat (.int .i64)) (.pair (.nils) (.dat Qf9))))), .mpd .str .str, .mpd .str .str], 3⟩
def Q0G.os : List Out := [⟨.ret, [.freeze (.slot 0), .freeze (.slot 1), .auto 3], ⟨[.dat .str, .dat (.int .i64)], [.pair (.mp 1) (.pair (.mp 2) (.pair (.nils) (.pair (.dat (.int .i64)) (.pair (.nils) (.dat Qf9))))), .mpd .str .str, .mpd .str .str]⟩⟩]
def Q0G.sem (k : Nat) : QS := Q17 Q0G.T Q0G.os fun x => Q0G k x.1 x.2.1 x.2.2.1 x.2.2.2.1
noncomputable def Q0G.ctx (k : Nat) : Ctx := ⟨Try.prog, gam [(73, (Q0f.sem k))]⟩
theorem Q0G.gok (k : Nat) : ∀ f, Qu Try.prog f ((Q0G.ctx k).Γ f) := (Qf (Q0f.sem_ok k) Q0e)
def Q0G.ann (k : Nat) : Ann := .nil
theorem Q0G.body (k : Nat) : Q18 (Q0G.ctx k) Try.f51 (Func.code Try.f51) (Q0G.ann k) Q0G.T Q0G.os (fun x K => Q0G.c k x.1 x.2.1 x.2.2.1 x.2.2.2.1 K) := by
 intro ρ x K; kernel_rfl
theorem Q0G.sem_ok (k : Nat) : Qu Try.prog 51 (Q0G.sem k) :=
 Q0u (C := Q0G.ctx k) (Q0G.gok k) Try.mix (c := Func.code Try.f51) (ann := Q0G.ann k) (T := Q0G.T) (os := Q0G.os) (fun x K => Q0G.c k x.1 x.2.1 x.2.2.1 x.2.2.2.1 K) Try.func51 (by kernel_rfl) (by kernel_rfl) Q2.nil (Q0G.body k) (by kernel_rfl) (by kernel_rfl) (by kernel_rfl)
abbrev Q0L.τ : Type := (Qf7 × Unit)
def Q0L.c (k : Nat) {ρ : Type} (s : ByteArray) (K : Q0L.τ → Option ρ) : Option ρ :=
 K ((s, ((0 : Int), ((0 : Int), ()))), ())
def Q0L (k : Nat) (s : ByteArray) : Option Q0L.τ := Q0L.c k s some
def Q0L.T : Q15 := ⟨[.dat .str], [], 0⟩
def Q0L.os : List Out := [⟨.ret, [.auto 0], ⟨[.ptr 0 []], [.dat Qf3]⟩⟩]
def Q0L.sem (k : Nat) : QS := Q17 Q0L.T Q0L.os fun x => Q0L k x.1
noncomputable def Q0L.ctx (k : Nat) : Ctx := ⟨Try.prog, gam []⟩
theorem Q0L.gok (k : Nat) : ∀ f, Qu Try.prog f ((Q0L.ctx k).Γ f) := Q0e
def Q0L.ann (k : Nat) : Ann := .nil
theorem Q0L.body (k : Nat) : Q18 (Q0L.ctx k) Try.f43 (Func.code Try.f43) (Q0L.ann k) Q0L.T Q0L.os (fun x K => Q0L.c k x.1 K) := by
 intro ρ x K; kernel_rfl
theorem Q0L.sem_ok (k : Nat) : Qu Try.prog 43 (Q0L.sem k) :=
 Q0u (C := Q0L.ctx k) (Q0L.gok k) Try.mix (c := Func.code Try.f43) (ann := Q0L.ann k) (T := Q0L.T) (os := Q0L.os) (fun x K => Q0L.c k x.1 K) Try.func43 (by kernel_rfl) (by kernel_rfl) Q2.nil (Q0L.body k) (by kernel_rfl) (by kernel_rfl) (by kernel_rfl)
abbrev Q0s.τ : Type := Qf5 
def Q0s.c (k : Nat) {ρ : Type} (b0 : Qf7) (K : Q0s.τ → Option ρ) : Option ρ :=
 let v0 : Int := b0.2.2.1
 K (v0, ((b0.1, (b0.2.1, (b0.2.2.1, ()))), ()))
def Q0s (k : Nat) (b0 : Qf7) : Option Q0s.τ := Q0s.c k b0 some
def Q0s.T : Q15 := ⟨[.ptr 0 []], [.dat Qf3], 1⟩
def Q0s.os : List Out := [⟨.ret, [.freeze (.slot 0), .auto 1], ⟨[.dat (.int .i64)], [.dat Qf3]⟩⟩]
def Q0s.sem (k : Nat) : QS := Q17 Q0s.T Q0s.os fun x => Q0s k x.1
noncomputable def Q0s.ctx (k : Nat) : Ctx := ⟨Try.prog, gam []⟩
theorem Q0s.gok (k : Nat) : ∀ f, Qu Try.prog f ((Q0s.ctx k).Γ f) := Q0e
def Q0s.ann (k : Nat) : Ann := .nil
theorem Q0s.body (k : Nat) : Q18 (Q0s.ctx k) Try.f47 (Func.code Try.f47) (Q0s.ann k) Q0s.T Q0s.os (fun x K => Q0s.c k x.1 K) := by
 intro ρ x K; kernel_rfl
theorem Q0s.sem_ok (k : Nat) : Qu Try.prog 47 (Q0s.sem k) :=
 Q0u (C := Q0s.ctx k) (Q0s.gok k) Try.mix (c := Func.code Try.f47) (ann := Q0s.ann k) (T := Q0s.T) (os := Q0s.os) (fun x K => Q0s.c k x.1 K) Try.func47 (by kernel_rfl) (by kernel_rfl) Q2.nil (Q0s.body k) (by kernel_rfl) (by kernel_rfl) (by kernel_rfl)
abbrev Q0C.τ : Type := Qf5 
def Q0C.c (k : Nat) {ρ : Type} (b0 : Qf7) (K : Q0C.τ → Option ρ) : Option ρ :=
 let v0 : ByteArray := b0.1
 let v1 : Int := b0.2.1
 let v2 : Int := (IntKind.wrap IntKind.i64 ((((ByteArray.size v0) : Nat) : Int) - v1))
 K (v2, ((b0.1, (b0.2.1, (b0.2.2.1, ()))), ()))
def Q0C (k : Nat) (b0 : Qf7) : Option Q0C.τ := Q0C.c k b0 some
def Q0C.T : Q15 := ⟨[.ptr 0 []], [.dat Qf3], 1⟩
def Q0C.os : List Out := [⟨.ret, [.freeze (.slot 0), .auto 1], ⟨[.dat (.int .i64)], [.dat Qf3]⟩⟩]
def Q0C.sem (k : Nat) : QS := Q17 Q0C.T Q0C.os fun x => Q0C k x.1
noncomputable def Q0C.ctx (k : Nat) : Ctx := ⟨Try.prog, gam []⟩
theorem Q0C.gok (k : Nat) : ∀ f, Qu Try.prog f ((Q0C.ctx k).Γ f) := Q0e
def Q0C.ann (k : Nat) : Ann := .nil
theorem Q0C.body (k : Nat) : Q18 (Q0C.ctx k) Try.f71 (Func.code Try.f71) (Q0C.ann k) Q0C.T Q0C.os (fun x K => Q0C.c k x.1 K) := by
 intro ρ x K; kernel_rfl
theorem Q0C.sem_ok (k : Nat) : Qu Try.prog 71 (Q0C.sem k) :=
 Q0u (C := Q0C.ctx k) (Q0C.gok k) Try.mix (c := Func.code Try.f71) (ann := Q0C.ann k) (T := Q0C.T) (os := Q0C.os) (fun x K => Q0C.c k x.1 K) Try.func71 (by kernel_rfl) (by kernel_rfl) Q2.nil (Q0C.body k) (by kernel_rfl) (by kernel_rfl) (by kernel_rfl)
abbrev QF.τ : Type := (ByteArray × Qf7 × Unit)
def QF.c (k : Nat) {ρ : Type} (n : Int) (b0 : Qf7) (K : QF.τ → Option ρ) : Option ρ :=
 (Q0s k (b0.1, (b0.2.1, (b0.2.2.1, ())))).bind fun t0 => bif (t0.1 != (0 : Int)) then (K ((⟨(List.toArray [])⟩ : ByteArray), ((t0.2.1.1, (t0.2.1.2.1, (t0.2.1.2.2.1, ()))), ()))) else (bif (decide (n < (0 : Int))) then (K ((⟨(List.toArray [])⟩ : ByteArray), ((t0.2.1.1, (t0.2.1.2.1, ((1 : Int), ()))), ()))) else ((Q0C k (t0.2.1.1, (t0.2.1.2.1, (t0.2.1.2.2.1, ())))).bind fun t1 => bif (decide (n > t1.1)) then (K ((⟨(List.toArray [])⟩ : ByteArray), ((t1.2.1.1, (t1.2.1.2.1, ((4 : Int), ()))), ()))) else (let v2 : Int := t1.2.1.2.1
 let v3 : Int := (IntKind.wrap IntKind.i64 (v2 + n))
 let v4 : ByteArray := t1.2.1.1
 let v5 : Int := (IntKind.wrap IntKind.i64 (v3 - n))
 bif (decide (((0 : Int) ≤ v5) ∧ ((v5 ≤ v3) ∧ (v3 ≤ (((ByteArray.size v4) : Nat) : Int))))) then (K ((ByteArray.extract v4 (Int.toNat v5) (Int.toNat v3)), ((t1.2.1.1, (v3, (t1.2.1.2.2.1, ()))), ()))) else (none))))
def QF (k : Nat) (n : Int) (b0 : Qf7) : Option QF.τ := QF.c k n b0 some
def QF.T : Q15 := ⟨[.ptr 0 [], .dat (.int .i64)], [.dat Qf3], 1⟩
def QF.os : List Out := [⟨.ret, [.freeze (.slot 0), .auto 1], ⟨[.dat .str], [.dat Qf3]⟩⟩]
def QF.sem (k : Nat) : QS := Q17 QF.T QF.os fun x => QF k x.1 x.2.1
noncomputable def QF.ctx (k : Nat) : Ctx := ⟨Try.prog, gam [(47, (Q0s.sem k)), (71, (Q0C.sem k))]⟩
theorem QF.gok (k : Nat) : ∀ f, Qu Try.prog f ((QF.ctx k).Γ f) := (Qf (Q0s.sem_ok k) (Qf (Q0C.sem_ok k) Q0e))
def QF.ann (k : Nat) : Ann := .nil
theorem QF.body (k : Nat) : Q18 (QF.ctx k) Try.f46 (Func.code Try.f46) (QF.ann k) QF.T QF.os (fun x K => QF.c k x.1 x.2.1 K) := by
 intro ρ x K; kernel_rfl
theorem QF.sem_ok (k : Nat) : Qu Try.prog 46 (QF.sem k) :=
 Q0u (C := QF.ctx k) (QF.gok k) Try.mix (c := Func.code Try.f46) (ann := QF.ann k) (T := QF.T) (os := QF.os) (fun x K => QF.c k x.1 x.2.1 K) Try.func46 (by kernel_rfl) (by kernel_rfl) Q2.nil (QF.body k) (by kernel_rfl) (by kernel_rfl) (by kernel_rfl)
abbrev Q0E.l0.σ : Type := ByteArray × Int × Int × Int × Unit
abbrev Q0E.l0.τ : Type := (Int × Unit)
def Q0E.l0.r (k : Nat) {ρ : Type} (x : Q0E.l0.σ) (kn : Q0E.l0.σ → Option ρ) (ke : Q0E.l0.τ → Option ρ) : Option ρ :=
 bif (decide (x.2.2.2.1 < x.2.2.1)) then (bif (decide (((0 : Int) ≤ x.2.2.2.1) ∧ (x.2.2.2.1 < (((ByteArray.size x.1) : Nat) : Int)))) then (let v0 : Int := (Q1v x.1 (Int.toNat x.2.2.2.1))
 let v1 : Int := (IntKind.wrap IntKind.i64 ((8 : Int) * x.2.2.2.1))
 bif (decide ((0 : Int) ≤ v1)) then (let v2 : Int := (Q10 BinOp.or IntKind.u64 x.2.1 (Q2P IntKind.u64 (IntKind.wrap IntKind.u64 v0) v1))
 let v3 : Int := (IntKind.wrap IntKind.i64 (x.2.2.2.1 + (1 : Int)))
 kn (x.1, (v2, (x.2.2.1, (v3, ()))))) else (none)) else (none)) else (ke (x.2.1, ()))
def Q0E.l0 (k : Nat) : Nat → Q0E.l0.σ → Option Q0E.l0.τ := Q1f (Q0E.l0.r k)
def Q0E.l0.T : StT := ⟨.dat .str :: us 2 ++ .dat (.int .u64) :: us 2 ++ .dat (.int .i64) :: .dat (.int .i64) :: us 13, []⟩
def Q0E.l0.os : List Out := [⟨(.exit 0), [.mask [3], .auto 0], ⟨us 3 ++ .dat (.int .u64) :: us 17, []⟩⟩]
def Q0E.c (k : Nat) {ρ : Type} (s : ByteArray) (K : Int × Unit → Option ρ) : Option ρ :=
 (Q0E.l0 k k (s, ((0 : Int), ((((ByteArray.size s) : Nat) : Int), ((0 : Int), ()))))).bind fun t4 => K (t4.1, ())
def Q0E (k : Nat) (s : ByteArray) : Option (Int × Unit) := Q0E.c k s some
def Q0E.tin : List Ty := [.str]
def Q0E.tout : List Ty := [(.int .u64)]
def Q0E.sem (k : Nat) : QS := Q16 Q0E.tin Q0E.tout fun x => Q0E k x.1
noncomputable def Q0E.ctx (k : Nat) : Ctx := ⟨Try.prog, gam []⟩
theorem Q0E.gok (k : Nat) : ∀ f, Qu Try.prog f ((Q0E.ctx k).Γ f) := Q0e
theorem Q0E.l0.round (k : Nat) : Q1j (Q0E.ctx k) (Q0O (Func.code Try.f70) [1, 1, 0, 1, 0, 0]) (.nil) Q0E.l0.T [.mask [0, 3, 6, 7], .auto 0] Q0E.l0.os (Q0E.l0.r k) := by
 intro ρ x kn ke; kernel_rfl
theorem Q0E.l0.ok (k : Nat) : StOK 0 Try.prog (.loop (Q0O (Func.code Try.f70) [1, 1, 0, 1, 0, 0])) (Q05 Q0E.l0.T Q0E.l0.os (Q0E.l0 k k)) :=
 Q1m (C := Q0E.ctx k) (Q0E.gok k) Try.mix Q2.nil (by kernel_rfl) (by kernel_rfl) (by kernel_rfl) (Q0E.l0.round k) k
def Q0E.ann (k : Nat) : Ann := .node [] none (.nil) (.node [] none (.nil) (.node [] none (.node [] none (.nil) (.node [] none (.node [] (some (Q05 Q0E.l0.T Q0E.l0.os (Q0E.l0 k k))) .nil .nil) (.nil))) (.nil)))
theorem Q0E.body (k : Nat) : Q1p (Q0E.ctx k) Try.f70 (Func.code Try.f70) (Q0E.ann k) Q0E.tin Q0E.tout (fun x K => Q0E.c k x.1 K) := by
 intro ρ x K; kernel_rfl
theorem Q0E.sem_ok (k : Nat) : Qu Try.prog 70 (Q0E.sem k) :=
 Q12 (C := Q0E.ctx k) (Q0E.gok k) Try.mix (c := Func.code Try.f70) (ann := Q0E.ann k) (tin := Q0E.tin) (tout := Q0E.tout) (fun x K => Q0E.c k x.1 K) Try.func70 (by kernel_rfl) (by kernel_rfl) (Q2.seq Q2.nil (Q2.seq Q2.nil (Q2.seq (Q2.seq Q2.nil (Q2.block (Q2.loop (by kernel_rfl) (Q0E.l0.ok k)))) Q2.nil))) (Q0E.body k)
abbrev Q0w.τ : Type := Qf5 
def Q0w.c (k : Nat) {ρ : Type} (b0 : Qf7) (K : Q0w.τ → Option ρ) : Option ρ :=
 (QF k (8 : Int) (b0.1, (b0.2.1, (b0.2.2.1, ())))).bind fun t0 => (Q0E k t0.1).bind fun t1 => K (t1.1, ((t0.2.1.1, (t0.2.1.2.1, (t0.2.1.2.2.1, ()))), ()))
def Q0w (k : Nat) (b0 : Qf7) : Option Q0w.τ := Q0w.c k b0 some
def Q0w.T : Q15 := ⟨[.ptr 0 []], [.dat Qf3], 1⟩
def Q0w.os : List Out := [⟨.ret, [.freeze (.slot 0), .auto 1], ⟨[.dat (.int .u64)], [.dat Qf3]⟩⟩]
def Q0w.sem (k : Nat) : QS := Q17 Q0w.T Q0w.os fun x => Q0w k x.1
noncomputable def Q0w.ctx (k : Nat) : Ctx := ⟨Try.prog, gam [(46, (QF.sem k)), (70, (Q0E.sem k))]⟩
theorem Q0w.gok (k : Nat) : ∀ f, Qu Try.prog f ((Q0w.ctx k).Γ f) := (Qf (QF.sem_ok k) (Qf (Q0E.sem_ok k) Q0e))
def Q0w.ann (k : Nat) : Ann := .nil
theorem Q0w.body (k : Nat) : Q18 (Q0w.ctx k) Try.f44 (Func.code Try.f44) (Q0w.ann k) Q0w.T Q0w.os (fun x K => Q0w.c k x.1 K) := by
 intro ρ x K; kernel_rfl
theorem Q0w.sem_ok (k : Nat) : Qu Try.prog 44 (Q0w.sem k) :=
 Q0u (C := Q0w.ctx k) (Q0w.gok k) Try.mix (c := Func.code Try.f44) (ann := Q0w.ann k) (T := Q0w.T) (os := Q0w.os) (fun x K => Q0w.c k x.1 K) Try.func44 (by kernel_rfl) (by kernel_rfl) Q2.nil (Q0w.body k) (by kernel_rfl) (by kernel_rfl) (by kernel_rfl)
abbrev Q0B.τ : Type := Qf5 
def Q0B.c (k : Nat) {ρ : Type} (b0 : Qf7) (K : Q0B.τ → Option ρ) : Option ρ :=
 (QF k (4 : Int) (b0.1, (b0.2.1, (b0.2.2.1, ())))).bind fun t0 => (Q0E k t0.1).bind fun t1 => let v2 : Int := (IntKind.wrap IntKind.u32 t1.1)
 K (v2, ((t0.2.1.1, (t0.2.1.2.1, (t0.2.1.2.2.1, ()))), ()))
def Q0B (k : Nat) (b0 : Qf7) : Option Q0B.τ := Q0B.c k b0 some
def Q0B.T : Q15 := ⟨[.ptr 0 []], [.dat Qf3], 1⟩
def Q0B.os : List Out := [⟨.ret, [.freeze (.slot 0), .auto 1], ⟨[.dat (.int .u32)], [.dat Qf3]⟩⟩]
def Q0B.sem (k : Nat) : QS := Q17 Q0B.T Q0B.os fun x => Q0B k x.1
noncomputable def Q0B.ctx (k : Nat) : Ctx := ⟨Try.prog, gam [(46, (QF.sem k)), (70, (Q0E.sem k))]⟩
theorem Q0B.gok (k : Nat) : ∀ f, Qu Try.prog f ((Q0B.ctx k).Γ f) := (Qf (QF.sem_ok k) (Qf (Q0E.sem_ok k) Q0e))
def Q0B.ann (k : Nat) : Ann := .nil
theorem Q0B.body (k : Nat) : Q18 (Q0B.ctx k) Try.f45 (Func.code Try.f45) (Q0B.ann k) Q0B.T Q0B.os (fun x K => Q0B.c k x.1 K) := by
 intro ρ x K; kernel_rfl
theorem Q0B.sem_ok (k : Nat) : Qu Try.prog 45 (Q0B.sem k) :=
 Q0u (C := Q0B.ctx k) (Q0B.gok k) Try.mix (c := Func.code Try.f45) (ann := Q0B.ann k) (T := Q0B.T) (os := Q0B.os) (fun x K => Q0B.c k x.1 K) Try.func45 (by kernel_rfl) (by kernel_rfl) Q2.nil (Q0B.body k) (by kernel_rfl) (by kernel_rfl) (by kernel_rfl)
abbrev Q0P.τ : Type := Qf5 
def Q0P.c (k : Nat) {ρ : Type} (b0 : Qf7) (K : Q0P.τ → Option ρ) : Option ρ :=
 let v0 : Int := b0.2.1
 K (v0, ((b0.1, (b0.2.1, (b0.2.2.1, ()))), ()))
def Q0P (k : Nat) (b0 : Qf7) : Option Q0P.τ := Q0P.c k b0 some
def Q0P.T : Q15 := ⟨[.ptr 0 []], [.dat Qf3], 1⟩
def Q0P.os : List Out := [⟨.ret, [.freeze (.slot 0), .auto 1], ⟨[.dat (.int .i64)], [.dat Qf3]⟩⟩]
def Q0P.sem (k : Nat) : QS := Q17 Q0P.T Q0P.os fun x => Q0P k x.1
noncomputable def Q0P.ctx (k : Nat) : Ctx := ⟨Try.prog, gam []⟩
theorem Q0P.gok (k : Nat) : ∀ f, Qu Try.prog f ((Q0P.ctx k).Γ f) := Q0e
def Q0P.ann (k : Nat) : Ann := .nil
theorem Q0P.body (k : Nat) : Q18 (Q0P.ctx k) Try.f48 (Func.code Try.f48) (Q0P.ann k) Q0P.T Q0P.os (fun x K => Q0P.c k x.1 K) := by
 intro ρ x K; kernel_rfl
theorem Q0P.sem_ok (k : Nat) : Qu Try.prog 48 (Q0P.sem k) :=
 Q0u (C := Q0P.ctx k) (Q0P.gok k) Try.mix (c := Func.code Try.f48) (ann := Q0P.ann k) (T := Q0P.T) (os := Q0P.os) (fun x K => Q0P.c k x.1 K) Try.func48 (by kernel_rfl) (by kernel_rfl) Q2.nil (Q0P.body k) (by kernel_rfl) (by kernel_rfl) (by kernel_rfl)
abbrev Q9.p0.σ : Type := ByteArray × Int × Int × Unit
abbrev Q9.p0.τ : Type := (ByteArray × Int × Int × Unit) ⊕ (ByteArray × Int × Int × (List ByteArray) × Unit)
def Q9.p0.r (k : Nat) {ρ : Type} (x : Q9.p0.σ) (K : Q9.p0.τ → Option ρ) : Option ρ :=
 bif (decide (((0 : Int) ≤ x.2.2.1) ∧ ((x.2.2.1 ≤ (((ByteArray.size x.1) : Nat) : Int)) ∧ ((((ByteArray.size x.1) : Nat) : Int) ≤ (((ByteArray.size x.1) : Nat) : Int))))) then (let v3 : ByteArray := (ByteArray.extract x.1 (Int.toNat x.2.2.1) (Int.toNat (((ByteArray.size x.1) : Nat) : Int)))
 (Q0L k v3).bind fun t4 => (Q0B k (t4.1.1, (t4.1.2.1, (t4.1.2.2.1, ())))).bind fun t5 => let v6 : Int := (IntKind.wrap IntKind.i64 t5.1)
 (Q0w k (t5.2.1.1, (t5.2.1.2.1, (t5.2.1.2.2.1, ())))).bind fun t7 => (QF k v6 (t7.2.1.1, (t7.2.1.2.1, (t7.2.1.2.2.1, ())))).bind fun t8 => (QF k (4 : Int) (t8.2.1.1, (t8.2.1.2.1, (t8.2.1.2.2.1, ())))).bind fun t9 => (Q0s k (t9.2.1.1, (t9.2.1.2.1, (t9.2.1.2.2.1, ())))).bind fun t10 => bif (t10.1 != (0 : Int)) then (K (.inl (x.1, (x.2.1, (x.2.2.1, ()))))) else ((Q09 k x.2.1 (IntKind.wrap IntKind.u64 (0 : Int)) t8.1).bind fun t11 => let v12 : ByteArray := t11.1
 let v13 : Int := t11.2.1
 bif (v13 != (0 : Int)) then (K (.inl (x.1, (x.2.1, (x.2.2.1, ()))))) else ((Q0P k (t10.2.1.1, (t10.2.1.2.1, (t10.2.1.2.2.1, ())))).bind fun t14 => let v15 : Int := (IntKind.wrap IntKind.i64 (x.2.2.1 + t14.1))
 bif (decide (((0 : Int) ≤ x.2.2.1) ∧ ((x.2.2.1 ≤ v15) ∧ (v15 ≤ (((ByteArray.size x.1) : Nat) : Int))))) then (let v16 : ByteArray := (ByteArray.extract x.1 (Int.toNat x.2.2.1) (Int.toNat v15))
 bif (!(Q1M v16 v12)) then (K (.inl (x.1, (x.2.1, (x.2.2.1, ()))))) else (bif (Nat.ble ((List.length (List.set (List.replicate 1 ByteArray.empty) 0 t8.1)) * 16) 140737488355328) then ((Q0P k (t14.2.1.1, (t14.2.1.2.1, (t14.2.1.2.2.1, ())))).bind fun t17 => let v18 : Int := (IntKind.wrap IntKind.i64 (x.2.2.1 + t17.1))
 K (.inr (x.1, (x.2.1, (v18, ((List.set (List.replicate 1 ByteArray.empty) 0 t8.1), ())))))) else (none))) else (none)))) else (none)
def Q9.p0 (k : Nat) (x : Q9.p0.σ) : Option Q9.p0.τ := Q9.p0.r k x some
def Q9.p0.T : StT := ⟨.dat .str :: us 5 ++ .dat (.int .u64) :: .nils :: .dat (.int .i64) :: us 70, []⟩
def Q9.p0.os : List Out := [⟨(.exit 0), [.mask [0, 6, 7, 8], .auto 0], ⟨.dat .str :: us 5 ++ .dat (.int .u64) :: .nils :: .dat (.int .i64) :: us 70, []⟩⟩, ⟨.normal, [.mask [0, 6, 7, 8], .auto 0], ⟨.dat .str :: us 5 ++ .dat (.int .u64) :: .vsl 0 :: .dat (.int .i64) :: us 70, [.vec .str]⟩⟩]
abbrev Q9.l1.σ : Type := ByteArray × Int × Int × (List ByteArray) × Unit
abbrev Q9.l1.τ : Type := (ByteArray × Int × Int × (List ByteArray) × Unit)
def Q9.l1.r (k : Nat) {ρ : Type} (x : Q9.l1.σ) (kn : Q9.l1.σ → Option ρ) (ke : Q9.l1.τ → Option ρ) : Option ρ :=
 bif (decide (((0 : Int) ≤ x.2.2.1) ∧ ((x.2.2.1 ≤ (((ByteArray.size x.1) : Nat) : Int)) ∧ ((((ByteArray.size x.1) : Nat) : Int) ≤ (((ByteArray.size x.1) : Nat) : Int))))) then (let v24 : ByteArray := (ByteArray.extract x.1 (Int.toNat x.2.2.1) (Int.toNat (((ByteArray.size x.1) : Nat) : Int)))
 (Q0L k v24).bind fun t25 => (Q0B k (t25.1.1, (t25.1.2.1, (t25.1.2.2.1, ())))).bind fun t26 => let v27 : Int := (IntKind.wrap IntKind.i64 t26.1)
 (Q0w k (t26.2.1.1, (t26.2.1.2.1, (t26.2.1.2.2.1, ())))).bind fun t28 => (QF k v27 (t28.2.1.1, (t28.2.1.2.1, (t28.2.1.2.2.1, ())))).bind fun t29 => (QF k (4 : Int) (t29.2.1.1, (t29.2.1.2.1, (t29.2.1.2.2.1, ())))).bind fun t30 => (Q0s k (t30.2.1.1, (t30.2.1.2.1, (t30.2.1.2.2.1, ())))).bind fun t31 => bif (t31.1 != (0 : Int)) then (ke (x.1, (x.2.1, (x.2.2.1, (x.2.2.2.1, ()))))) else (let v32 : Int := (((List.length x.2.2.2.1) : Nat) : Int)
 (Q09 k x.2.1 (IntKind.wrap IntKind.u64 v32) t29.1).bind fun t33 => let v34 : ByteArray := t33.1
 let v35 : Int := t33.2.1
 bif (v35 != (0 : Int)) then (ke (x.1, (x.2.1, (x.2.2.1, (x.2.2.2.1, ()))))) else ((Q0P k (t31.2.1.1, (t31.2.1.2.1, (t31.2.1.2.2.1, ())))).bind fun t36 => let v37 : Int := (IntKind.wrap IntKind.i64 (x.2.2.1 + t36.1))
 bif (decide (((0 : Int) ≤ x.2.2.1) ∧ ((x.2.2.1 ≤ v37) ∧ (v37 ≤ (((ByteArray.size x.1) : Nat) : Int))))) then (let v38 : ByteArray := (ByteArray.extract x.1 (Int.toNat x.2.2.1) (Int.toNat v37))
 bif (!(Q1M v38 v34)) then (ke (x.1, (x.2.1, (x.2.2.1, (x.2.2.2.1, ()))))) else (bif (Nat.ble (((List.length x.2.2.2.1) + (List.length (List.set (List.replicate 1 ByteArray.empty) 0 t29.1))) * 16) 140737488355328) then ((Q0P k (t36.2.1.1, (t36.2.1.2.1, (t36.2.1.2.2.1, ())))).bind fun t39 => let v40 : Int := (IntKind.wrap IntKind.i64 (x.2.2.1 + t39.1))
 kn (x.1, (x.2.1, (v40, ((x.2.2.2.1 ++ (List.set (List.replicate 1 ByteArray.empty) 0 t29.1)), ()))))) else (none))) else (none)))) else (none)
def Q9.l1 (k : Nat) : Nat → Q9.l1.σ → Option Q9.l1.τ := Q1f (Q9.l1.r k)
def Q9.l1.T : StT := ⟨.dat .str :: us 5 ++ .dat (.int .u64) :: .vsl 0 :: .dat (.int .i64) :: us 70, [.vec .str]⟩
def Q9.l1.os : List Out := [⟨(.exit 0), [.mask [0, 6, 7, 8], .auto 0], ⟨.dat .str :: us 5 ++ .dat (.int .u64) :: .vsl 0 :: .dat (.int .i64) :: us 70, [.vec .str]⟩⟩]
abbrev Q9.τ : Type := (Int × Int × Int × Unit) ⊕ (Int × Int × Int × (List ByteArray) × Unit)
def Q9.c (k : Nat) {ρ : Type} (s : ByteArray) (K : Q9.τ → Option ρ) : Option ρ :=
  bif (decide ((((ByteArray.size s) : Nat) : Int) < (20 : Int))) then (K (.inl ((0 : Int), ((0 : Int), ((120 : Int), ()))))) else (bif (decide (((0 : Int) ≤ (8 : Int)) ∧ (((8 : Int) ≤ (20 : Int)) ∧ ((20 : Int) ≤ (((ByteArray.size s) : Nat) : Int))))) then ((Q0L k (ByteArray.extract s 8 20)).bind fun t0 => (Q0w k (t0.1.1, (t0.1.2.1, (t0.1.2.2.1, ())))).bind fun t1 => bif (decide (((0 : Int) ≤ (0 : Int)) ∧ (((0 : Int) ≤ (20 : Int)) ∧ ((20 : Int) ≤ (((ByteArray.size s) : Nat) : Int))))) then ((Q0p k t1.1).bind fun t2 => bif (!(Q1M (ByteArray.extract s 0 20) t2.1)) then (K (.inl ((0 : Int), ((0 : Int), ((120 : Int), ()))))) else ((Q9.p0 k (s, (t1.1, ((20 : Int), ())))).bind fun t19 => (match t19 with
 | .inl t20 => (let v21 : Int := (((ByteArray.size t20.1) : Nat) : Int)
  let v22 : Int := (IntKind.wrap IntKind.i64 (v21 - t20.2.2.1))
  K (.inl (t20.2.1, (v22, ((0 : Int), ())))))
 | .inr (t23) => ((Q9.l1 k k (t23.1, (t23.2.1, (t23.2.2.1, (t23.2.2.2.1, ()))))).bind fun t41 => let v42 : Int := (((ByteArray.size t41.1) : Nat) : Int)
  let v43 : Int := (IntKind.wrap IntKind.i64 (v42 - t41.2.2.1))
  K (.inr (t41.2.1, (v43, ((0 : Int), (t41.2.2.2.1, ()))))))))) else (none)) else (none))
def Q9 (k : Nat) (s : ByteArray) : Option Q9.τ := Q9.c k s some
def Q9.T : Q15 := ⟨[.dat .str], [], 0⟩
def Q9.os : List Out := [⟨.ret, [.auto 0], ⟨[.dat (.int .u64), .nils, .dat (.int .i64), .dat (.int .i64)], []⟩⟩, ⟨.ret, [.auto 0], ⟨[.dat (.int .u64), .vsl 0, .dat (.int .i64), .dat (.int .i64)], [.vec .str]⟩⟩]
def Q9.sem (k : Nat) : QS := Q17 Q9.T Q9.os fun x => Q9 k x.1
noncomputable def Q9.ctx (k : Nat) : Ctx := ⟨Try.prog, gam [(43, (Q0L.sem k)), (44, (Q0w.sem k)), (9, (Q0p.sem k)), (45, (Q0B.sem k)), (46, (QF.sem k)), (47, (Q0s.sem k)), (7, (Q09.sem k)), (48, (Q0P.sem k))]⟩
theorem Q9.gok (k : Nat) : ∀ f, Qu Try.prog f ((Q9.ctx k).Γ f) := (Qf (Q0L.sem_ok k) (Qf (Q0w.sem_ok k) (Qf (Q0p.sem_ok k) (Qf (Q0B.sem_ok k) (Qf (QF.sem_ok k) (Qf (Q0s.sem_ok k) (Qf (Q09.sem_ok k) (Qf (Q0P.sem_ok k) Q0e))))))))
theorem Q9.p0.is (k : Nat) : Q26 (Q9.ctx k) (Q0O (Func.code Try.f12) [1, 1, 1, 1, 1, 1, 0, 0, 0]) (.nil) Q9.p0.T Q9.p0.os (Q9.p0.r k) := by
 intro ρ x K; kernel_rfl
theorem Q9.p0.ok (k : Nat) : StOK 0 Try.prog (Q0O (Func.code Try.f12) [1, 1, 1, 1, 1, 1, 0, 0, 0]) (Q05 Q9.p0.T Q9.p0.os (Q9.p0 k)) :=
 Q1T (C := Q9.ctx k) (T := Q9.p0.T) (os := Q9.p0.os) (Q9.gok k) Try.mix (fun x K => Q9.p0.r k x K) Q2.nil (by kernel_rfl) (by kernel_rfl) (Q9.p0.is k)
theorem Q9.l1.round (k : Nat) : Q1j (Q9.ctx k) (Q0O (Func.code Try.f12) [1, 1, 1, 1, 1, 1, 0, 0, 0]) (.nil) Q9.l1.T [.mask [0, 6, 7, 8], .auto 0] Q9.l1.os (Q9.l1.r k) := by
 intro ρ x kn ke; kernel_rfl
theorem Q9.l1.ok (k : Nat) : StOK 0 Try.prog (.loop (Q0O (Func.code Try.f12) [1, 1, 1, 1, 1, 1, 0, 0, 0])) (Q05 Q9.l1.T Q9.l1.os (Q9.l1 k k)) :=
 Q1m (C := Q9.ctx k) (Q9.gok k) Try.mix Q2.nil (by kernel_rfl) (by kernel_rfl) (by kernel_rfl) (Q9.l1.round k) k
theorem Q9.l1.pok (k : Nat) : StOK 0 Try.prog (.loop (Q0O (Func.code Try.f12) [1, 1, 1, 1, 1, 1, 0, 0, 0])) (Q7n (Q05 Q9.p0.T Q9.p0.os (Q9.p0 k)) [.mask [0, 6, 7, 8], .auto 0] (Q05 Q9.l1.T Q9.l1.os (Q9.l1 k k))) :=
 Qdx (C := Q9.ctx k) (Q9.gok k) Try.mix (Q9.p0.ok k) (by kernel_rfl) Q2.nil (by kernel_rfl) (by kernel_rfl) (by kernel_rfl) (Q9.l1.round k) k
def Q9.ann (k : Nat) : Ann := .node [] none (.nil) (.node [] none (.nil) (.node [] none (.nil) (.node [] none (.nil) (.node [] none (.nil) (.node [] none (.nil) (.node [] none (.node [] none (.node [.mask [0, 6, 7, 8], .auto 0] (some (Q7n (Q05 Q9.p0.T Q9.p0.os (Q9.p0 k)) [.mask [0, 6, 7, 8], .auto 0] (Q05 Q9.l1.T Q9.l1.os (Q9.l1 k k)))) .nil .nil) (.nil)) (.nil)))))))
theorem Q9.body (k : Nat) : Q18 (Q9.ctx k) Try.f12 (Func.code Try.f12) (Q9.ann k) Q9.T Q9.os (fun x K => Q9.c k x.1 K) := by
 intro ρ x K; kernel_rfl
theorem Q9.sem_ok (k : Nat) : Qu Try.prog 12 (Q9.sem k) :=
 Q0u (C := Q9.ctx k) (Q9.gok k) Try.mix (c := Func.code Try.f12) (ann := Q9.ann k) (T := Q9.T) (os := Q9.os) (fun x K => Q9.c k x.1 K) Try.func12 (by kernel_rfl) (by kernel_rfl) (Q2.seq Q2.nil (Q2.seq Q2.nil (Q2.seq Q2.nil (Q2.seq Q2.nil (Q2.seq Q2.nil (Q2.seq Q2.nil (Q2.seq (Q2.block (Q2.loop (by kernel_rfl) (Q9.l1.pok k))) Q2.nil))))))) (Q9.body k) (by kernel_rfl) (by kernel_rfl) (by kernel_rfl)
abbrev Q0z.τ : Type := QeX ⊕ QeR 
def Q0z.c (k : Nat) {ρ : Type} (name : ByteArray) (b0 : Qf4) (b1 : Qf8) (b2 : Qf8) (K : Q0z.τ → Option ρ) : Option ρ :=
  (Q0f k name ((), ((), ((), (b0.2.2.2.1, ((), (b0.2.2.2.2.2.1, ())))))) b1 b2).bind fun t0 => let v1 : ByteArray := t0.1
  let v2 : Int := t0.2.1
  bif (v2 != (0 : Int)) then (K (.inl (v2, (((), ((), ((), (t0.2.2.1.2.2.2.1, ((), (t0.2.2.1.2.2.2.2.2.1, ())))))), (t0.2.2.2.1, (t0.2.2.2.2.1, ())))))) else ((Q0v k ((3 : Int), (name, ((⟨(List.toArray [])⟩ : ByteArray), ((0 : Int), ((⟨(List.toArray [])⟩ : ByteArray), ()))))) ((), ((), ((), (t0.2.2.1.2.2.2.1, ((), (t0.2.2.1.2.2.2.2.2.1, ())))))) t0.2.2.2.1 t0.2.2.2.2.1).bind fun t3 => (match t3 with
 | .inl t4 => (K (.inl (t4.1, (((), ((), ((), (t4.2.1.2.2.2.1, ((), (t4.2.1.2.2.2.2.2.1, ())))))), (t4.2.2.1, (t4.2.2.2.1, ()))))))
 | .inr (t5) => (K (.inr (t5.1, (((), ((), ((), (t5.2.1.2.2.2.1, ((), (t5.2.1.2.2.2.2.2.1, ())))))), (t5.2.2.1, (t5.2.2.2.1, (t5.2.2.2.2.1, ())))))))))
def Q0z (k : Nat) (name : ByteArray) (b0 : Qf4) (b1 : Qf8) (b2 : Qf8) : Option Q0z.τ := Q0z.c k name b0 b1 b2 some
def Q0z.T : Q15 := ⟨[.ptr 0 [], .dat .str], [.pair (.mp 1) (.pair (.mp 2) (.pair (.nils) (.pair (.dat (.int .i64)) (.pair (.nils) (.dat Qf9))))), .mpd .str .str, .mpd .str .str], 3⟩
def Q0z.os : List Out := [⟨.ret, [.freeze (.slot 0), .auto 3], ⟨[.dat (.int .i64)], [.pair (.mp 1) (.pair (.mp 2) (.pair (.nils) (.pair (.dat (.int .i64)) (.pair (.nils) (.dat Qf9))))), .mpd .str .str, .mpd .str .str]⟩⟩, ⟨.ret, [.freeze (.slot 0), .auto 3], ⟨[.dat (.int .i64)], [.pair (.mp 1) (.pair (.mp 2) (.pair (.vsl 3) (.pair (.dat (.int .i64)) (.pair (.nils) (.dat Qf9))))), .mpd .str .str, .mpd .str .str, .vec QeZ]⟩⟩]
def Q0z.sem (k : Nat) : QS := Q17 Q0z.T Q0z.os fun x => Q0z k x.1 x.2.1 x.2.2.1 x.2.2.2.1
noncomputable def Q0z.ctx (k : Nat) : Ctx := ⟨Try.prog, gam [(73, (Q0f.sem k)), (74, (Q0v.sem k))]⟩
theorem Q0z.gok (k : Nat) : ∀ f, Qu Try.prog f ((Q0z.ctx k).Γ f) := (Qf (Q0f.sem_ok k) (Qf (Q0v.sem_ok k) Q0e))
def Q0z.ann (k : Nat) : Ann := .nil
theorem Q0z.body (k : Nat) : Q18 (Q0z.ctx k) Try.f52 (Func.code Try.f52) (Q0z.ann k) Q0z.T Q0z.os (fun x K => Q0z.c k x.1 x.2.1 x.2.2.1 x.2.2.2.1 K) := by
 intro ρ x K; kernel_rfl
theorem Q0z.sem_ok (k : Nat) : Qu Try.prog 52 (Q0z.sem k) :=
 Q0u (C := Q0z.ctx k) (Q0z.gok k) Try.mix (c := Func.code Try.f52) (ann := Q0z.ann k) (T := Q0z.T) (os := Q0z.os) (fun x K => Q0z.c k x.1 x.2.1 x.2.2.1 x.2.2.2.1 K) Try.func52 (by kernel_rfl) (by kernel_rfl) Q2.nil (Q0z.body k) (by kernel_rfl) (by kernel_rfl) (by kernel_rfl)
abbrev Q0N.τ : Type := (Int × Int × Qf4 × Qf8 × Qf8 × Unit)
def Q0N.c (k : Nat) {ρ : Type} (name : ByteArray) (b0 : Qf4) (b1 : Qf8) (b2 : Qf8) (K : Q0N.τ → Option ρ) : Option ρ :=
 (Q0f k name ((), ((), ((), (b0.2.2.2.1, ((), (b0.2.2.2.2.2.1, ())))))) b1 b2).bind fun t0 => let v1 : ByteArray := t0.1
 let v2 : Int := t0.2.1
 K ((((ByteArray.size v1) : Nat) : Int), (v2, (((), ((), ((), (t0.2.2.1.2.2.2.1, ((), (t0.2.2.1.2.2.2.2.2.1, ())))))), (t0.2.2.2.1, (t0.2.2.2.2.1, ())))))
def Q0N (k : Nat) (name : ByteArray) (b0 : Qf4) (b1 : Qf8) (b2 : Qf8) : Option Q0N.τ := Q0N.c k name b0 b1 b2 some
def Q0N.T : Q15 := ⟨[.ptr 0 [], .dat .str], [.pair (.mp 1) (.pair (.mp 2) (.pair (.nils) (.pair (.dat (.int .i64)) (.pair (.nils) (.dat Qf9))))), .mpd .str .str, .mpd .str .str], 3⟩
def Q0N.os : List Out := [⟨.ret, [.freeze (.slot 0), .freeze (.slot 1), .auto 3], ⟨[.dat (.int .i64), .dat (.int .i64)], [.pair (.mp 1) (.pair (.mp 2) (.pair (.nils) (.pair (.dat (.int .i64)) (.pair (.nils) (.dat Qf9))))), .mpd .str .str, .mpd .str .str]⟩⟩]
def Q0N.sem (k : Nat) : QS := Q17 Q0N.T Q0N.os fun x => Q0N k x.1 x.2.1 x.2.2.1 x.2.2.2.1
noncomputable def Q0N.ctx (k : Nat) : Ctx := ⟨Try.prog, gam [(73, (Q0f.sem k))]⟩
theorem Q0N.gok (k : Nat) : ∀ f, Qu Try.prog f ((Q0N.ctx k).Γ f) := (Qf (Q0f.sem_ok k) Q0e)
def Q0N.ann (k : Nat) : Ann := .nil
theorem Q0N.body (k : Nat) : Q18 (Q0N.ctx k) Try.f86 (Func.code Try.f86) (Q0N.ann k) Q0N.T Q0N.os (fun x K => Q0N.c k x.1 x.2.1 x.2.2.1 x.2.2.2.1 K) := by
 intro ρ x K; kernel_rfl
theorem Q0N.sem_ok (k : Nat) : Qu Try.prog 86 (Q0N.sem k) :=
 Q0u (C := Q0N.ctx k) (Q0N.gok k) Try.mix (c := Func.code Try.f86) (ann := Q0N.ann k) (T := Q0N.T) (os := Q0N.os) (fun x K => Q0N.c k x.1 x.2.1 x.2.2.1 x.2.2.2.1 K) Try.func86 (by kernel_rfl) (by kernel_rfl) Q2.nil (Q0N.body k) (by kernel_rfl) (by kernel_rfl) (by kernel_rfl)
abbrev Q0D.τ : Type := QeX ⊕ QeR 
def Q0D.c (k : Nat) {ρ : Type} (name : ByteArray) (n : Int) (b0 : Qf4) (b1 : Qf8) (b2 : Qf8) (K : Q0D.τ → Option ρ) : Option ρ :=
  (Q0f k name ((), ((), ((), (b0.2.2.2.1, ((), (b0.2.2.2.2.2.1, ())))))) b1 b2).bind fun t0 => let v1 : ByteArray := t0.1
  let v2 : Int := t0.2.1
  bif (v2 != (0 : Int)) then (K (.inl (v2, (((), ((), ((), (t0.2.2.1.2.2.2.1, ((), (t0.2.2.1.2.2.2.2.2.1, ())))))), (t0.2.2.2.1, (t0.2.2.2.2.1, ())))))) else (bif (decide (n < (0 : Int))) then (K (.inl ((1 : Int), (((), ((), ((), (t0.2.2.1.2.2.2.1, ((), (t0.2.2.1.2.2.2.2.2.1, ())))))), (t0.2.2.2.1, (t0.2.2.2.2.1, ())))))) else (bif (decide (n > (((ByteArray.size v1) : Nat) : Int))) then (K (.inl ((1 : Int), (((), ((), ((), (t0.2.2.1.2.2.2.1, ((), (t0.2.2.1.2.2.2.2.2.1, ())))))), (t0.2.2.2.1, (t0.2.2.2.2.1, ())))))) else ((Q0v k ((1 : Int), (name, ((⟨(List.toArray [])⟩ : ByteArray), (n, ((⟨(List.toArray [])⟩ : ByteArray), ()))))) ((), ((), ((), (t0.2.2.1.2.2.2.1, ((), (t0.2.2.1.2.2.2.2.2.1, ())))))) t0.2.2.2.1 t0.2.2.2.2.1).bind fun t3 => (match t3 with
 | .inl t4 => (K (.inl (t4.1, (((), ((), ((), (t4.2.1.2.2.2.1, ((), (t4.2.1.2.2.2.2.2.1, ())))))), (t4.2.2.1, (t4.2.2.2.1, ()))))))
 | .inr (t5) => (K (.inr (t5.1, (((), ((), ((), (t5.2.1.2.2.2.1, ((), (t5.2.1.2.2.2.2.2.1, ())))))), (t5.2.2.1, (t5.2.2.2.1, (t5.2.2.2.2.1, ())))))))))))
def Q0D (k : Nat) (name : ByteArray) (n : Int) (b0 : Qf4) (b1 : Qf8) (b2 : Qf8) : Option Q0D.τ := Q0D.c k name n b0 b1 b2 some
def Q0D.T : Q15 := ⟨[.ptr 0 [], .dat .str, .dat (.int .i64)], [.pair (.mp 1) (.pair (.mp 2) (.pair (.nils) (.pair (.dat (.int .i64)) (.pair (.nils) (.dat Qf9))))), .mpd .str .str, .mpd .str .str], 3⟩
def Q0D.os : List Out := [⟨.ret, [.freeze (.slot 0), .auto 3], ⟨[.dat (.int .i64)], [.pair (.mp 1) (.pair (.mp 2) (.pair (.nils) (.pair (.dat (.int .i64)) (.pair (.nils) (.dat Qf9))))), .mpd .str .str, .mpd .str .str]⟩⟩, ⟨.ret, [.freeze (.slot 0), .auto 3], ⟨[.dat (.int .i64)], [.pair (.mp 1) (.pair (.mp 2) (.pair (.vsl 3) (.pair (.dat (.int .i64)) (.pair (.nils) (.dat Qf9))))), .mpd .str .str, .mpd .str .str, .vec QeZ]⟩⟩]
def Q0D.sem (k : Nat) : QS := Q17 Q0D.T Q0D.os fun x => Q0D k x.1 x.2.1 x.2.2.1 x.2.2.2.1 x.2.2.2.2.1
noncomputable def Q0D.ctx (k : Nat) : Ctx := ⟨Try.prog, gam [(73, (Q0f.sem k)), (74, (Q0v.sem k))]⟩
theorem Q0D.gok (k : Nat) : ∀ f, Qu Try.prog f ((Q0D.ctx k).Γ f) := (Qf (Q0f.sem_ok k) (Qf (Q0v.sem_ok k) Q0e))
def Q0D.ann (k : Nat) : Ann := .nil
theorem Q0D.body (k : Nat) : Q18 (Q0D.ctx k) Try.f55 (Func.code Try.f55) (Q0D.ann k) Q0D.T Q0D.os (fun x K => Q0D.c k x.1 x.2.1 x.2.2.1 x.2.2.2.1 x.2.2.2.2.1 K) := by
 intro ρ x K; kernel_rfl
theorem Q0D.sem_ok (k : Nat) : Qu Try.prog 55 (Q0D.sem k) :=
 Q0u (C := Q0D.ctx k) (Q0D.gok k) Try.mix (c := Func.code Try.f55) (ann := Q0D.ann k) (T := Q0D.T) (os := Q0D.os) (fun x K => Q0D.c k x.1 x.2.1 x.2.2.1 x.2.2.2.1 x.2.2.2.2.1 K) Try.func55 (by kernel_rfl) (by kernel_rfl) Q2.nil (Q0D.body k) (by kernel_rfl) (by kernel_rfl) (by kernel_rfl)
abbrev Qa.p0.σ : Type := Qf4 × Qf8 × Qf8 × Unit
abbrev Qa.p0.τ : Type := QeX ⊕ QeY 
def Qa.p0.r (k : Nat) {ρ : Type} (x : Qa.p0.σ) (K : Qa.p0.τ → Option ρ) : Option ρ :=
 (Q0H k ((), ((), ((), (x.1.2.2.2.1, ((), (x.1.2.2.2.2.2.1, ())))))) x.2.1 x.2.2.1).bind fun t0 => bif t0.1 then (K (.inl ((7 : Int), (((), ((), ((), (t0.2.1.2.2.2.1, ((), (t0.2.1.2.2.2.2.2.1, ())))))), (t0.2.2.1, (t0.2.2.2.1, ())))))) else ((Qj k true ((), ((), ((), (t0.2.1.2.2.2.1, ((), (t0.2.1.2.2.2.2.2.1, ())))))) t0.2.2.1 t0.2.2.2.1).bind fun t1 => bif t1.1 then (K (.inl ((7 : Int), (((), ((), ((), (t1.2.1.2.2.2.1, ((), (t1.2.1.2.2.2.2.2.1, ())))))), (t1.2.2.1, (t1.2.2.2.1, ())))))) else (K (.inr (((), ((), ((), (t1.2.1.2.2.2.1, ((), (t1.2.1.2.2.2.2.2.1, ())))))), (t1.2.2.1, (t1.2.2.2.1, ()))))))
def Qa.p0 (k : Nat) (x : Qa.p0.σ) : Option Qa.p0.τ := Qa.p0.r k x some
def Qa.p0.T : StT := ⟨.ptr 0 [] :: us 29, [.pair (.mp 1) (.pair (.mp 2) (.pair (.nils) (.pair (.dat (.int .i64)) (.pair (.nils) (.dat Qf9))))), .mpd .str .str, .mpd .str .str]⟩
def Qa.p0.os : List Out := [⟨.ret, [.mask [2], .auto 3], ⟨us 2 ++ .dat (.int .i64) :: us 27, [.pair (.mp 1) (.pair (.mp 2) (.pair (.nils) (.pair (.dat (.int .i64)) (.pair (.nils) (.dat Qf9))))), .mpd .str .str, .mpd .str .str]⟩⟩, ⟨.normal, [.mask [0], .auto 3], ⟨.ptr 0 [] :: us 29, [.pair (.mp 1) (.pair (.mp 2) (.pair (.nils) (.pair (.dat (.int .i64)) (.pair (.nils) (.dat Qf9))))), .mpd .str .str, .mpd .str .str]⟩⟩]
abbrev Qa.l1.σ : Type := Int × Int × Qf4 × Qf8 × Qf8 × Unit
abbrev Qa.l1.τ : Type := QeY 
def Qa.l1.r (k : Nat) {ρ : Type} (x : Qa.l1.σ) (kn : Qa.l1.σ → Option ρ) (ke : Qa.l1.τ → Option ρ) : Option ρ :=
 bif (decide (x.2.1 < x.1)) then (none) else (ke (((), ((), ((), (x.2.2.1.2.2.2.1, ((), (x.2.2.1.2.2.2.2.2.1, ())))))), (x.2.2.2.1, (x.2.2.2.2.1, ()))))
def Qa.l1 (k : Nat) : Nat → Qa.l1.σ → Option Qa.l1.τ := Q1f (Qa.l1.r k)
def Qa.l1.T : StT := ⟨.ptr 0 [] :: us 13 ++ .nils :: .dat (.int .i64) :: .dat (.int .i64) :: us 13, [.pair (.mp 1) (.pair (.mp 2) (.pair (.nils) (.pair (.dat (.int .i64)) (.pair (.nils) (.dat Qf9))))), .mpd .str .str, .mpd .str .str]⟩
def Qa.l1.os : List Out := [⟨(.exit 0), [.mask [0], .auto 3], ⟨.ptr 0 [] :: us 29, [.pair (.mp 1) (.pair (.mp 2) (.pair (.nils) (.pair (.dat (.int .i64)) (.pair (.nils) (.dat Qf9))))), .mpd .str .str, .mpd .str .str]⟩⟩]
abbrev Qa.τ : Type := QeX 
def Qa.c (k : Nat) {ρ : Type} (b0 : Qf4) (b1 : Qf8) (b2 : Qf8) (K : Qa.τ → Option ρ) : Option ρ :=
  (Qa.p0 k (((), ((), ((), (b0.2.2.2.1, ((), (b0.2.2.2.2.2.1, ())))))), (b1, (b2, ())))).bind fun t2 => (match t2 with
 | .inl t3 => (K (t3.1, (((), ((), ((), (t3.2.1.2.2.2.1, ((), (t3.2.1.2.2.2.2.2.1, ())))))), (t3.2.2.1, (t3.2.2.2.1, ())))))
 | .inr (t4) => ((Qa.l1 k k ((0 : Int), ((0 : Int), (((), ((), ((), (t4.1.2.2.2.1, ((), (t4.1.2.2.2.2.2.1, ())))))), (t4.2.1, (t4.2.2.1, ())))))).bind fun t5 => K ((0 : Int), (((), ((), ((), (t5.1.2.2.2.1, ((), (t5.1.2.2.2.2.2.1, ())))))), (t5.2.1, (t5.2.2.1, ()))))))
def Qa (k : Nat) (b0 : Qf4) (b1 : Qf8) (b2 : Qf8) : Option Qa.τ := Qa.c k b0 b1 b2 some
def Qa.T : Q15 := ⟨[.ptr 0 []], [.pair (.mp 1) (.pair (.mp 2) (.pair (.nils) (.pair (.dat (.int .i64)) (.pair (.nils) (.dat Qf9))))), .mpd .str .str, .mpd .str .str], 3⟩
def Qa.os : List Out := [⟨.ret, [.freeze (.slot 0), .auto 3], ⟨[.dat (.int .i64)], [.pair (.mp 1) (.pair (.mp 2) (.pair (.nils) (.pair (.dat (.int .i64)) (.pair (.nils) (.dat Qf9))))), .mpd .str .str, .mpd .str .str]⟩⟩]
def Qa.sem (k : Nat) : QS := Q17 Qa.T Qa.os fun x => Qa k x.1 x.2.1 x.2.2.1
noncomputable def Qa.ctx (k : Nat) : Ctx := ⟨Try.prog, gam [(30, (Q0H.sem k)), (76, (Qj.sem k))]⟩
theorem Qa.gok (k : Nat) : ∀ f, Qu Try.prog f ((Qa.ctx k).Γ f) := (Qf (Q0H.sem_ok k) (Qf (Qj.sem_ok k) Q0e))
theorem Qa.p0.is (k : Nat) : Q26 (Qa.ctx k) (Q0O (Func.code Try.f56) [1, 0]) (.nil) Qa.p0.T Qa.p0.os (Qa.p0.r k) := by
 intro ρ x K; kernel_rfl
theorem Qa.p0.ok (k : Nat) : StOK 3 Try.prog (Q0O (Func.code Try.f56) [1, 0]) (Q05 Qa.p0.T Qa.p0.os (Qa.p0 k)) :=
 Q1T (C := Qa.ctx k) (T := Qa.p0.T) (os := Qa.p0.os) (Qa.gok k) Try.mix (fun x K => Qa.p0.r k x K) Q2.nil (by kernel_rfl) (by kernel_rfl) (Qa.p0.is k)
theorem Qa.l1.round (k : Nat) : Q1j (Qa.ctx k) (Q0O (Func.code Try.f56) [1, 1, 0, 1, 0, 0]) (.nil) Qa.l1.T [] Qa.l1.os (Qa.l1.r k) := by
 intro ρ x kn ke; kernel_rfl
theorem Qa.l1.ok (k : Nat) : StOK 3 Try.prog (.loop (Q0O (Func.code Try.f56) [1, 1, 0, 1, 0, 0])) (Q05 Qa.l1.T Qa.l1.os (Qa.l1 k k)) :=
 Q1m (C := Qa.ctx k) (Qa.gok k) Try.mix Q2.nil (by kernel_rfl) (by kernel_rfl) (by kernel_rfl) (Qa.l1.round k) k
def Qa.ann (k : Nat) : Ann := .node [] none (.nil) (.node [] none (.node [.mask [0], .auto 3] (some (Q05 Qa.p0.T Qa.p0.os (Qa.p0 k))) .nil .nil) (.node [] none (.node [] none (.nil) (.node [] none (.node [.mask [0, 14, 15, 16], .auto 3] (some (Q05 Qa.l1.T Qa.l1.os (Qa.l1 k k))) .nil .nil) (.nil))) (.nil)))
theorem Qa.body (k : Nat) : Q18 (Qa.ctx k) Try.f56 (Func.code Try.f56) (Qa.ann k) Qa.T Qa.os (fun x K => Qa.c k x.1 x.2.1 x.2.2.1 K) := by
 intro ρ x K; kernel_rfl
theorem Qa.sem_ok (k : Nat) : Qu Try.prog 56 (Qa.sem k) :=
 Q0u (C := Qa.ctx k) (Qa.gok k) Try.mix (c := Func.code Try.f56) (ann := Qa.ann k) (T := Qa.T) (os := Qa.os) (fun x K => Qa.c k x.1 x.2.1 x.2.2.1 K) Try.func56 (by kernel_rfl) (by kernel_rfl) (Q2.seq Q2.nil (Q2.seq (Q2.loop (by kernel_rfl) (Qa.p0.ok k)) (Q2.seq (Q2.seq Q2.nil (Q2.block (Q2.loop (by kernel_rfl) (Qa.l1.ok k)))) Q2.nil))) (Qa.body k) (by kernel_rfl) (by kernel_rfl) (by kernel_rfl)
abbrev Q0q.τ : Type := QeQ 
def Q0q.c (k : Nat) {ρ : Type} (b0 : Qf4) (b1 : Qf8) (b2 : Qf8) (b3 : Qf1) (K : Q0q.τ → Option ρ) : Option ρ :=
 K (b0.2.2.2.2.2.1, (((), ((), ((), (b0.2.2.2.1, ((), (b0.2.2.2.2.2.1, ())))))), (b1, (b2, (b3, ())))))
def Q0q (k : Nat) (b0 : Qf4) (b1 : Qf8) (b2 : Qf8) (b3 : Qf1) : Option Q0q.τ := Q0q.c k b0 b1 b2 b3 some
def Q0q.T : Q15 := ⟨[.ptr 0 []], [.pair (.mp 1) (.pair (.mp 2) (.pair (.vsl 3) (.pair (.dat (.int .i64)) (.pair (.nils) (.dat Qf9))))), .mpd .str .str, .mpd .str .str, .vec QeZ], 3⟩
def Q0q.os : List Out := [⟨.ret, [.freeze (.slot 0), .auto 3], ⟨[.dat .bool], [.pair (.mp 1) (.pair (.mp 2) (.pair (.vsl 3) (.pair (.dat (.int .i64)) (.pair (.nils) (.dat Qf9))))), .mpd .str .str, .mpd .str .str, .vec QeZ]⟩⟩]
def Q0q.sem (k : Nat) : QS := Q17 Q0q.T Q0q.os fun x => Q0q k x.1 x.2.1 x.2.2.1 x.2.2.2.1
noncomputable def Q0q.ctx (k : Nat) : Ctx := ⟨Try.prog, gam []⟩
theorem Q0q.gok (k : Nat) : ∀ f, Qu Try.prog f ((Q0q.ctx k).Γ f) := Q0e
def Q0q.ann (k : Nat) : Ann := .nil
theorem Q0q.body (k : Nat) : Q18 (Q0q.ctx k) Try.f30 (Func.code Try.f30) (Q0q.ann k) Q0q.T Q0q.os (fun x K => Q0q.c k x.1 x.2.1 x.2.2.1 x.2.2.2.1 K) := by
 intro ρ x K; kernel_rfl
theorem Q0q.sem_ok (k : Nat) : Qu Try.prog 30 (Q0q.sem k) :=
 Q0u (C := Q0q.ctx k) (Q0q.gok k) Try.mix (c := Func.code Try.f30) (ann := Q0q.ann k) (T := Q0q.T) (os := Q0q.os) (fun x K => Q0q.c k x.1 x.2.1 x.2.2.1 x.2.2.2.1 K) Try.func30 (by kernel_rfl) (by kernel_rfl) Q2.nil (Q0q.body k) (by kernel_rfl) (by kernel_rfl) (by kernel_rfl)
abbrev Qc.l0.σ : Type := Bool × Int × Int × Qf4 × Qf8 × Qf8 × Qf1 × Unit
abbrev Qc.l0.τ : Type := QeS 
def Qc.l0.r (k : Nat) {ρ : Type} (x : Qc.l0.σ) (kn : Qc.l0.σ → Option ρ) (ke : Qc.l0.τ → Option ρ) : Option ρ :=
 bif (decide (x.2.2.1 < x.2.1)) then (none) else (ke (((), ((), ((), (x.2.2.2.1.2.2.2.1, ((), (x.2.2.2.1.2.2.2.2.2.1, ())))))), (x.2.2.2.2.1, (x.2.2.2.2.2.1, (x.2.2.2.2.2.2.1, ())))))
def Qc.l0 (k : Nat) : Nat → Qc.l0.σ → Option Qc.l0.τ := Q1f (Qc.l0.r k)
def Qc.l0.T : StT := ⟨.ptr 0 [] :: .dat .bool :: us 8 ++ .nils :: .dat (.int .i64) :: .dat (.int .i64) :: us 36, [.pair (.mp 1) (.pair (.mp 2) (.pair (.vsl 3) (.pair (.dat (.int .i64)) (.pair (.nils) (.dat Qf9))))), .mpd .str .str, .mpd .str .str, .vec QeZ]⟩
def Qc.l0.os : List Out := [⟨(.exit 0), [.mask [], .auto 3], ⟨us 49, [.pair (.mp 1) (.pair (.mp 2) (.pair (.vsl 3) (.pair (.dat (.int .i64)) (.pair (.nils) (.dat Qf9))))), .mpd .str .str, .mpd .str .str, .vec QeZ]⟩⟩]
abbrev Qc.τ : Type := QeQ 
def Qc.c (k : Nat) {ρ : Type} (sync : Bool) (b0 : Qf4) (b1 : Qf8) (b2 : Qf8) (b3 : Qf1) (K : Qc.τ → Option ρ) : Option ρ :=
 (Qc.l0 k k (sync, ((0 : Int), ((0 : Int), (((), ((), ((), (b0.2.2.2.1, ((), (b0.2.2.2.2.2.1, ())))))), (b1, (b2, (b3, ())))))))).bind fun t0 => K (false, (((), ((), ((), (t0.1.2.2.2.1, ((), (t0.1.2.2.2.2.2.1, ())))))), (t0.2.1, (t0.2.2.1, (t0.2.2.2.1, ())))))
def Qc (k : Nat) (sync : Bool) (b0 : Qf4) (b1 : Qf8) (b2 : Qf8) (b3 : Qf1) : Option Qc.τ := Qc.c k sync b0 b1 b2 b3 some
def Qc.T : Q15 := ⟨[.ptr 0 [], .dat .bool], [.pair (.mp 1) (.pair (.mp 2) (.pair (.vsl 3) (.pair (.dat (.int .i64)) (.pair (.nils) (.dat Qf9))))), .mpd .str .str, .mpd .str .str, .vec QeZ], 3⟩
def Qc.os : List Out := [⟨.ret, [.freeze (.slot 0), .auto 3], ⟨[.dat .bool], [.pair (.mp 1) (.pair (.mp 2) (.pair (.vsl 3) (.pair (.dat (.int .i64)) (.pair (.nils) (.dat Qf9))))), .mpd .str .str, .mpd .str .str, .vec QeZ]⟩⟩]
def Qc.sem (k : Nat) : QS := Q17 Qc.T Qc.os fun x => Qc k x.1 x.2.1 x.2.2.1 x.2.2.2.1 x.2.2.2.2.1
noncomputable def Qc.ctx (k : Nat) : Ctx := ⟨Try.prog, gam []⟩
theorem Qc.gok (k : Nat) : ∀ f, Qu Try.prog f ((Qc.ctx k).Γ f) := Q0e
theorem Qc.l0.round (k : Nat) : Q1j (Qc.ctx k) (Q0O (Func.code Try.f76) [1, 0, 1, 0, 0]) (.nil) Qc.l0.T [] Qc.l0.os (Qc.l0.r k) := by
 intro ρ x kn ke; kernel_rfl
theorem Qc.l0.ok (k : Nat) : StOK 3 Try.prog (.loop (Q0O (Func.code Try.f76) [1, 0, 1, 0, 0])) (Q05 Qc.l0.T Qc.l0.os (Qc.l0 k k)) :=
 Q1m (C := Qc.ctx k) (Qc.gok k) Try.mix Q2.nil (by kernel_rfl) (by kernel_rfl) (by kernel_rfl) (Qc.l0.round k) k
def Qc.ann (k : Nat) : Ann := .node [] none (.nil) (.node [] none (.node [] none (.nil) (.node [] none (.node [.mask [0, 1, 10, 11, 12], .auto 3] (some (Q05 Qc.l0.T Qc.l0.os (Qc.l0 k k))) .nil .nil) (.nil))) (.nil))
theorem Qc.body (k : Nat) : Q18 (Qc.ctx k) Try.f76 (Func.code Try.f76) (Qc.ann k) Qc.T Qc.os (fun x K => Qc.c k x.1 x.2.1 x.2.2.1 x.2.2.2.1 x.2.2.2.2.1 K) := by
 intro ρ x K; kernel_rfl
theorem Qc.sem_ok (k : Nat) : Qu Try.prog 76 (Qc.sem k) :=
 Q0u (C := Qc.ctx k) (Qc.gok k) Try.mix (c := Func.code Try.f76) (ann := Qc.ann k) (T := Qc.T) (os := Qc.os) (fun x K => Qc.c k x.1 x.2.1 x.2.2.1 x.2.2.2.1 x.2.2.2.2.1 K) Try.func76 (by kernel_rfl) (by kernel_rfl) (Q2.seq Q2.nil (Q2.seq (Q2.seq Q2.nil (Q2.block (Q2.loop (by kernel_rfl) (Qc.l0.ok k)))) Q2.nil)) (Qc.body k) (by kernel_rfl) (by kernel_rfl) (by kernel_rfl)
abbrev Q4.p0.σ : Type := Qf4 × Qf8 × Qf8 × Qf1 × Unit
abbrev Q4.p0.τ : Type := QeR ⊕ QeS 
def Q4.p0.r (k : Nat) {ρ : Type} (x : Q4.p0.σ) (K : Q4.p0.τ → Option ρ) : Option ρ :=
 (Q0q k ((), ((), ((), (x.1.2.2.2.1, ((), (x.1.2.2.2.2.2.1, ())))))) x.2.1 x.2.2.1 x.2.2.2.1).bind fun t0 => bif t0.1 then (K (.inl ((7 : Int), (((), ((), ((), (t0.2.1.2.2.2.1, ((), (t0.2.1.2.2.2.2.2.1, ())))))), (t0.2.2.1, (t0.2.2.2.1, (t0.2.2.2.2.1, ()))))))) else ((Qc k true ((), ((), ((), (t0.2.1.2.2.2.1, ((), (t0.2.1.2.2.2.2.2.1, ())))))) t0.2.2.1 t0.2.2.2.1 t0.2.2.2.2.1).bind fun t1 => bif t1.1 then (K (.inl ((7 : Int), (((), ((), ((), (t1.2.1.2.2.2.1, ((), (t1.2.1.2.2.2.2.2.1, ())))))), (t1.2.2.1, (t1.2.2.2.1, (t1.2.2.2.2.1, ()))))))) else (K (.inr (((), ((), ((), (t1.2.1.2.2.2.1, ((), (t1.2.1.2.2.2.2.2.1, ())))))), (t1.2.2.1, (t1.2.2.2.1, (t1.2.2.2.2.1, ())))))))
def Q4.p0 (k : Nat) (x : Q4.p0.σ) : Option Q4.p0.τ := Q4.p0.r k x some
def Q4.p0.T : StT := ⟨.ptr 0 [] :: us 29, [.pair (.mp 1) (.pair (.mp 2) (.pair (.vsl 3) (.pair (.dat (.int .i64)) (.pair (.nils) (.dat Qf9))))), .mpd .str .str, .mpd .str .str, .vec QeZ]⟩
def Q4.p0.os : List Out := [⟨.ret, [.mask [2], .auto 3], ⟨us 2 ++ .dat (.int .i64) :: us 27, [.pair (.mp 1) (.pair (.mp 2) (.pair (.vsl 3) (.pair (.dat (.int .i64)) (.pair (.nils) (.dat Qf9))))), .mpd .str .str, .mpd .str .str, .vec QeZ]⟩⟩, ⟨.normal, [.mask [0], .auto 3], ⟨.ptr 0 [] :: us 29, [.pair (.mp 1) (.pair (.mp 2) (.pair (.vsl 3) (.pair (.dat (.int .i64)) (.pair (.nils) (.dat Qf9))))), .mpd .str .str, .mpd .str .str, .vec QeZ]⟩⟩]
abbrev Q4.l1.σ : Type := Int × Int × Qf4 × Qf8 × Qf8 × Qf1 × Unit
abbrev Q4.l1.τ : Type := QeS 
def Q4.l1.r (k : Nat) {ρ : Type} (x : Q4.l1.σ) (kn : Q4.l1.σ → Option ρ) (ke : Q4.l1.τ → Option ρ) : Option ρ :=
 bif (decide (x.2.1 < x.1)) then (bif (decide (((0 : Int) ≤ x.2.1) ∧ (x.2.1 < (((List.length x.2.2.2.2.2.1) : Nat) : Int)))) then ((Q0J k ((List.getD x.2.2.2.2.2.1 (Int.toNat x.2.1) ((0 : Int), (ByteArray.empty, (ByteArray.empty, ((0 : Int), (ByteArray.empty, ())))))).1, ((List.getD x.2.2.2.2.2.1 (Int.toNat x.2.1) ((0 : Int), (ByteArray.empty, (ByteArray.empty, ((0 : Int), (ByteArray.empty, ())))))).2.1, ((List.getD x.2.2.2.2.2.1 (Int.toNat x.2.1) ((0 : Int), (ByteArray.empty, (ByteArray.empty, ((0 : Int), (ByteArray.empty, ())))))).2.2.1, ((List.getD x.2.2.2.2.2.1 (Int.toNat x.2.1) ((0 : Int), (ByteArray.empty, (ByteArray.empty, ((0 : Int), (ByteArray.empty, ())))))).2.2.2.1, ((List.getD x.2.2.2.2.2.1 (Int.toNat x.2.1) ((0 : Int), (ByteArray.empty, (ByteArray.empty, ((0 : Int), (ByteArray.empty, ())))))).2.2.2.2.1, ()))))) x.2.2.2.1).bind fun t6 => let v7 : Int := (IntKind.wrap IntKind.i64 (x.2.1 + (1 : Int)))
 kn (x.1, (v7, (((), ((), ((), (x.2.2.1.2.2.2.1, ((), (x.2.2.1.2.2.2.2.2.1, ())))))), (t6.1, (x.2.2.2.2.1, (x.2.2.2.2.2.1, ()))))))) else (none)) else (ke (((), ((), ((), (x.2.2.1.2.2.2.1, ((), (x.2.2.1.2.2.2.2.2.1, ())))))), (x.2.2.2.1, (x.2.2.2.2.1, (x.2.2.2.2.2.1, ())))))
def Q4.l1 (k : Nat) : Nat → Q4.l1.σ → Option Q4.l1.τ := Q1f (Q4.l1.r k)
def Q4.l1.T : StT := ⟨.ptr 0 [] :: us 13 ++ .vsl 3 :: .dat (.int .i64) :: .dat (.int .i64) :: us 13, [.pair (.mp 1) (.pair (.mp 2) (.pair (.vsl 3) (.pair (.dat (.int .i64)) (.pair (.nils) (.dat Qf9))))), .mpd .str .str, .mpd .str .str, .vec QeZ]⟩
def Q4.l1.os : List Out := [⟨(.exit 0), [.mask [0], .auto 3], ⟨.ptr 0 [] :: us 29, [.pair (.mp 1) (.pair (.mp 2) (.pair (.vsl 3) (.pair (.dat (.int .i64)) (.pair (.nils) (.dat Qf9))))), .mpd .str .str, .mpd .str .str, .vec QeZ]⟩⟩]
abbrev Q4.τ : Type := QeR ⊕ QeX 
def Q4.c (k : Nat) {ρ : Type} (b0 : Qf4) (b1 : Qf8) (b2 : Qf8) (b3 : Qf1) (K : Q4.τ → Option ρ) : Option ρ :=
  (Q4.p0 k (((), ((), ((), (b0.2.2.2.1, ((), (b0.2.2.2.2.2.1, ())))))), (b1, (b2, (b3, ()))))).bind fun t2 => (match t2 with
 | .inl t3 => (K (.inl (t3.1, (((), ((), ((), (t3.2.1.2.2.2.1, ((), (t3.2.1.2.2.2.2.2.1, ())))))), (t3.2.2.1, (t3.2.2.2.1, (t3.2.2.2.2.1, ())))))))
 | .inr (t4) => (let v5 : Int := (((List.length t4.2.2.2.1) : Nat) : Int)
  (Q4.l1 k k (v5, ((0 : Int), (((), ((), ((), (t4.1.2.2.2.1, ((), (t4.1.2.2.2.2.2.1, ())))))), (t4.2.1, (t4.2.2.1, (t4.2.2.2.1, ()))))))).bind fun t8 => K (.inr ((0 : Int), (((), ((), ((), (t8.1.2.2.2.1, ((), (t8.1.2.2.2.2.2.1, ())))))), (t8.2.1, (t8.2.2.1, ())))))))
def Q4 (k : Nat) (b0 : Qf4) (b1 : Qf8) (b2 : Qf8) (b3 : Qf1) : Option Q4.τ := Q4.c k b0 b1 b2 b3 some
def Q4.T : Q15 := ⟨[.ptr 0 []], [.pair (.mp 1) (.pair (.mp 2) (.pair (.vsl 3) (.pair (.dat (.int .i64)) (.pair (.nils) (.dat Qf9))))), .mpd .str .str, .mpd .str .str, .vec QeZ], 3⟩
def Q4.os : List Out := [⟨.ret, [.freeze (.slot 0), .auto 3], ⟨[.dat (.int .i64)], [.pair (.mp 1) (.pair (.mp 2) (.pair (.vsl 3) (.pair (.dat (.int .i64)) (.pair (.nils) (.dat Qf9))))), .mpd .str .str, .mpd .str .str, .vec QeZ]⟩⟩, ⟨.ret, [.freeze (.slot 0), .auto 3], ⟨[.dat (.int .i64)], [.pair (.mp 1) (.pair (.mp 2) (.pair (.nils) (.pair (.dat (.int .i64)) (.pair (.nils) (.dat Qf9))))), .mpd .str .str, .mpd .str .str]⟩⟩]
def Q4.sem (k : Nat) : QS := Q17 Q4.T Q4.os fun x => Q4 k x.1 x.2.1 x.2.2.1 x.2.2.2.1
noncomputable def Q4.ctx (k : Nat) : Ctx := ⟨Try.prog, gam [(30, (Q0q.sem k)), (76, (Qc.sem k)), (77, (Q0J.sem k))]⟩
theorem Q4.gok (k : Nat) : ∀ f, Qu Try.prog f ((Q4.ctx k).Γ f) := (Qf (Q0q.sem_ok k) (Qf (Qc.sem_ok k) (Qf (Q0J.sem_ok k) Q0e)))
theorem Q4.p0.is (k : Nat) : Q26 (Q4.ctx k) (Q0O (Func.code Try.f56) [1, 0]) (.nil) Q4.p0.T Q4.p0.os (Q4.p0.r k) := by
 intro ρ x K; kernel_rfl
theorem Q4.p0.ok (k : Nat) : StOK 3 Try.prog (Q0O (Func.code Try.f56) [1, 0]) (Q05 Q4.p0.T Q4.p0.os (Q4.p0 k)) :=
 Q1T (C := Q4.ctx k) (T := Q4.p0.T) (os := Q4.p0.os) (Q4.gok k) Try.mix (fun x K => Q4.p0.r k x K) Q2.nil (by kernel_rfl) (by kernel_rfl) (Q4.p0.is k)
theorem Q4.l1.round (k : Nat) : Q1j (Q4.ctx k) (Q0O (Func.code Try.f56) [1, 1, 0, 1, 0, 0]) (.nil) Q4.l1.T [.mask [0, 14, 15, 16], .auto 3] Q4.l1.os (Q4.l1.r k) := by
 intro ρ x kn ke; kernel_rfl
theorem Q4.l1.ok (k : Nat) : StOK 3 Try.prog (.loop (Q0O (Func.code Try.f56) [1, 1, 0, 1, 0, 0])) (Q05 Q4.l1.T Q4.l1.os (Q4.l1 k k)) :=
 Q1m (C := Q4.ctx k) (Q4.gok k) Try.mix Q2.nil (by kernel_rfl) (by kernel_rfl) (by kernel_rfl) (Q4.l1.round k) k
def Q4.ann (k : Nat) : Ann := .node [] none (.nil) (.node [] none (.node [.mask [0], .auto 3] (some (Q05 Q4.p0.T Q4.p0.os (Q4.p0 k))) .nil .nil) (.node [] none (.node [] none (.nil) (.node [] none (.node [.mask [0, 14, 15, 16], .auto 3] (some (Q05 Q4.l1.T Q4.l1.os (Q4.l1 k k))) .nil .nil) (.nil))) (.nil)))
theorem Q4.body (k : Nat) : Q18 (Q4.ctx k) Try.f56 (Func.code Try.f56) (Q4.ann k) Q4.T Q4.os (fun x K => Q4.c k x.1 x.2.1 x.2.2.1 x.2.2.2.1 K) := by
 intro ρ x K; kernel_rfl
theorem Q4.sem_ok (k : Nat) : Qu Try.prog 56 (Q4.sem k) :=
 Q0u (C := Q4.ctx k) (Q4.gok k) Try.mix (c := Func.code Try.f56) (ann := Q4.ann k) (T := Q4.T) (os := Q4.os) (fun x K => Q4.c k x.1 x.2.1 x.2.2.1 x.2.2.2.1 K) Try.func56 (by kernel_rfl) (by kernel_rfl) (Q2.seq Q2.nil (Q2.seq (Q2.loop (by kernel_rfl) (Q4.p0.ok k)) (Q2.seq (Q2.seq Q2.nil (Q2.block (Q2.loop (by kernel_rfl) (Q4.l1.ok k)))) Q2.nil))) (Q4.body k) (by kernel_rfl) (by kernel_rfl) (by kernel_rfl)
abbrev Q0o.τ : Type := QeR 
def Q0o.c (k : Nat) {ρ : Type} (names : (List ByteArray)) (b0 : Qf4) (b1 : Qf8) (b2 : Qf8) (b3 : Qf1) (K : Q0o.τ → Option ρ) : Option ρ :=
 (Q0q k ((), ((), ((), (b0.2.2.2.1, ((), (b0.2.2.2.2.2.1, ())))))) b1 b2 b3).bind fun t0 => bif t0.1 then (K ((7 : Int), (((), ((), ((), (t0.2.1.2.2.2.1, ((), (t0.2.1.2.2.2.2.2.1, ())))))), (t0.2.2.1, (t0.2.2.2.1, (t0.2.2.2.2.1, ())))))) else ((Qk k names).bind fun t1 => K (t1.1, (((), ((), ((), (t0.2.1.2.2.2.1, ((), (t0.2.1.2.2.2.2.2.1, ())))))), (t0.2.2.1, (t0.2.2.2.1, (t0.2.2.2.2.1, ()))))))
def Q0o (k : Nat) (names : (List ByteArray)) (b0 : Qf4) (b1 : Qf8) (b2 : Qf8) (b3 : Qf1) : Option Q0o.τ := Q0o.c k names b0 b1 b2 b3 some
def Q0o.T : Q15 := ⟨[.ptr 0 [], .dat (.sl .str)], [.pair (.mp 1) (.pair (.mp 2) (.pair (.vsl 3) (.pair (.dat (.int .i64)) (.pair (.nils) (.dat Qf9))))), .mpd .str .str, .mpd .str .str, .vec QeZ], 3⟩
def Q0o.os : List Out := [⟨.ret, [.freeze (.slot 0), .auto 3], ⟨[.dat (.int .i64)], [.pair (.mp 1) (.pair (.mp 2) (.pair (.vsl 3) (.pair (.dat (.int .i64)) (.pair (.nils) (.dat Qf9))))), .mpd .str .str, .mpd .str .str, .vec QeZ]⟩⟩]
def Q0o.sem (k : Nat) : QS := Q17 Q0o.T Q0o.os fun x => Q0o k x.1 x.2.1 x.2.2.1 x.2.2.2.1 x.2.2.2.2.1
noncomputable def Q0o.ctx (k : Nat) : Ctx := ⟨Try.prog, gam [(30, (Q0q.sem k)), (89, (Qk.sem k))]⟩
theorem Q0o.gok (k : Nat) : ∀ f, Qu Try.prog f ((Q0o.ctx k).Γ f) := (Qf (Q0q.sem_ok k) (Qf (Qk.sem_ok k) Q0e))
def Q0o.ann (k : Nat) : Ann := .nil
theorem Q0o.body (k : Nat) : Q18 (Q0o.ctx k) Try.f79 (Func.code Try.f79) (Q0o.ann k) Q0o.T Q0o.os (fun x K => Q0o.c k x.1 x.2.1 x.2.2.1 x.2.2.2.1 x.2.2.2.2.1 K) := by
 intro ρ x K; kernel_rfl
theorem Q0o.sem_ok (k : Nat) : Qu Try.prog 79 (Q0o.sem k) :=
 Q0u (C := Q0o.ctx k) (Q0o.gok k) Try.mix (c := Func.code Try.f79) (ann := Q0o.ann k) (T := Q0o.T) (os := Q0o.os) (fun x K => Q0o.c k x.1 x.2.1 x.2.2.1 x.2.2.2.1 x.2.2.2.2.1 K) Try.func79 (by kernel_rfl) (by kernel_rfl) Q2.nil (Q0o.body k) (by kernel_rfl) (by kernel_rfl) (by kernel_rfl)
abbrev Q0l.τ : Type := QeR 
def Q0l.c (k : Nat) {ρ : Type} (c : Qf2) (b0 : Qf4) (b1 : Qf8) (b2 : Qf8) (b3 : Qf1) (K : Q0l.τ → Option ρ) : Option ρ :=
 (Qc k false ((), ((), ((), (b0.2.2.2.1, ((), (b0.2.2.2.2.2.1, ())))))) b1 b2 b3).bind fun t0 => bif t0.1 then (K ((7 : Int), (((), ((), ((), (t0.2.1.2.2.2.1, ((), (t0.2.1.2.2.2.2.2.1, ())))))), (t0.2.2.1, (t0.2.2.2.1, (t0.2.2.2.2.1, ())))))) else ((Q0J k (c.1, (c.2.1, (c.2.2.1, (c.2.2.2.1, (c.2.2.2.2.1, ()))))) t0.2.2.2.1).bind fun t1 => bif (Nat.ble (((List.length t0.2.2.2.2.1) + (List.length (List.set (List.replicate 1 ((0 : Int), (ByteArray.empty, (ByteArray.empty, ((0 : Int), (ByteArray.empty, ())))))) 0 (c.1, (c.2.1, (c.2.2.1, (c.2.2.2.1, (c.2.2.2.2.1, ())))))))) * 64) 140737488355328) then (let v2 : Int := t0.2.1.2.2.2.1
 let v3 : Int := (IntKind.wrap IntKind.i64 (v2 + (1 : Int)))
 K ((0 : Int), (((), ((), ((), (v3, ((), (t0.2.1.2.2.2.2.2.1, ())))))), (t0.2.2.1, (t1.1, ((t0.2.2.2.2.1 ++ (List.set (List.replicate 1 ((0 : Int), (ByteArray.empty, (ByteArray.empty, ((0 : Int), (ByteArray.empty, ())))))) 0 (c.1, (c.2.1, (c.2.2.1, (c.2.2.2.1, (c.2.2.2.2.1, ()))))))), ())))))) else (none))
def Q0l (k : Nat) (c : Qf2) (b0 : Qf4) (b1 : Qf8) (b2 : Qf8) (b3 : Qf1) : Option Q0l.τ := Q0l.c k c b0 b1 b2 b3 some
def Q0l.T : Q15 := ⟨[.ptr 0 [], .dat QeZ], [.pair (.mp 1) (.pair (.mp 2) (.pair (.vsl 3) (.pair (.dat (.int .i64)) (.pair (.nils) (.dat Qf9))))), .mpd .str .str, .mpd .str .str, .vec QeZ], 3⟩
def Q0l.os : List Out := [⟨.ret, [.freeze (.slot 0), .auto 3], ⟨[.dat (.int .i64)], [.pair (.mp 1) (.pair (.mp 2) (.pair (.vsl 3) (.pair (.dat (.int .i64)) (.pair (.nils) (.dat Qf9))))), .mpd .str .str, .mpd .str .str, .vec QeZ]⟩⟩]
def Q0l.sem (k : Nat) : QS := Q17 Q0l.T Q0l.os fun x => Q0l k x.1 x.2.1 x.2.2.1 x.2.2.2.1 x.2.2.2.2.1
noncomputable def Q0l.ctx (k : Nat) : Ctx := ⟨Try.prog, gam [(76, (Qc.sem k)), (77, (Q0J.sem k))]⟩
theorem Q0l.gok (k : Nat) : ∀ f, Qu Try.prog f ((Q0l.ctx k).Γ f) := (Qf (Qc.sem_ok k) (Qf (Q0J.sem_ok k) Q0e))
def Q0l.ann (k : Nat) : Ann := .nil
theorem Q0l.body (k : Nat) : Q18 (Q0l.ctx k) Try.f74 (Func.code Try.f74) (Q0l.ann k) Q0l.T Q0l.os (fun x K => Q0l.c k x.1 x.2.1 x.2.2.1 x.2.2.2.1 x.2.2.2.2.1 K) := by
 intro ρ x K; kernel_rfl
theorem Q0l.sem_ok (k : Nat) : Qu Try.prog 74 (Q0l.sem k) :=
 Q0u (C := Q0l.ctx k) (Q0l.gok k) Try.mix (c := Func.code Try.f74) (ann := Q0l.ann k) (T := Q0l.T) (os := Q0l.os) (fun x K => Q0l.c k x.1 x.2.1 x.2.2.1 x.2.2.2.1 x.2.2.2.2.1 K) Try.func74 (by kernel_rfl) (by kernel_rfl) Q2.nil (Q0l.body k) (by kernel_rfl) (by kernel_rfl) (by kernel_rfl)
abbrev Q08.τ : Type := QeR 
def Q08.c (k : Nat) {ρ : Type} (name : ByteArray) (at_2 : Int) (s : ByteArray) (b0 : Qf4) (b1 : Qf8) (b2 : Qf8) (b3 : Qf1) (K : Q08.τ → Option ρ) : Option ρ :=
 (Q0o k (List.set (List.replicate 1 ByteArray.empty) 0 name) ((), ((), ((), (b0.2.2.2.1, ((), (b0.2.2.2.2.2.1, ())))))) b1 b2 b3).bind fun t0 => bif (t0.1 != (0 : Int)) then (K (t0.1, (((), ((), ((), (t0.2.1.2.2.2.1, ((), (t0.2.1.2.2.2.2.2.1, ())))))), (t0.2.2.1, (t0.2.2.2.1, (t0.2.2.2.2.1, ())))))) else (let v1 : ByteArray := (Option.getD (mget Ty.str name t0.2.2.2.1) ByteArray.empty)
 bif (decide (at_2 < (0 : Int))) then (K ((1 : Int), (((), ((), ((), (t0.2.1.2.2.2.1, ((), (t0.2.1.2.2.2.2.2.1, ())))))), (t0.2.2.1, (t0.2.2.2.1, (t0.2.2.2.2.1, ())))))) else (bif (decide (at_2 > (((ByteArray.size v1) : Nat) : Int))) then (K ((1 : Int), (((), ((), ((), (t0.2.1.2.2.2.1, ((), (t0.2.1.2.2.2.2.2.1, ())))))), (t0.2.2.1, (t0.2.2.2.1, (t0.2.2.2.2.1, ())))))) else (let v2 : Int := (IntKind.wrap IntKind.i64 ((16777216 : Int) - at_2))
 bif (decide ((((ByteArray.size s) : Nat) : Int) > v2)) then (K ((71 : Int), (((), ((), ((), (t0.2.1.2.2.2.1, ((), (t0.2.1.2.2.2.2.2.1, ())))))), (t0.2.2.1, (t0.2.2.2.1, (t0.2.2.2.2.1, ())))))) else (bif (!(Option.isSome (mget Ty.str name t0.2.2.2.1))) then (let v3 : Int := (((List.length t0.2.2.2.1) : Nat) : Int)
 bif (decide (v3 ≥ (64 : Int))) then (K ((71 : Int), (((), ((), ((), (t0.2.1.2.2.2.1, ((), (t0.2.1.2.2.2.2.2.1, ())))))), (t0.2.2.1, (t0.2.2.2.1, (t0.2.2.2.2.1, ())))))) else ((Q0l k ((0 : Int), (name, ((⟨(List.toArray [])⟩ : ByteArray), (at_2, (s, ()))))) ((), ((), ((), (t0.2.1.2.2.2.1, ((), (t0.2.1.2.2.2.2.2.1, ())))))) t0.2.2.1 t0.2.2.2.1 t0.2.2.2.2.1).bind fun t4 => K (t4.1, (((), ((), ((), (t4.2.1.2.2.2.1, ((), (t4.2.1.2.2.2.2.2.1, ())))))), (t4.2.2.1, (t4.2.2.2.1, (t4.2.2.2.2.1, ()))))))) else ((Q0l k ((0 : Int), (name, ((⟨(List.toArray [])⟩ : ByteArray), (at_2, (s, ()))))) ((), ((), ((), (t0.2.1.2.2.2.1, ((), (t0.2.1.2.2.2.2.2.1, ())))))) t0.2.2.1 t0.2.2.2.1 t0.2.2.2.2.1).bind fun t5 => K (t5.1, (((), ((), ((), (t5.2.1.2.2.2.1, ((), (t5.2.1.2.2.2.2.2.1, ())))))), (t5.2.2.1, (t5.2.2.2.1, (t5.2.2.2.2.1, ()))))))))))
def Q08 (k : Nat) (name : ByteArray) (at_2 : Int) (s : ByteArray) (b0 : Qf4) (b1 : Qf8) (b2 : Qf8) (b3 : Qf1) : Option Q08.τ := Q08.c k name at_2 s b0 b1 b2 b3 some
def Q08.T : Q15 := ⟨[.ptr 0 [], .dat .str, .dat (.int .i64), .dat .str], [.pair (.mp 1) (.pair (.mp 2) (.pair (.vsl 3) (.pair (.dat (.int .i64)) (.pair (.nils) (.dat Qf9))))), .mpd .str .str, .mpd .str .str, .vec QeZ], 3⟩
def Q08.os : List Out := [⟨.ret, [.freeze (.slot 0), .auto 3], ⟨[.dat (.int .i64)], [.pair (.mp 1) (.pair (.mp 2) (.pair (.vsl 3) (.pair (.dat (.int .i64)) (.pair (.nils) (.dat Qf9))))), .mpd .str .str, .mpd .str .str, .vec QeZ]⟩⟩]
def Q08.sem (k : Nat) : QS := Q17 Q08.T Q08.os fun x => Q08 k x.1 x.2.1 x.2.2.1 x.2.2.2.1 x.2.2.2.2.1 x.2.2.2.2.2.1 x.2.2.2.2.2.2.1
noncomputable def Q08.ctx (k : Nat) : Ctx := ⟨Try.prog, gam [(79, (Q0o.sem k)), (74, (Q0l.sem k))]⟩
theorem Q08.gok (k : Nat) : ∀ f, Qu Try.prog f ((Q08.ctx k).Γ f) := (Qf (Q0o.sem_ok k) (Qf (Q0l.sem_ok k) Q0e))
def Q08.ann (k : Nat) : Ann := .nil
theorem Q08.body (k : Nat) : Q18 (Q08.ctx k) Try.f72 (Func.code Try.f72) (Q08.ann k) Q08.T Q08.os (fun x K => Q08.c k x.1 x.2.1 x.2.2.1 x.2.2.2.1 x.2.2.2.2.1 x.2.2.2.2.2.1 x.2.2.2.2.2.2.1 K) := by
 intro ρ x K; kernel_rfl
theorem Q08.sem_ok (k : Nat) : Qu Try.prog 72 (Q08.sem k) :=
 Q0u (C := Q08.ctx k) (Q08.gok k) Try.mix (c := Func.code Try.f72) (ann := Q08.ann k) (T := Q08.T) (os := Q08.os) (fun x K => Q08.c k x.1 x.2.1 x.2.2.1 x.2.2.2.1 x.2.2.2.2.1 x.2.2.2.2.2.1 x.2.2.2.2.2.2.1 K) Try.func72 (by kernel_rfl) (by kernel_rfl) Q2.nil (Q08.body k) (by kernel_rfl) (by kernel_rfl) (by kernel_rfl)
abbrev QG.p0.σ : Type := ByteArray × Qf4 × Qf8 × Qf8 × Unit
abbrev QG.p0.τ : Type := QeX ⊕ QeV ⊕ QeR ⊕ QeP 
def QG.p0.r (k : Nat) {ρ : Type} (x : QG.p0.σ) (K : QG.p0.τ → Option ρ) : Option ρ :=
  (Q0N k x.1 ((), ((), ((), (x.2.1.2.2.2.1, ((), (x.2.1.2.2.2.2.2.1, ())))))) x.2.2.1 x.2.2.2.1).bind fun t0 => let v1 : Int := t0.1
  let v2 : Int := t0.2.1
  bif (v2 == (0 : Int)) then ((Q0D k x.1 (0 : Int) ((), ((), ((), (t0.2.2.1.2.2.2.1, ((), (t0.2.2.1.2.2.2.2.2.1, ())))))) t0.2.2.2.1 t0.2.2.2.2.1).bind fun t3 => (match t3 with
 | .inl t4 => (bif (t4.1 != (0 : Int)) then (K (.inl (t4.1, (((), ((), ((), (t4.2.1.2.2.2.1, ((), (t4.2.1.2.2.2.2.2.1, ())))))), (t4.2.2.1, (t4.2.2.2.1, ())))))) else (K (.inr (.inl (x.1, (((), ((), ((), (t4.2.1.2.2.2.1, ((), (t4.2.1.2.2.2.2.2.1, ())))))), (t4.2.2.1, (t4.2.2.2.1, ()))))))))
 | .inr (t5) => (bif (t5.1 != (0 : Int)) then (K (.inr (.inr (.inl (t5.1, (((), ((), ((), (t5.2.1.2.2.2.1, ((), (t5.2.1.2.2.2.2.2.1, ())))))), (t5.2.2.1, (t5.2.2.2.1, (t5.2.2.2.2.1, ()))))))))) else (K (.inr (.inr (.inr (x.1, (((), ((), ((), (t5.2.1.2.2.2.1, ((), (t5.2.1.2.2.2.2.2.1, ())))))), (t5.2.2.1, (t5.2.2.2.1, (t5.2.2.2.2.1, ())))))))))))) else (K (.inr (.inl (x.1, (((), ((), ((), (t0.2.2.1.2.2.2.1, ((), (t0.2.2.1.2.2.2.2.2.1, ())))))), (t0.2.2.2.1, (t0.2.2.2.2.1, ())))))))
def QG.p0 (k : Nat) (x : QG.p0.σ) : Option QG.p0.τ := QG.p0.r k x some
def QG.p0.T : StT := ⟨.ptr 0 [] :: .dat .str :: us 30, [.pair (.mp 1) (.pair (.mp 2) (.pair (.nils) (.pair (.dat (.int .i64)) (.pair (.nils) (.dat Qf9))))), .mpd .str .str, .mpd .str .str]⟩
def QG.p0.os : List Out := [⟨.ret, [.mask [4], .auto 3], ⟨us 4 ++ .dat (.int .i64) :: us 27, [.pair (.mp 1) (.pair (.mp 2) (.pair (.nils) (.pair (.dat (.int .i64)) (.pair (.nils) (.dat Qf9))))), .mpd .str .str, .mpd .str .str]⟩⟩, ⟨.normal, [.mask [0, 1], .auto 3], ⟨.ptr 0 [] :: .dat .str :: us 30, [.pair (.mp 1) (.pair (.mp 2) (.pair (.nils) (.pair (.dat (.int .i64)) (.pair (.nils) (.dat Qf9))))), .mpd .str .str, .mpd .str .str]⟩⟩, ⟨.ret, [.mask [4], .auto 3], ⟨us 4 ++ .dat (.int .i64) :: us 27, [.pair (.mp 1) (.pair (.mp 2) (.pair (.vsl 3) (.pair (.dat (.int .i64)) (.pair (.nils) (.dat Qf9))))), .mpd .str .str, .mpd .str .str, .vec QeZ]⟩⟩, ⟨.normal, [.mask [0, 1], .auto 3], ⟨.ptr 0 [] :: .dat .str :: us 30, [.pair (.mp 1) (.pair (.mp 2) (.pair (.vsl 3) (.pair (.dat (.int .i64)) (.pair (.nils) (.dat Qf9))))), .mpd .str .str, .mpd .str .str, .vec QeZ]⟩⟩]
abbrev QG.τ : Type := QeX ⊕ QeR 
def QG.c (k : Nat) {ρ : Type} (name : ByteArray) (b0 : Qf4) (b1 : Qf8) (b2 : Qf8) (K : QG.τ → Option ρ) : Option ρ :=
  (QG.p0 k (name, (((), ((), ((), (b0.2.2.2.1, ((), (b0.2.2.2.2.2.1, ())))))), (b1, (b2, ()))))).bind fun t6 => (match t6 with
 | .inl t7 => (K (.inl (t7.1, (((), ((), ((), (t7.2.1.2.2.2.1, ((), (t7.2.1.2.2.2.2.2.1, ())))))), (t7.2.2.1, (t7.2.2.2.1, ()))))))
 | .inr (.inl t8) => ((Q0p k (0 : Int)).bind fun t9 => (Q0j k t8.1 (0 : Int) t9.1 ((), ((), ((), (t8.2.1.2.2.2.1, ((), (t8.2.1.2.2.2.2.2.1, ())))))) t8.2.2.1 t8.2.2.2.1).bind fun t10 => (match t10 with
 | .inl t11 => (bif (t11.1 != (0 : Int)) then (K (.inl (t11.1, (((), ((), ((), (t11.2.1.2.2.2.1, ((), (t11.2.1.2.2.2.2.2.1, ())))))), (t11.2.2.1, (t11.2.2.2.1, ())))))) else ((Qa k ((), ((), ((), (t11.2.1.2.2.2.1, ((), (t11.2.1.2.2.2.2.2.1, ())))))) t11.2.2.1 t11.2.2.2.1).bind fun t12 => K (.inl (t12.1, (((), ((), ((), (t12.2.1.2.2.2.1, ((), (t12.2.1.2.2.2.2.2.1, ())))))), (t12.2.2.1, (t12.2.2.2.1, ())))))))
 | .inr (t13) => (bif (t13.1 != (0 : Int)) then (K (.inr (t13.1, (((), ((), ((), (t13.2.1.2.2.2.1, ((), (t13.2.1.2.2.2.2.2.1, ())))))), (t13.2.2.1, (t13.2.2.2.1, (t13.2.2.2.2.1, ()))))))) else ((Q4 k ((), ((), ((), (t13.2.1.2.2.2.1, ((), (t13.2.1.2.2.2.2.2.1, ())))))) t13.2.2.1 t13.2.2.2.1 t13.2.2.2.2.1).bind fun t14 => (match t14 with
 | .inl t15 => (K (.inr (t15.1, (((), ((), ((), (t15.2.1.2.2.2.1, ((), (t15.2.1.2.2.2.2.2.1, ())))))), (t15.2.2.1, (t15.2.2.2.1, (t15.2.2.2.2.1, ())))))))
 | .inr (t16) => (K (.inl (t16.1, (((), ((), ((), (t16.2.1.2.2.2.1, ((), (t16.2.1.2.2.2.2.2.1, ())))))), (t16.2.2.1, (t16.2.2.2.1, ())))))))))))
 | .inr (.inr (.inl t17)) => (K (.inr (t17.1, (((), ((), ((), (t17.2.1.2.2.2.1, ((), (t17.2.1.2.2.2.2.2.1, ())))))), (t17.2.2.1, (t17.2.2.2.1, (t17.2.2.2.2.1, ())))))))
 | .inr (.inr (.inr (t18))) => ((Q0p k (0 : Int)).bind fun t19 => (Q08 k t18.1 (0 : Int) t19.1 ((), ((), ((), (t18.2.1.2.2.2.1, ((), (t18.2.1.2.2.2.2.2.1, ())))))) t18.2.2.1 t18.2.2.2.1 t18.2.2.2.2.1).bind fun t20 => bif (t20.1 != (0 : Int)) then (K (.inr (t20.1, (((), ((), ((), (t20.2.1.2.2.2.1, ((), (t20.2.1.2.2.2.2.2.1, ())))))), (t20.2.2.1, (t20.2.2.2.1, (t20.2.2.2.2.1, ()))))))) else ((Q4 k ((), ((), ((), (t20.2.1.2.2.2.1, ((), (t20.2.1.2.2.2.2.2.1, ())))))) t20.2.2.1 t20.2.2.2.1 t20.2.2.2.2.1).bind fun t21 => (match t21 with
 | .inl t22 => (K (.inr (t22.1, (((), ((), ((), (t22.2.1.2.2.2.1, ((), (t22.2.1.2.2.2.2.2.1, ())))))), (t22.2.2.1, (t22.2.2.2.1, (t22.2.2.2.2.1, ())))))))
 | .inr (t23) => (K (.inl (t23.1, (((), ((), ((), (t23.2.1.2.2.2.1, ((), (t23.2.1.2.2.2.2.2.1, ())))))), (t23.2.2.1, (t23.2.2.2.1, ()))))))))))
def QG (k : Nat) (name : ByteArray) (b0 : Qf4) (b1 : Qf8) (b2 : Qf8) : Option QG.τ := QG.c k name b0 b1 b2 some
def QG.T : Q15 := ⟨[.ptr 0 [], .dat .str], [.pair (.mp 1) (.pair (.mp 2) (.pair (.nils) (.pair (.dat (.int .i64)) (.pair (.nils) (.dat Qf9))))), .mpd .str .str, .mpd .str .str], 3⟩
def QG.os : List Out := [⟨.ret, [.freeze (.slot 0), .auto 3], ⟨[.dat (.int .i64)], [.pair (.mp 1) (.pair (.mp 2) (.pair (.nils) (.pair (.dat (.int .i64)) (.pair (.nils) (.dat Qf9))))), .mpd .str .str, .mpd .str .str]⟩⟩, ⟨.ret, [.freeze (.slot 0), .auto 3], ⟨[.dat (.int .i64)], [.pair (.mp 1) (.pair (.mp 2) (.pair (.vsl 3) (.pair (.dat (.int .i64)) (.pair (.nils) (.dat Qf9))))), .mpd .str .str, .mpd .str .str, .vec QeZ]⟩⟩]
def QG.sem (k : Nat) : QS := Q17 QG.T QG.os fun x => QG k x.1 x.2.1 x.2.2.1 x.2.2.2.1
noncomputable def QG.ctx (k : Nat) : Ctx := ⟨Try.prog, gam [(86, (Q0N.sem k)), (55, (Q0D.sem k)), (9, (Q0p.sem k)), (72, (Q2c (Q2l Q0j.T) (Q0j.sem k) (Q08.sem k))), (56, (Q2c (Q2l Qa.T) (Qa.sem k) (Q4.sem k)))]⟩
theorem QG.gok (k : Nat) : ∀ f, Qu Try.prog f ((QG.ctx k).Γ f) := (Qf (Q0N.sem_ok k) (Qf (Q0D.sem_ok k) (Qf (Q0p.sem_ok k) (Qf (Q1t (Q0j.sem_ok k) (Q08.sem_ok k)) (Qf (Q1t (Qa.sem_ok k) (Q4.sem_ok k)) Q0e)))))
theorem QG.p0.is (k : Nat) : Q26 (QG.ctx k) (Q0O (Func.code Try.f75) [1, 0]) (.nil) QG.p0.T QG.p0.os (QG.p0.r k) := by
 intro ρ x K; kernel_rfl
theorem QG.p0.ok (k : Nat) : StOK 3 Try.prog (Q0O (Func.code Try.f75) [1, 0]) (Q05 QG.p0.T QG.p0.os (QG.p0 k)) :=
 Q1T (C := QG.ctx k) (T := QG.p0.T) (os := QG.p0.os) (QG.gok k) Try.mix (fun x K => QG.p0.r k x K) Q2.nil (by kernel_rfl) (by kernel_rfl) (QG.p0.is k)
def QG.ann (k : Nat) : Ann := .node [] none (.nil) (.node [] none (.node [.mask [0, 1], .auto 3] (some (Q05 QG.p0.T QG.p0.os (QG.p0 k))) .nil .nil) (.nil))
theorem QG.body (k : Nat) : Q18 (QG.ctx k) Try.f75 (Func.code Try.f75) (QG.ann k) QG.T QG.os (fun x K => QG.c k x.1 x.2.1 x.2.2.1 x.2.2.2.1 K) := by
 intro ρ x K; kernel_rfl
theorem QG.sem_ok (k : Nat) : Qu Try.prog 75 (QG.sem k) :=
 Q0u (C := QG.ctx k) (QG.gok k) Try.mix (c := Func.code Try.f75) (ann := QG.ann k) (T := QG.T) (os := QG.os) (fun x K => QG.c k x.1 x.2.1 x.2.2.1 x.2.2.2.1 K) Try.func75 (by kernel_rfl) (by kernel_rfl) (Q2.seq Q2.nil (Q2.seq (Q2.loop (by kernel_rfl) (QG.p0.ok k)) Q2.nil)) (QG.body k) (by kernel_rfl) (by kernel_rfl) (by kernel_rfl)
abbrev Qw.p0.σ : Type := ByteArray × ByteArray × Int × Qf4 × Qf8 × Qf8 × Unit
abbrev Qw.p0.τ : Type := QeU ⊕ QeT 
def Qw.p0.r (k : Nat) {ρ : Type} (x : Qw.p0.σ) (K : Qw.p0.τ → Option ρ) : Option ρ :=
 bif (x.2.2.1 != (0 : Int)) then (bif (x.2.2.1 != (2 : Int)) then (K (.inl ((⟨(List.toArray [])⟩ : ByteArray), (x.2.2.1, (((), ((), ((), (x.2.2.2.1.2.2.2.1, ((), (x.2.2.2.1.2.2.2.2.2.1, ())))))), (x.2.2.2.2.1, (x.2.2.2.2.2.1, ()))))))) else (K (.inr (x.1, (x.2.1, (((), ((), ((), (x.2.2.2.1.2.2.2.1, ((), (x.2.2.2.1.2.2.2.2.2.1, ())))))), (x.2.2.2.2.1, (x.2.2.2.2.2.1, ())))))))) else (K (.inr (x.1, (x.2.1, (((), ((), ((), (x.2.2.2.1.2.2.2.1, ((), (x.2.2.2.1.2.2.2.2.2.1, ())))))), (x.2.2.2.2.1, (x.2.2.2.2.2.1, ())))))))
def Qw.p0 (k : Nat) (x : Qw.p0.σ) : Option Qw.p0.τ := Qw.p0.r k x some
def Qw.p0.T : StT := ⟨.ptr 0 [] :: .dat .str :: us 4 ++ .dat .str :: .dat (.int .i64) :: us 25, [.pair (.mp 1) (.pair (.mp 2) (.pair (.nils) (.pair (.dat (.int .i64)) (.pair (.nils) (.dat Qf9))))), .mpd .str .str, .mpd .str .str]⟩
def Qw.p0.os : List Out := [⟨.ret, [.mask [4, 5], .auto 3], ⟨us 4 ++ .dat .str :: .dat (.int .i64) :: us 27, [.pair (.mp 1) (.pair (.mp 2) (.pair (.nils) (.pair (.dat (.int .i64)) (.pair (.nils) (.dat Qf9))))), .mpd .str .str, .mpd .str .str]⟩⟩, ⟨.normal, [.mask [0, 1, 6], .auto 3], ⟨.ptr 0 [] :: .dat .str :: us 4 ++ .dat .str :: us 26, [.pair (.mp 1) (.pair (.mp 2) (.pair (.nils) (.pair (.dat (.int .i64)) (.pair (.nils) (.dat Qf9))))), .mpd .str .str, .mpd .str .str]⟩⟩]
abbrev Qw.τ : Type := QeU ⊕ QeO 
def Qw.c (k : Nat) {ρ : Type} (name : ByteArray) (b0 : Qf4) (b1 : Qf8) (b2 : Qf8) (K : Qw.τ → Option ρ) : Option ρ :=
  (Q0G k name ((), ((), ((), (b0.2.2.2.1, ((), (b0.2.2.2.2.2.1, ())))))) b1 b2).bind fun t0 => let v1 : ByteArray := t0.1
  let v2 : Int := t0.2.1
  (Qw.p0 k (name, (v1, (v2, (((), ((), ((), (t0.2.2.1.2.2.2.1, ((), (t0.2.2.1.2.2.2.2.2.1, ())))))), (t0.2.2.2.1, (t0.2.2.2.2.1, ()))))))).bind fun t3 => (match t3 with
 | .inl t4 => (K (.inl (t4.1, (t4.2.1, (((), ((), ((), (t4.2.2.1.2.2.2.1, ((), (t4.2.2.1.2.2.2.2.2.1, ())))))), (t4.2.2.2.1, (t4.2.2.2.2.1, ())))))))
 | .inr (t5) => (let v6 : Int := (((ByteArray.size t5.2.1) : Nat) : Int)
  bif (decide (v6 ≥ (20 : Int))) then (K (.inl (t5.2.1, ((0 : Int), (((), ((), ((), (t5.2.2.1.2.2.2.1, ((), (t5.2.2.1.2.2.2.2.2.1, ())))))), (t5.2.2.2.1, (t5.2.2.2.2.1, ()))))))) else ((QG k t5.1 ((), ((), ((), (t5.2.2.1.2.2.2.1, ((), (t5.2.2.1.2.2.2.2.2.1, ())))))) t5.2.2.2.1 t5.2.2.2.2.1).bind fun t7 => (match t7 with
 | .inl t8 => (bif (t8.1 != (0 : Int)) then (K (.inl ((⟨(List.toArray [])⟩ : ByteArray), (t8.1, (((), ((), ((), (t8.2.1.2.2.2.1, ((), (t8.2.1.2.2.2.2.2.1, ())))))), (t8.2.2.1, (t8.2.2.2.1, ()))))))) else ((Q0p k (0 : Int)).bind fun t9 => K (.inl (t9.1, ((0 : Int), (((), ((), ((), (t8.2.1.2.2.2.1, ((), (t8.2.1.2.2.2.2.2.1, ())))))), (t8.2.2.1, (t8.2.2.2.1, ()))))))))
 | .inr (t10) => (bif (t10.1 != (0 : Int)) then (K (.inr ((⟨(List.toArray [])⟩ : ByteArray), (t10.1, (((), ((), ((), (t10.2.1.2.2.2.1, ((), (t10.2.1.2.2.2.2.2.1, ())))))), (t10.2.2.1, (t10.2.2.2.1, (t10.2.2.2.2.1, ())))))))) else ((Q0p k (0 : Int)).bind fun t11 => K (.inr (t11.1, ((0 : Int), (((), ((), ((), (t10.2.1.2.2.2.1, ((), (t10.2.1.2.2.2.2.2.1, ())))))), (t10.2.2.1, (t10.2.2.2.1, (t10.2.2.2.2.1, ())))))))))))))
def Qw (k : Nat) (name : ByteArray) (b0 : Qf4) (b1 : Qf8) (b2 : Qf8) : Option Qw.τ := Qw.c k name b0 b1 b2 some
def Qw.T : Q15 := ⟨[.ptr 0 [], .dat .str], [.pair (.mp 1) (.pair (.mp 2) (.pair (.nils) (.pair (.dat (.int .i64)) (.pair (.nils) (.dat Qf9))))), .mpd .str .str, .mpd .str .str], 3⟩
def Qw.os : List Out := [⟨.ret, [.freeze (.slot 0), .freeze (.slot 1), .auto 3], ⟨[.dat .str, .dat (.int .i64)], [.pair (.mp 1) (.pair (.mp 2) (.pair (.nils) (.pair (.dat (.int .i64)) (.pair (.nils) (.dat Qf9))))), .mpd .str .str, .mpd .str .str]⟩⟩, ⟨.ret, [.freeze (.slot 0), .freeze (.slot 1), .auto 3], ⟨[.dat .str, .dat (.int .i64)], [.pair (.mp 1) (.pair (.mp 2) (.pair (.vsl 3) (.pair (.dat (.int .i64)) (.pair (.nils) (.dat Qf9))))), .mpd .str .str, .mpd .str .str, .vec QeZ]⟩⟩]
def Qw.sem (k : Nat) : QS := Q17 Qw.T Qw.os fun x => Qw k x.1 x.2.1 x.2.2.1 x.2.2.2.1
noncomputable def Qw.ctx (k : Nat) : Ctx := ⟨Try.prog, gam [(51, (Q0G.sem k)), (75, (QG.sem k)), (9, (Q0p.sem k))]⟩
theorem Qw.gok (k : Nat) : ∀ f, Qu Try.prog f ((Qw.ctx k).Γ f) := (Qf (Q0G.sem_ok k) (Qf (QG.sem_ok k) (Qf (Q0p.sem_ok k) Q0e)))
theorem Qw.p0.is (k : Nat) : Q26 (Qw.ctx k) (Q0O (Func.code Try.f53) [1, 1, 0]) (.nil) Qw.p0.T Qw.p0.os (Qw.p0.r k) := by
 intro ρ x K; kernel_rfl
theorem Qw.p0.ok (k : Nat) : StOK 3 Try.prog (Q0O (Func.code Try.f53) [1, 1, 0]) (Q05 Qw.p0.T Qw.p0.os (Qw.p0 k)) :=
 Q1T (C := Qw.ctx k) (T := Qw.p0.T) (os := Qw.p0.os) (Qw.gok k) Try.mix (fun x K => Qw.p0.r k x K) Q2.nil (by kernel_rfl) (by kernel_rfl) (Qw.p0.is k)
def Qw.ann (k : Nat) : Ann := .node [] none (.nil) (.node [] none (.nil) (.node [] none (.node [.mask [0, 1, 6, 7], .auto 3] (some (Q05 Qw.p0.T Qw.p0.os (Qw.p0 k))) .nil .nil) (.nil)))
theorem Qw.body (k : Nat) : Q18 (Qw.ctx k) Try.f53 (Func.code Try.f53) (Qw.ann k) Qw.T Qw.os (fun x K => Qw.c k x.1 x.2.1 x.2.2.1 x.2.2.2.1 K) := by
 intro ρ x K; kernel_rfl
theorem Qw.sem_ok (k : Nat) : Qu Try.prog 53 (Qw.sem k) :=
 Q0u (C := Qw.ctx k) (Qw.gok k) Try.mix (c := Func.code Try.f53) (ann := Qw.ann k) (T := Qw.T) (os := Qw.os) (fun x K => Qw.c k x.1 x.2.1 x.2.2.1 x.2.2.2.1 K) Try.func53 (by kernel_rfl) (by kernel_rfl) (Q2.seq Q2.nil (Q2.seq Q2.nil (Q2.seq (Q2.loop (by kernel_rfl) (Qw.p0.ok k)) Q2.nil))) (Qw.body k) (by kernel_rfl) (by kernel_rfl) (by kernel_rfl)
abbrev QL.l0.σ : Type := Int × (List ByteArray) × Int × Int × (List Int) × Unit
abbrev QL.l0.τ : Type := ((List Int) × Unit)
def QL.l0.r (k : Nat) {ρ : Type} (x : QL.l0.σ) (kn : QL.l0.σ → Option ρ) (ke : QL.l0.τ → Option ρ) : Option ρ :=
 bif (decide (x.2.2.2.1 < x.2.2.1)) then (bif (decide (((0 : Int) ≤ x.2.2.2.1) ∧ (x.2.2.2.1 < (((List.length x.2.1) : Nat) : Int)))) then (let v0 : ByteArray := (List.getD x.2.1 (Int.toNat x.2.2.2.1) ByteArray.empty)
 let v1 : Int := (IntKind.wrap IntKind.i64 ((12 : Int) + (((ByteArray.size v0) : Nat) : Int)))
 let v2 : Int := (IntKind.wrap IntKind.i64 (v1 + (4 : Int)))
 let v3 : Int := (IntKind.wrap IntKind.i64 (x.1 + v2))
 bif (Nat.ble (((List.length x.2.2.2.2.1) + (List.length (List.set (List.replicate 1 (0 : Int)) 0 v3))) * 8) 140737488355328) then (let v4 : Int := (IntKind.wrap IntKind.i64 (x.2.2.2.1 + (1 : Int)))
 kn (v3, (x.2.1, (x.2.2.1, (v4, ((x.2.2.2.2.1 ++ (List.set (List.replicate 1 (0 : Int)) 0 v3)), ())))))) else (none)) else (none)) else (ke (x.2.2.2.2.1, ()))
def QL.l0 (k : Nat) : Nat → QL.l0.σ → Option QL.l0.τ := Q1f (QL.l0.r k)
def QL.l0.T : StT := ⟨us 3 ++ .vsl 0 :: .dat (.int .i64) :: us 2 ++ .dat (.sl .str) :: .dat (.int .i64) :: .dat (.int .i64) :: us 15, [.vec (.int .i64)]⟩
def QL.l0.os : List Out := [⟨(.exit 0), [.mask [3], .auto 0], ⟨us 3 ++ .vsl 0 :: us 21, [.vec (.int .i64)]⟩⟩]
abbrev QL.τ : Type := ((List Int) × Unit)
def QL.c (k : Nat) {ρ : Type} (l : (List ByteArray)) (K : QL.τ → Option ρ) : Option ρ :=
 (QL.l0 k k ((20 : Int), (l, ((((List.length l) : Nat) : Int), ((0 : Int), ([], ())))))).bind fun t5 => K (t5.1, ())
def QL (k : Nat) (l : (List ByteArray)) : Option QL.τ := QL.c k l some
def QL.T : Q15 := ⟨[.dat (.sl .str)], [], 0⟩
def QL.os : List Out := [⟨.ret, [.auto 0], ⟨[.vsl 0], [.vec (.int .i64)]⟩⟩]
def QL.sem (k : Nat) : QS := Q17 QL.T QL.os fun x => QL k x.1
noncomputable def QL.ctx (k : Nat) : Ctx := ⟨Try.prog, gam []⟩
theorem QL.gok (k : Nat) : ∀ f, Qu Try.prog f ((QL.ctx k).Γ f) := Q0e
theorem QL.l0.round (k : Nat) : Q1j (QL.ctx k) (Q0O (Func.code Try.f54) [1, 1, 1, 0, 1, 0, 0]) (.nil) QL.l0.T [.mask [3, 4, 7, 8, 9], .auto 0] QL.l0.os (QL.l0.r k) := by
 intro ρ x kn ke; kernel_rfl
theorem QL.l0.ok (k : Nat) : StOK 0 Try.prog (.loop (Q0O (Func.code Try.f54) [1, 1, 1, 0, 1, 0, 0])) (Q05 QL.l0.T QL.l0.os (QL.l0 k k)) :=
 Q1m (C := QL.ctx k) (QL.gok k) Try.mix Q2.nil (by kernel_rfl) (by kernel_rfl) (by kernel_rfl) (QL.l0.round k) k
def QL.ann (k : Nat) : Ann := .node [] none (.nil) (.node [] none (.nil) (.node [] none (.nil) (.node [] none (.node [] none (.nil) (.node [] none (.node [.own (.slot 3) (.int .i64)] (some (Q05 QL.l0.T QL.l0.os (QL.l0 k k))) .nil .nil) (.nil))) (.nil))))
theorem QL.body (k : Nat) : Q18 (QL.ctx k) Try.f54 (Func.code Try.f54) (QL.ann k) QL.T QL.os (fun x K => QL.c k x.1 K) := by
 intro ρ x K; kernel_rfl
theorem QL.sem_ok (k : Nat) : Qu Try.prog 54 (QL.sem k) :=
 Q0u (C := QL.ctx k) (QL.gok k) Try.mix (c := Func.code Try.f54) (ann := QL.ann k) (T := QL.T) (os := QL.os) (fun x K => QL.c k x.1 K) Try.func54 (by kernel_rfl) (by kernel_rfl) (Q2.seq Q2.nil (Q2.seq Q2.nil (Q2.seq Q2.nil (Q2.seq (Q2.seq Q2.nil (Q2.block (Q2.loop (by kernel_rfl) (QL.l0.ok k)))) Q2.nil)))) (QL.body k) (by kernel_rfl) (by kernel_rfl) (by kernel_rfl)
abbrev Q0a.τ : Type := QeO 
def Q0a.c (k : Nat) {ρ : Type} (name : ByteArray) (b0 : Qf4) (b1 : Qf8) (b2 : Qf8) (b3 : Qf1) (K : Q0a.τ → Option ρ) : Option ρ :=
 (Q0o k (List.set (List.replicate 1 ByteArray.empty) 0 name) ((), ((), ((), (b0.2.2.2.1, ((), (b0.2.2.2.2.2.1, ())))))) b1 b2 b3).bind fun t0 => bif (t0.1 != (0 : Int)) then (K ((⟨(List.toArray [])⟩ : ByteArray), (t0.1, (((), ((), ((), (t0.2.1.2.2.2.1, ((), (t0.2.1.2.2.2.2.2.1, ())))))), (t0.2.2.1, (t0.2.2.2.1, (t0.2.2.2.2.1, ()))))))) else (let v1 : ByteArray := (Option.getD (mget Ty.str name t0.2.2.2.1) ByteArray.empty)
 bif (!(Option.isSome (mget Ty.str name t0.2.2.2.1))) then (K ((⟨(List.toArray [])⟩ : ByteArray), ((2 : Int), (((), ((), ((), (t0.2.1.2.2.2.1, ((), (t0.2.1.2.2.2.2.2.1, ())))))), (t0.2.2.1, (t0.2.2.2.1, (t0.2.2.2.2.1, ()))))))) else (K (v1, ((0 : Int), (((), ((), ((), (t0.2.1.2.2.2.1, ((), (t0.2.1.2.2.2.2.2.1, ())))))), (t0.2.2.1, (t0.2.2.2.1, (t0.2.2.2.2.1, ()))))))))
def Q0a (k : Nat) (name : ByteArray) (b0 : Qf4) (b1 : Qf8) (b2 : Qf8) (b3 : Qf1) : Option Q0a.τ := Q0a.c k name b0 b1 b2 b3 some
def Q0a.T : Q15 := ⟨[.ptr 0 [], .dat .str], [.pair (.mp 1) (.pair (.mp 2) (.pair (.vsl 3) (.pair (.dat (.int .i64)) (.pair (.nils) (.dat Qf9))))), .mpd .str .str, .mpd .str .str, .vec QeZ], 3⟩
def Q0a.os : List Out := [⟨.ret, [.freeze (.slot 0), .freeze (.slot 1), .auto 3], ⟨[.dat .str, .dat (.int .i64)], [.pair (.mp 1) (.pair (.mp 2) (.pair (.vsl 3) (.pair (.dat (.int .i64)) (.pair (.nils) (.dat Qf9))))), .mpd .str .str, .mpd .str .str, .vec QeZ]⟩⟩]
def Q0a.sem (k : Nat) : QS := Q17 Q0a.T Q0a.os fun x => Q0a k x.1 x.2.1 x.2.2.1 x.2.2.2.1 x.2.2.2.2.1
noncomputable def Q0a.ctx (k : Nat) : Ctx := ⟨Try.prog, gam [(79, (Q0o.sem k))]⟩
theorem Q0a.gok (k : Nat) : ∀ f, Qu Try.prog f ((Q0a.ctx k).Γ f) := (Qf (Q0o.sem_ok k) Q0e)
def Q0a.ann (k : Nat) : Ann := .nil
theorem Q0a.body (k : Nat) : Q18 (Q0a.ctx k) Try.f73 (Func.code Try.f73) (Q0a.ann k) Q0a.T Q0a.os (fun x K => Q0a.c k x.1 x.2.1 x.2.2.1 x.2.2.2.1 x.2.2.2.2.1 K) := by
 intro ρ x K; kernel_rfl
theorem Q0a.sem_ok (k : Nat) : Qu Try.prog 73 (Q0a.sem k) :=
 Q0u (C := Q0a.ctx k) (Q0a.gok k) Try.mix (c := Func.code Try.f73) (ann := Q0a.ann k) (T := Q0a.T) (os := Q0a.os) (fun x K => Q0a.c k x.1 x.2.1 x.2.2.1 x.2.2.2.1 x.2.2.2.2.1 K) Try.func73 (by kernel_rfl) (by kernel_rfl) Q2.nil (Q0a.body k) (by kernel_rfl) (by kernel_rfl) (by kernel_rfl)
abbrev Q0m.τ : Type := QeR 
def Q0m.c (k : Nat) {ρ : Type} (name : ByteArray) (n : Int) (b0 : Qf4) (b1 : Qf8) (b2 : Qf8) (b3 : Qf1) (K : Q0m.τ → Option ρ) : Option ρ :=
 (Q0a k name ((), ((), ((), (b0.2.2.2.1, ((), (b0.2.2.2.2.2.1, ())))))) b1 b2 b3).bind fun t0 => let v1 : ByteArray := t0.1
 let v2 : Int := t0.2.1
 bif (v2 != (0 : Int)) then (K (v2, (((), ((), ((), (t0.2.2.1.2.2.2.1, ((), (t0.2.2.1.2.2.2.2.2.1, ())))))), (t0.2.2.2.1, (t0.2.2.2.2.1, (t0.2.2.2.2.2.1, ())))))) else (bif (decide (n < (0 : Int))) then (K ((1 : Int), (((), ((), ((), (t0.2.2.1.2.2.2.1, ((), (t0.2.2.1.2.2.2.2.2.1, ())))))), (t0.2.2.2.1, (t0.2.2.2.2.1, (t0.2.2.2.2.2.1, ())))))) else (bif (decide (n > (((ByteArray.size v1) : Nat) : Int))) then (K ((1 : Int), (((), ((), ((), (t0.2.2.1.2.2.2.1, ((), (t0.2.2.1.2.2.2.2.2.1, ())))))), (t0.2.2.2.1, (t0.2.2.2.2.1, (t0.2.2.2.2.2.1, ())))))) else ((Q0l k ((1 : Int), (name, ((⟨(List.toArray [])⟩ : ByteArray), (n, ((⟨(List.toArray [])⟩ : ByteArray), ()))))) ((), ((), ((), (t0.2.2.1.2.2.2.1, ((), (t0.2.2.1.2.2.2.2.2.1, ())))))) t0.2.2.2.1 t0.2.2.2.2.1 t0.2.2.2.2.2.1).bind fun t3 => K (t3.1, (((), ((), ((), (t3.2.1.2.2.2.1, ((), (t3.2.1.2.2.2.2.2.1, ())))))), (t3.2.2.1, (t3.2.2.2.1, (t3.2.2.2.2.1, ()))))))))
def Q0m (k : Nat) (name : ByteArray) (n : Int) (b0 : Qf4) (b1 : Qf8) (b2 : Qf8) (b3 : Qf1) : Option Q0m.τ := Q0m.c k name n b0 b1 b2 b3 some
def Q0m.T : Q15 := ⟨[.ptr 0 [], .dat .str, .dat (.int .i64)], [.pair (.mp 1) (.pair (.mp 2) (.pair (.vsl 3) (.pair (.dat (.int .i64)) (.pair (.nils) (.dat Qf9))))), .mpd .str .str, .mpd .str .str, .vec QeZ], 3⟩
def Q0m.os : List Out := [⟨.ret, [.freeze (.slot 0), .auto 3], ⟨[.dat (.int .i64)], [.pair (.mp 1) (.pair (.mp 2) (.pair (.vsl 3) (.pair (.dat (.int .i64)) (.pair (.nils) (.dat Qf9))))), .mpd .str .str, .mpd .str .str, .vec QeZ]⟩⟩]
def Q0m.sem (k : Nat) : QS := Q17 Q0m.T Q0m.os fun x => Q0m k x.1 x.2.1 x.2.2.1 x.2.2.2.1 x.2.2.2.2.1 x.2.2.2.2.2.1
noncomputable def Q0m.ctx (k : Nat) : Ctx := ⟨Try.prog, gam [(73, (Q0a.sem k)), (74, (Q0l.sem k))]⟩
theorem Q0m.gok (k : Nat) : ∀ f, Qu Try.prog f ((Q0m.ctx k).Γ f) := (Qf (Q0a.sem_ok k) (Qf (Q0l.sem_ok k) Q0e))
def Q0m.ann (k : Nat) : Ann := .nil
theorem Q0m.body (k : Nat) : Q18 (Q0m.ctx k) Try.f55 (Func.code Try.f55) (Q0m.ann k) Q0m.T Q0m.os (fun x K => Q0m.c k x.1 x.2.1 x.2.2.1 x.2.2.2.1 x.2.2.2.2.1 x.2.2.2.2.2.1 K) := by
 intro ρ x K; kernel_rfl
theorem Q0m.sem_ok (k : Nat) : Qu Try.prog 55 (Q0m.sem k) :=
 Q0u (C := Q0m.ctx k) (Q0m.gok k) Try.mix (c := Func.code Try.f55) (ann := Q0m.ann k) (T := Q0m.T) (os := Q0m.os) (fun x K => Q0m.c k x.1 x.2.1 x.2.2.1 x.2.2.2.1 x.2.2.2.2.1 x.2.2.2.2.2.1 K) Try.func55 (by kernel_rfl) (by kernel_rfl) Q2.nil (Q0m.body k) (by kernel_rfl) (by kernel_rfl) (by kernel_rfl)
abbrev Q0y.τ : Type := QeO 
def Q0y.c (k : Nat) {ρ : Type} (name : ByteArray) (b0 : Qf4) (b1 : Qf8) (b2 : Qf8) (b3 : Qf1) (K : Q0y.τ → Option ρ) : Option ρ :=
 (Q0a k name ((), ((), ((), (b0.2.2.2.1, ((), (b0.2.2.2.2.2.1, ())))))) b1 b2 b3).bind fun t0 => let v1 : ByteArray := t0.1
 let v2 : Int := t0.2.1
 K (v1, (v2, (((), ((), ((), (t0.2.2.1.2.2.2.1, ((), (t0.2.2.1.2.2.2.2.2.1, ())))))), (t0.2.2.2.1, (t0.2.2.2.2.1, (t0.2.2.2.2.2.1, ()))))))
def Q0y (k : Nat) (name : ByteArray) (b0 : Qf4) (b1 : Qf8) (b2 : Qf8) (b3 : Qf1) : Option Q0y.τ := Q0y.c k name b0 b1 b2 b3 some
def Q0y.T : Q15 := ⟨[.ptr 0 [], .dat .str], [.pair (.mp 1) (.pair (.mp 2) (.pair (.vsl 3) (.pair (.dat (.int .i64)) (.pair (.nils) (.dat Qf9))))), .mpd .str .str, .mpd .str .str, .vec QeZ], 3⟩
def Q0y.os : List Out := [⟨.ret, [.freeze (.slot 0), .freeze (.slot 1), .auto 3], ⟨[.dat .str, .dat (.int .i64)], [.pair (.mp 1) (.pair (.mp 2) (.pair (.vsl 3) (.pair (.dat (.int .i64)) (.pair (.nils) (.dat Qf9))))), .mpd .str .str, .mpd .str .str, .vec QeZ]⟩⟩]
def Q0y.sem (k : Nat) : QS := Q17 Q0y.T Q0y.os fun x => Q0y k x.1 x.2.1 x.2.2.1 x.2.2.2.1 x.2.2.2.2.1
noncomputable def Q0y.ctx (k : Nat) : Ctx := ⟨Try.prog, gam [(73, (Q0a.sem k))]⟩
theorem Q0y.gok (k : Nat) : ∀ f, Qu Try.prog f ((Q0y.ctx k).Γ f) := (Qf (Q0a.sem_ok k) Q0e)
def Q0y.ann (k : Nat) : Ann := .nil
theorem Q0y.body (k : Nat) : Q18 (Q0y.ctx k) Try.f51 (Func.code Try.f51) (Q0y.ann k) Q0y.T Q0y.os (fun x K => Q0y.c k x.1 x.2.1 x.2.2.1 x.2.2.2.1 x.2.2.2.2.1 K) := by
 intro ρ x K; kernel_rfl
theorem Q0y.sem_ok (k : Nat) : Qu Try.prog 51 (Q0y.sem k) :=
 Q0u (C := Q0y.ctx k) (Q0y.gok k) Try.mix (c := Func.code Try.f51) (ann := Q0y.ann k) (T := Q0y.T) (os := Q0y.os) (fun x K => Q0y.c k x.1 x.2.1 x.2.2.1 x.2.2.2.1 x.2.2.2.2.1 K) Try.func51 (by kernel_rfl) (by kernel_rfl) Q2.nil (Q0y.body k) (by kernel_rfl) (by kernel_rfl) (by kernel_rfl)
abbrev Q0A.τ : Type := (Int × Int × Qf4 × Qf8 × Qf8 × Qf1 × Unit)
def Q0A.c (k : Nat) {ρ : Type} (name : ByteArray) (b0 : Qf4) (b1 : Qf8) (b2 : Qf8) (b3 : Qf1) (K : Q0A.τ → Option ρ) : Option ρ :=
 (Q0a k name ((), ((), ((), (b0.2.2.2.1, ((), (b0.2.2.2.2.2.1, ())))))) b1 b2 b3).bind fun t0 => let v1 : ByteArray := t0.1
 let v2 : Int := t0.2.1
 K ((((ByteArray.size v1) : Nat) : Int), (v2, (((), ((), ((), (t0.2.2.1.2.2.2.1, ((), (t0.2.2.1.2.2.2.2.2.1, ())))))), (t0.2.2.2.1, (t0.2.2.2.2.1, (t0.2.2.2.2.2.1, ()))))))
def Q0A (k : Nat) (name : ByteArray) (b0 : Qf4) (b1 : Qf8) (b2 : Qf8) (b3 : Qf1) : Option Q0A.τ := Q0A.c k name b0 b1 b2 b3 some
def Q0A.T : Q15 := ⟨[.ptr 0 [], .dat .str], [.pair (.mp 1) (.pair (.mp 2) (.pair (.vsl 3) (.pair (.dat (.int .i64)) (.pair (.nils) (.dat Qf9))))), .mpd .str .str, .mpd .str .str, .vec QeZ], 3⟩
def Q0A.os : List Out := [⟨.ret, [.freeze (.slot 0), .freeze (.slot 1), .auto 3], ⟨[.dat (.int .i64), .dat (.int .i64)], [.pair (.mp 1) (.pair (.mp 2) (.pair (.vsl 3) (.pair (.dat (.int .i64)) (.pair (.nils) (.dat Qf9))))), .mpd .str .str, .mpd .str .str, .vec QeZ]⟩⟩]
def Q0A.sem (k : Nat) : QS := Q17 Q0A.T Q0A.os fun x => Q0A k x.1 x.2.1 x.2.2.1 x.2.2.2.1 x.2.2.2.2.1
noncomputable def Q0A.ctx (k : Nat) : Ctx := ⟨Try.prog, gam [(73, (Q0a.sem k))]⟩
theorem Q0A.gok (k : Nat) : ∀ f, Qu Try.prog f ((Q0A.ctx k).Γ f) := (Qf (Q0a.sem_ok k) Q0e)
def Q0A.ann (k : Nat) : Ann := .nil
theorem Q0A.body (k : Nat) : Q18 (Q0A.ctx k) Try.f86 (Func.code Try.f86) (Q0A.ann k) Q0A.T Q0A.os (fun x K => Q0A.c k x.1 x.2.1 x.2.2.1 x.2.2.2.1 x.2.2.2.2.1 K) := by
 intro ρ x K; kernel_rfl
theorem Q0A.sem_ok (k : Nat) : Qu Try.prog 86 (Q0A.sem k) :=
 Q0u (C := Q0A.ctx k) (Q0A.gok k) Try.mix (c := Func.code Try.f86) (ann := Q0A.ann k) (T := Q0A.T) (os := Q0A.os) (fun x K => Q0A.c k x.1 x.2.1 x.2.2.1 x.2.2.2.1 x.2.2.2.2.1 K) Try.func86 (by kernel_rfl) (by kernel_rfl) Q2.nil (Q0A.body k) (by kernel_rfl) (by kernel_rfl) (by kernel_rfl)
abbrev Qq.p0.σ : Type := ByteArray × Qf4 × Qf8 × Qf8 × Qf1 × Unit
abbrev Qq.p0.τ : Type := QeR ⊕ QeP 
def Qq.p0.r (k : Nat) {ρ : Type} (x : Qq.p0.σ) (K : Qq.p0.τ → Option ρ) : Option ρ :=
 (Q0A k x.1 ((), ((), ((), (x.2.1.2.2.2.1, ((), (x.2.1.2.2.2.2.2.1, ())))))) x.2.2.1 x.2.2.2.1 x.2.2.2.2.1).bind fun t0 => let v1 : Int := t0.1
 let v2 : Int := t0.2.1
 bif (v2 == (0 : Int)) then ((Q0m k x.1 (0 : Int) ((), ((), ((), (t0.2.2.1.2.2.2.1, ((), (t0.2.2.1.2.2.2.2.2.1, ())))))) t0.2.2.2.1 t0.2.2.2.2.1 t0.2.2.2.2.2.1).bind fun t3 => bif (t3.1 != (0 : Int)) then (K (.inl (t3.1, (((), ((), ((), (t3.2.1.2.2.2.1, ((), (t3.2.1.2.2.2.2.2.1, ())))))), (t3.2.2.1, (t3.2.2.2.1, (t3.2.2.2.2.1, ()))))))) else (K (.inr (x.1, (((), ((), ((), (t3.2.1.2.2.2.1, ((), (t3.2.1.2.2.2.2.2.1, ())))))), (t3.2.2.1, (t3.2.2.2.1, (t3.2.2.2.2.1, ())))))))) else (K (.inr (x.1, (((), ((), ((), (t0.2.2.1.2.2.2.1, ((), (t0.2.2.1.2.2.2.2.2.1, ())))))), (t0.2.2.2.1, (t0.2.2.2.2.1, (t0.2.2.2.2.2.1, ())))))))
def Qq.p0 (k : Nat) (x : Qq.p0.σ) : Option Qq.p0.τ := Qq.p0.r k x some
def Qq.p0.T : StT := ⟨.ptr 0 [] :: .dat .str :: us 30, [.pair (.mp 1) (.pair (.mp 2) (.pair (.vsl 3) (.pair (.dat (.int .i64)) (.pair (.nils) (.dat Qf9))))), .mpd .str .str, .mpd .str .str, .vec QeZ]⟩
def Qq.p0.os : List Out := [⟨.ret, [.mask [4], .auto 3], ⟨us 4 ++ .dat (.int .i64) :: us 27, [.pair (.mp 1) (.pair (.mp 2) (.pair (.vsl 3) (.pair (.dat (.int .i64)) (.pair (.nils) (.dat Qf9))))), .mpd .str .str, .mpd .str .str, .vec QeZ]⟩⟩, ⟨.normal, [.mask [0, 1], .auto 3], ⟨.ptr 0 [] :: .dat .str :: us 30, [.pair (.mp 1) (.pair (.mp 2) (.pair (.vsl 3) (.pair (.dat (.int .i64)) (.pair (.nils) (.dat Qf9))))), .mpd .str .str, .mpd .str .str, .vec QeZ]⟩⟩]
abbrev Qq.τ : Type := QeR ⊕ QeX 
def Qq.c (k : Nat) {ρ : Type} (name : ByteArray) (b0 : Qf4) (b1 : Qf8) (b2 : Qf8) (b3 : Qf1) (K : Qq.τ → Option ρ) : Option ρ :=
  (Qq.p0 k (name, (((), ((), ((), (b0.2.2.2.1, ((), (b0.2.2.2.2.2.1, ())))))), (b1, (b2, (b3, ())))))).bind fun t4 => (match t4 with
 | .inl t5 => (K (.inl (t5.1, (((), ((), ((), (t5.2.1.2.2.2.1, ((), (t5.2.1.2.2.2.2.2.1, ())))))), (t5.2.2.1, (t5.2.2.2.1, (t5.2.2.2.2.1, ())))))))
 | .inr (t6) => ((Q0p k (0 : Int)).bind fun t7 => (Q08 k t6.1 (0 : Int) t7.1 ((), ((), ((), (t6.2.1.2.2.2.1, ((), (t6.2.1.2.2.2.2.2.1, ())))))) t6.2.2.1 t6.2.2.2.1 t6.2.2.2.2.1).bind fun t8 => bif (t8.1 != (0 : Int)) then (K (.inl (t8.1, (((), ((), ((), (t8.2.1.2.2.2.1, ((), (t8.2.1.2.2.2.2.2.1, ())))))), (t8.2.2.1, (t8.2.2.2.1, (t8.2.2.2.2.1, ()))))))) else ((Q4 k ((), ((), ((), (t8.2.1.2.2.2.1, ((), (t8.2.1.2.2.2.2.2.1, ())))))) t8.2.2.1 t8.2.2.2.1 t8.2.2.2.2.1).bind fun t9 => (match t9 with
 | .inl t10 => (K (.inl (t10.1, (((), ((), ((), (t10.2.1.2.2.2.1, ((), (t10.2.1.2.2.2.2.2.1, ())))))), (t10.2.2.1, (t10.2.2.2.1, (t10.2.2.2.2.1, ())))))))
 | .inr (t11) => (K (.inr (t11.1, (((), ((), ((), (t11.2.1.2.2.2.1, ((), (t11.2.1.2.2.2.2.2.1, ())))))), (t11.2.2.1, (t11.2.2.2.1, ()))))))))))
def Qq (k : Nat) (name : ByteArray) (b0 : Qf4) (b1 : Qf8) (b2 : Qf8) (b3 : Qf1) : Option Qq.τ := Qq.c k name b0 b1 b2 b3 some
def Qq.T : Q15 := ⟨[.ptr 0 [], .dat .str], [.pair (.mp 1) (.pair (.mp 2) (.pair (.vsl 3) (.pair (.dat (.int .i64)) (.pair (.nils) (.dat Qf9))))), .mpd .str .str, .mpd .str .str, .vec QeZ], 3⟩
def Qq.os : List Out := [⟨.ret, [.freeze (.slot 0), .auto 3], ⟨[.dat (.int .i64)], [.pair (.mp 1) (.pair (.mp 2) (.pair (.vsl 3) (.pair (.dat (.int .i64)) (.pair (.nils) (.dat Qf9))))), .mpd .str .str, .mpd .str .str, .vec QeZ]⟩⟩, ⟨.ret, [.freeze (.slot 0), .auto 3], ⟨[.dat (.int .i64)], [.pair (.mp 1) (.pair (.mp 2) (.pair (.nils) (.pair (.dat (.int .i64)) (.pair (.nils) (.dat Qf9))))), .mpd .str .str, .mpd .str .str]⟩⟩]
def Qq.sem (k : Nat) : QS := Q17 Qq.T Qq.os fun x => Qq k x.1 x.2.1 x.2.2.1 x.2.2.2.1 x.2.2.2.2.1
noncomputable def Qq.ctx (k : Nat) : Ctx := ⟨Try.prog, gam [(86, (Q0A.sem k)), (55, (Q0m.sem k)), (9, (Q0p.sem k)), (72, (Q08.sem k)), (56, (Q4.sem k))]⟩
theorem Qq.gok (k : Nat) : ∀ f, Qu Try.prog f ((Qq.ctx k).Γ f) := (Qf (Q0A.sem_ok k) (Qf (Q0m.sem_ok k) (Qf (Q0p.sem_ok k) (Qf (Q08.sem_ok k) (Qf (Q4.sem_ok k) Q0e)))))
theorem Qq.p0.is (k : Nat) : Q26 (Qq.ctx k) (Q0O (Func.code Try.f75) [1, 0]) (.nil) Qq.p0.T Qq.p0.os (Qq.p0.r k) := by
 intro ρ x K; kernel_rfl
theorem Qq.p0.ok (k : Nat) : StOK 3 Try.prog (Q0O (Func.code Try.f75) [1, 0]) (Q05 Qq.p0.T Qq.p0.os (Qq.p0 k)) :=
 Q1T (C := Qq.ctx k) (T := Qq.p0.T) (os := Qq.p0.os) (Qq.gok k) Try.mix (fun x K => Qq.p0.r k x K) Q2.nil (by kernel_rfl) (by kernel_rfl) (Qq.p0.is k)
def Qq.ann (k : Nat) : Ann := .node [] none (.nil) (.node [] none (.node [.mask [0, 1], .auto 3] (some (Q05 Qq.p0.T Qq.p0.os (Qq.p0 k))) .nil .nil) (.nil))
theorem Qq.body (k : Nat) : Q18 (Qq.ctx k) Try.f75 (Func.code Try.f75) (Qq.ann k) Qq.T Qq.os (fun x K => Qq.c k x.1 x.2.1 x.2.2.1 x.2.2.2.1 x.2.2.2.2.1 K) := by
 intro ρ x K; kernel_rfl
theorem Qq.sem_ok (k : Nat) : Qu Try.prog 75 (Qq.sem k) :=
 Q0u (C := Qq.ctx k) (Qq.gok k) Try.mix (c := Func.code Try.f75) (ann := Qq.ann k) (T := Qq.T) (os := Qq.os) (fun x K => Qq.c k x.1 x.2.1 x.2.2.1 x.2.2.2.1 x.2.2.2.2.1 K) Try.func75 (by kernel_rfl) (by kernel_rfl) (Q2.seq Q2.nil (Q2.seq (Q2.loop (by kernel_rfl) (Qq.p0.ok k)) Q2.nil)) (Qq.body k) (by kernel_rfl) (by kernel_rfl) (by kernel_rfl)
abbrev Qn.p0.σ : Type := ByteArray × ByteArray × Int × Qf4 × Qf8 × Qf8 × Qf1 × Unit
abbrev Qn.p0.τ : Type := QeO ⊕ (ByteArray × ByteArray × Qf4 × Qf8 × Qf8 × Qf1 × Unit)
def Qn.p0.r (k : Nat) {ρ : Type} (x : Qn.p0.σ) (K : Qn.p0.τ → Option ρ) : Option ρ :=
 bif (x.2.2.1 != (0 : Int)) then (bif (x.2.2.1 != (2 : Int)) then (K (.inl ((⟨(List.toArray [])⟩ : ByteArray), (x.2.2.1, (((), ((), ((), (x.2.2.2.1.2.2.2.1, ((), (x.2.2.2.1.2.2.2.2.2.1, ())))))), (x.2.2.2.2.1, (x.2.2.2.2.2.1, (x.2.2.2.2.2.2.1, ())))))))) else (K (.inr (x.1, (x.2.1, (((), ((), ((), (x.2.2.2.1.2.2.2.1, ((), (x.2.2.2.1.2.2.2.2.2.1, ())))))), (x.2.2.2.2.1, (x.2.2.2.2.2.1, (x.2.2.2.2.2.2.1, ()))))))))) else (K (.inr (x.1, (x.2.1, (((), ((), ((), (x.2.2.2.1.2.2.2.1, ((), (x.2.2.2.1.2.2.2.2.2.1, ())))))), (x.2.2.2.2.1, (x.2.2.2.2.2.1, (x.2.2.2.2.2.2.1, ()))))))))
def Qn.p0 (k : Nat) (x : Qn.p0.σ) : Option Qn.p0.τ := Qn.p0.r k x some
def Qn.p0.T : StT := ⟨.ptr 0 [] :: .dat .str :: us 4 ++ .dat .str :: .dat (.int .i64) :: us 25, [.pair (.mp 1) (.pair (.mp 2) (.pair (.vsl 3) (.pair (.dat (.int .i64)) (.pair (.nils) (.dat Qf9))))), .mpd .str .str, .mpd .str .str, .vec QeZ]⟩
def Qn.p0.os : List Out := [⟨.ret, [.mask [4, 5], .auto 3], ⟨us 4 ++ .dat .str :: .dat (.int .i64) :: us 27, [.pair (.mp 1) (.pair (.mp 2) (.pair (.vsl 3) (.pair (.dat (.int .i64)) (.pair (.nils) (.dat Qf9))))), .mpd .str .str, .mpd .str .str, .vec QeZ]⟩⟩, ⟨.normal, [.mask [0, 1, 6], .auto 3], ⟨.ptr 0 [] :: .dat .str :: us 4 ++ .dat .str :: us 26, [.pair (.mp 1) (.pair (.mp 2) (.pair (.vsl 3) (.pair (.dat (.int .i64)) (.pair (.nils) (.dat Qf9))))), .mpd .str .str, .mpd .str .str, .vec QeZ]⟩⟩]
abbrev Qn.τ : Type := QeO ⊕ QeU 
def Qn.c (k : Nat) {ρ : Type} (name : ByteArray) (b0 : Qf4) (b1 : Qf8) (b2 : Qf8) (b3 : Qf1) (K : Qn.τ → Option ρ) : Option ρ :=
  (Q0y k name ((), ((), ((), (b0.2.2.2.1, ((), (b0.2.2.2.2.2.1, ())))))) b1 b2 b3).bind fun t0 => let v1 : ByteArray := t0.1
  let v2 : Int := t0.2.1
  (Qn.p0 k (name, (v1, (v2, (((), ((), ((), (t0.2.2.1.2.2.2.1, ((), (t0.2.2.1.2.2.2.2.2.1, ())))))), (t0.2.2.2.1, (t0.2.2.2.2.1, (t0.2.2.2.2.2.1, ())))))))).bind fun t3 => (match t3 with
 | .inl t4 => (K (.inl (t4.1, (t4.2.1, (((), ((), ((), (t4.2.2.1.2.2.2.1, ((), (t4.2.2.1.2.2.2.2.2.1, ())))))), (t4.2.2.2.1, (t4.2.2.2.2.1, (t4.2.2.2.2.2.1, ()))))))))
 | .inr (t5) => (let v6 : Int := (((ByteArray.size t5.2.1) : Nat) : Int)
  bif (decide (v6 ≥ (20 : Int))) then (K (.inl (t5.2.1, ((0 : Int), (((), ((), ((), (t5.2.2.1.2.2.2.1, ((), (t5.2.2.1.2.2.2.2.2.1, ())))))), (t5.2.2.2.1, (t5.2.2.2.2.1, (t5.2.2.2.2.2.1, ())))))))) else ((Qq k t5.1 ((), ((), ((), (t5.2.2.1.2.2.2.1, ((), (t5.2.2.1.2.2.2.2.2.1, ())))))) t5.2.2.2.1 t5.2.2.2.2.1 t5.2.2.2.2.2.1).bind fun t7 => (match t7 with
 | .inl t8 => (bif (t8.1 != (0 : Int)) then (K (.inl ((⟨(List.toArray [])⟩ : ByteArray), (t8.1, (((), ((), ((), (t8.2.1.2.2.2.1, ((), (t8.2.1.2.2.2.2.2.1, ())))))), (t8.2.2.1, (t8.2.2.2.1, (t8.2.2.2.2.1, ())))))))) else ((Q0p k (0 : Int)).bind fun t9 => K (.inl (t9.1, ((0 : Int), (((), ((), ((), (t8.2.1.2.2.2.1, ((), (t8.2.1.2.2.2.2.2.1, ())))))), (t8.2.2.1, (t8.2.2.2.1, (t8.2.2.2.2.1, ())))))))))
 | .inr (t10) => (bif (t10.1 != (0 : Int)) then (K (.inr ((⟨(List.toArray [])⟩ : ByteArray), (t10.1, (((), ((), ((), (t10.2.1.2.2.2.1, ((), (t10.2.1.2.2.2.2.2.1, ())))))), (t10.2.2.1, (t10.2.2.2.1, ()))))))) else ((Q0p k (0 : Int)).bind fun t11 => K (.inr (t11.1, ((0 : Int), (((), ((), ((), (t10.2.1.2.2.2.1, ((), (t10.2.1.2.2.2.2.2.1, ())))))), (t10.2.2.1, (t10.2.2.2.1, ()))))))))))))
def Qn (k : Nat) (name : ByteArray) (b0 : Qf4) (b1 : Qf8) (b2 : Qf8) (b3 : Qf1) : Option Qn.τ := Qn.c k name b0 b1 b2 b3 some
def Qn.T : Q15 := ⟨[.ptr 0 [], .dat .str], [.pair (.mp 1) (.pair (.mp 2) (.pair (.vsl 3) (.pair (.dat (.int .i64)) (.pair (.nils) (.dat Qf9))))), .mpd .str .str, .mpd .str .str, .vec QeZ], 3⟩
def Qn.os : List Out := [⟨.ret, [.freeze (.slot 0), .freeze (.slot 1), .auto 3], ⟨[.dat .str, .dat (.int .i64)], [.pair (.mp 1) (.pair (.mp 2) (.pair (.vsl 3) (.pair (.dat (.int .i64)) (.pair (.nils) (.dat Qf9))))), .mpd .str .str, .mpd .str .str, .vec QeZ]⟩⟩, ⟨.ret, [.freeze (.slot 0), .freeze (.slot 1), .auto 3], ⟨[.dat .str, .dat (.int .i64)], [.pair (.mp 1) (.pair (.mp 2) (.pair (.nils) (.pair (.dat (.int .i64)) (.pair (.nils) (.dat Qf9))))), .mpd .str .str, .mpd .str .str]⟩⟩]
def Qn.sem (k : Nat) : QS := Q17 Qn.T Qn.os fun x => Qn k x.1 x.2.1 x.2.2.1 x.2.2.2.1 x.2.2.2.2.1
noncomputable def Qn.ctx (k : Nat) : Ctx := ⟨Try.prog, gam [(51, (Q0y.sem k)), (75, (Qq.sem k)), (9, (Q0p.sem k))]⟩
theorem Qn.gok (k : Nat) : ∀ f, Qu Try.prog f ((Qn.ctx k).Γ f) := (Qf (Q0y.sem_ok k) (Qf (Qq.sem_ok k) (Qf (Q0p.sem_ok k) Q0e)))
theorem Qn.p0.is (k : Nat) : Q26 (Qn.ctx k) (Q0O (Func.code Try.f53) [1, 1, 0]) (.nil) Qn.p0.T Qn.p0.os (Qn.p0.r k) := by
 intro ρ x K; kernel_rfl
theorem Qn.p0.ok (k : Nat) : StOK 3 Try.prog (Q0O (Func.code Try.f53) [1, 1, 0]) (Q05 Qn.p0.T Qn.p0.os (Qn.p0 k)) :=
 Q1T (C := Qn.ctx k) (T := Qn.p0.T) (os := Qn.p0.os) (Qn.gok k) Try.mix (fun x K => Qn.p0.r k x K) Q2.nil (by kernel_rfl) (by kernel_rfl) (Qn.p0.is k)
def Qn.ann (k : Nat) : Ann := .node [] none (.nil) (.node [] none (.nil) (.node [] none (.node [.mask [0, 1, 6, 7], .auto 3] (some (Q05 Qn.p0.T Qn.p0.os (Qn.p0 k))) .nil .nil) (.nil)))
theorem Qn.body (k : Nat) : Q18 (Qn.ctx k) Try.f53 (Func.code Try.f53) (Qn.ann k) Qn.T Qn.os (fun x K => Qn.c k x.1 x.2.1 x.2.2.1 x.2.2.2.1 x.2.2.2.2.1 K) := by
 intro ρ x K; kernel_rfl
theorem Qn.sem_ok (k : Nat) : Qu Try.prog 53 (Qn.sem k) :=
 Q0u (C := Qn.ctx k) (Qn.gok k) Try.mix (c := Func.code Try.f53) (ann := Qn.ann k) (T := Qn.T) (os := Qn.os) (fun x K => Qn.c k x.1 x.2.1 x.2.2.1 x.2.2.2.1 x.2.2.2.2.1 K) Try.func53 (by kernel_rfl) (by kernel_rfl) (Q2.seq Q2.nil (Q2.seq Q2.nil (Q2.seq (Q2.loop (by kernel_rfl) (Qn.p0.ok k)) Q2.nil))) (Qn.body k) (by kernel_rfl) (by kernel_rfl) (by kernel_rfl)
abbrev Q5.p0.σ : Type := ByteArray × Qf4 × Qf8 × Qf8 × Unit
abbrev Q5.p0.τ : Type := QeX ⊕ QeV 
def Q5.p0.r (k : Nat) {ρ : Type} (x : Q5.p0.σ) (K : Q5.p0.τ → Option ρ) : Option ρ :=
 let v0 : Int := (((ByteArray.size x.1) : Nat) : Int)
 bif (decide (v0 > (28 : Int))) then (K (.inl ((70 : Int), (((), ((), ((), (x.2.1.2.2.2.1, ((), (x.2.1.2.2.2.2.2.1, ())))))), (x.2.2.1, (x.2.2.2.1, ())))))) else ((Q11 k x.1).bind fun t1 => bif (!t1.1) then (K (.inl ((70 : Int), (((), ((), ((), (x.2.1.2.2.2.1, ((), (x.2.1.2.2.2.2.2.1, ())))))), (x.2.2.1, (x.2.2.2.1, ())))))) else (K (.inr (x.1, (((), ((), ((), (x.2.1.2.2.2.1, ((), (x.2.1.2.2.2.2.2.1, ())))))), (x.2.2.1, (x.2.2.2.1, ())))))))
def Q5.p0 (k : Nat) (x : Q5.p0.σ) : Option Q5.p0.τ := Q5.p0.r k x some
def Q5.p0.T : StT := ⟨.ptr 0 [] :: .dat .str :: us 123, [.pair (.mp 1) (.pair (.mp 2) (.pair (.nils) (.pair (.dat (.int .i64)) (.pair (.nils) (.dat Qf9))))), .mpd .str .str, .mpd .str .str]⟩
def Q5.p0.os : List Out := [⟨.ret, [.mask [4, 5], .auto 3], ⟨us 4 ++ .nilp :: .dat (.int .i64) :: us 119, [.pair (.mp 1) (.pair (.mp 2) (.pair (.nils) (.pair (.dat (.int .i64)) (.pair (.nils) (.dat Qf9))))), .mpd .str .str, .mpd .str .str]⟩⟩, ⟨.normal, [.mask [0, 1], .auto 3], ⟨.ptr 0 [] :: .dat .str :: us 123, [.pair (.mp 1) (.pair (.mp 2) (.pair (.nils) (.pair (.dat (.int .i64)) (.pair (.nils) (.dat Qf9))))), .mpd .str .str, .mpd .str .str]⟩⟩]
abbrev Q5.p1.σ : Type := ByteArray × ByteArray × Int × Qf4 × Qf8 × Qf8 × Unit
abbrev Q5.p1.τ : Type := QeX ⊕ QeT 
def Q5.p1.r (k : Nat) {ρ : Type} (x : Q5.p1.σ) (K : Q5.p1.τ → Option ρ) : Option ρ :=
 bif (x.2.2.1 != (0 : Int)) then (bif (x.2.2.1 != (2 : Int)) then (K (.inl (x.2.2.1, (((), ((), ((), (x.2.2.2.1.2.2.2.1, ((), (x.2.2.2.1.2.2.2.2.2.1, ())))))), (x.2.2.2.2.1, (x.2.2.2.2.2.1, ())))))) else (K (.inr (x.1, (x.2.1, (((), ((), ((), (x.2.2.2.1.2.2.2.1, ((), (x.2.2.2.1.2.2.2.2.2.1, ())))))), (x.2.2.2.2.1, (x.2.2.2.2.2.1, ())))))))) else (K (.inr (x.1, (x.2.1, (((), ((), ((), (x.2.2.2.1.2.2.2.1, ((), (x.2.2.2.1.2.2.2.2.2.1, ())))))), (x.2.2.2.2.1, (x.2.2.2.2.2.1, ())))))))
def Q5.p1 (k : Nat) (x : Q5.p1.σ) : Option Q5.p1.τ := Q5.p1.r k x some
def Q5.p1.T : StT := ⟨.ptr 0 [] :: .dat .str :: us 4 ++ .dat .str :: .dat (.int .i64) :: us 117, [.pair (.mp 1) (.pair (.mp 2) (.pair (.nils) (.pair (.dat (.int .i64)) (.pair (.nils) (.dat Qf9))))), .mpd .str .str, .mpd .str .str]⟩
def Q5.p1.os : List Out := [⟨.ret, [.mask [4, 5], .auto 3], ⟨us 4 ++ .nilp :: .dat (.int .i64) :: us 119, [.pair (.mp 1) (.pair (.mp 2) (.pair (.nils) (.pair (.dat (.int .i64)) (.pair (.nils) (.dat Qf9))))), .mpd .str .str, .mpd .str .str]⟩⟩, ⟨.normal, [.mask [0, 1, 6], .auto 3], ⟨.ptr 0 [] :: .dat .str :: us 4 ++ .dat .str :: us 118, [.pair (.mp 1) (.pair (.mp 2) (.pair (.nils) (.pair (.dat (.int .i64)) (.pair (.nils) (.dat Qf9))))), .mpd .str .str, .mpd .str .str]⟩⟩]
abbrev Q5.p2.σ : Type := ByteArray × ByteArray × Qf4 × Qf8 × Qf8 × Unit
abbrev Q5.p2.τ : Type := QeX ⊕ QeV 
def Q5.p2.r (k : Nat) {ρ : Type} (x : Q5.p2.σ) (K : Q5.p2.τ → Option ρ) : Option ρ :=
  let v11 : Int := (((ByteArray.size x.2.1) : Nat) : Int)
  bif (decide (v11 ≥ (20 : Int))) then ((Q9 k x.2.1).bind fun t12 => (match t12 with
 | .inl t13 => (let v14 : Int := t13.1
  let v15 : Int := t13.2.1
  let v16 : Int := t13.2.2.1
  bif (v16 != (0 : Int)) then (K (.inl (v16, (((), ((), ((), (x.2.2.1.2.2.2.1, ((), (x.2.2.1.2.2.2.2.2.1, ())))))), (x.2.2.2.1, (x.2.2.2.2.1, ())))))) else (K (.inr (x.1, (((), ((), ((), (x.2.2.1.2.2.2.1, ((), (x.2.2.1.2.2.2.2.2.1, ())))))), (x.2.2.2.1, (x.2.2.2.2.1, ())))))))
 | .inr (t17) => (let v18 : Int := t17.1
  let v19 : Int := t17.2.1
  let v20 : Int := t17.2.2.1
  bif (v20 != (0 : Int)) then (K (.inl (v20, (((), ((), ((), (x.2.2.1.2.2.2.1, ((), (x.2.2.1.2.2.2.2.2.1, ())))))), (x.2.2.2.1, (x.2.2.2.2.1, ())))))) else (K (.inr (x.1, (((), ((), ((), (x.2.2.1.2.2.2.1, ((), (x.2.2.1.2.2.2.2.2.1, ())))))), (x.2.2.2.1, (x.2.2.2.2.1, ()))))))))) else (K (.inr (x.1, (((), ((), ((), (x.2.2.1.2.2.2.1, ((), (x.2.2.1.2.2.2.2.2.1, ())))))), (x.2.2.2.1, (x.2.2.2.2.1, ()))))))
def Q5.p2 (k : Nat) (x : Q5.p2.σ) : Option Q5.p2.τ := Q5.p2.r k x some
def Q5.p2.T : StT := ⟨.ptr 0 [] :: .dat .str :: us 4 ++ .dat .str :: us 118, [.pair (.mp 1) (.pair (.mp 2) (.pair (.nils) (.pair (.dat (.int .i64)) (.pair (.nils) (.dat Qf9))))), .mpd .str .str, .mpd .str .str]⟩
def Q5.p2.os : List Out := [⟨.ret, [.mask [4, 5], .auto 3], ⟨us 4 ++ .nilp :: .dat (.int .i64) :: us 119, [.pair (.mp 1) (.pair (.mp 2) (.pair (.nils) (.pair (.dat (.int .i64)) (.pair (.nils) (.dat Qf9))))), .mpd .str .str, .mpd .str .str]⟩⟩, ⟨.normal, [.mask [0, 1], .auto 3], ⟨.ptr 0 [] :: .dat .str :: us 123, [.pair (.mp 1) (.pair (.mp 2) (.pair (.nils) (.pair (.dat (.int .i64)) (.pair (.nils) (.dat Qf9))))), .mpd .str .str, .mpd .str .str]⟩⟩]
abbrev Q5.p3.σ : Type := ByteArray × Qf4 × Qf8 × Qf8 × Unit
abbrev Q5.p3.τ : Type := QeX ⊕ QeV ⊕ QeR ⊕ QeP 
def Q5.p3.r (k : Nat) {ρ : Type} (x : Q5.p3.σ) (K : Q5.p3.τ → Option ρ) : Option ρ :=
  bif (Nat.ble ((ByteArray.size x.1) + 4) 9223372036854775807) then (let v24 : ByteArray := (x.1 ++ (⟨(List.toArray [46, 116, 109, 112])⟩ : ByteArray))
  (Q0z k v24 ((), ((), ((), (x.2.1.2.2.2.1, ((), (x.2.1.2.2.2.2.2.1, ())))))) x.2.2.1 x.2.2.2.1).bind fun t25 => (match t25 with
 | .inl t26 => (bif (t26.1 != (0 : Int)) then (bif (t26.1 != (2 : Int)) then (K (.inl (t26.1, (((), ((), ((), (t26.2.1.2.2.2.1, ((), (t26.2.1.2.2.2.2.2.1, ())))))), (t26.2.2.1, (t26.2.2.2.1, ())))))) else (K (.inr (.inl (x.1, (((), ((), ((), (t26.2.1.2.2.2.1, ((), (t26.2.1.2.2.2.2.2.1, ())))))), (t26.2.2.1, (t26.2.2.2.1, ())))))))) else (K (.inr (.inl (x.1, (((), ((), ((), (t26.2.1.2.2.2.1, ((), (t26.2.1.2.2.2.2.2.1, ())))))), (t26.2.2.1, (t26.2.2.2.1, ()))))))))
 | .inr (t27) => (bif (t27.1 != (0 : Int)) then (bif (t27.1 != (2 : Int)) then (K (.inr (.inr (.inl (t27.1, (((), ((), ((), (t27.2.1.2.2.2.1, ((), (t27.2.1.2.2.2.2.2.1, ())))))), (t27.2.2.1, (t27.2.2.2.1, (t27.2.2.2.2.1, ()))))))))) else (K (.inr (.inr (.inr (x.1, (((), ((), ((), (t27.2.1.2.2.2.1, ((), (t27.2.1.2.2.2.2.2.1, ())))))), (t27.2.2.1, (t27.2.2.2.1, (t27.2.2.2.2.1, ())))))))))) else (K (.inr (.inr (.inr (x.1, (((), ((), ((), (t27.2.1.2.2.2.1, ((), (t27.2.1.2.2.2.2.2.1, ())))))), (t27.2.2.1, (t27.2.2.2.1, (t27.2.2.2.2.1, ())))))))))))) else (none)
def Q5.p3 (k : Nat) (x : Q5.p3.σ) : Option Q5.p3.τ := Q5.p3.r k x some
def Q5.p3.T : StT := ⟨.ptr 0 [] :: .dat .str :: us 123, [.pair (.mp 1) (.pair (.mp 2) (.pair (.nils) (.pair (.dat (.int .i64)) (.pair (.nils) (.dat Qf9))))), .mpd .str .str, .mpd .str .str]⟩
def Q5.p3.os : List Out := [⟨.ret, [.mask [4, 5], .auto 3], ⟨us 4 ++ .nilp :: .dat (.int .i64) :: us 119, [.pair (.mp 1) (.pair (.mp 2) (.pair (.nils) (.pair (.dat (.int .i64)) (.pair (.nils) (.dat Qf9))))), .mpd .str .str, .mpd .str .str]⟩⟩, ⟨.normal, [.mask [0, 1], .auto 3], ⟨.ptr 0 [] :: .dat .str :: us 123, [.pair (.mp 1) (.pair (.mp 2) (.pair (.nils) (.pair (.dat (.int .i64)) (.pair (.nils) (.dat Qf9))))), .mpd .str .str, .mpd .str .str]⟩⟩, ⟨.ret, [.mask [4, 5], .auto 3], ⟨us 4 ++ .nilp :: .dat (.int .i64) :: us 119, [.pair (.mp 1) (.pair (.mp 2) (.pair (.vsl 3) (.pair (.dat (.int .i64)) (.pair (.nils) (.dat Qf9))))), .mpd .str .str, .mpd .str .str, .vec QeZ]⟩⟩, ⟨.normal, [.mask [0, 1], .auto 3], ⟨.ptr 0 [] :: .dat .str :: us 123, [.pair (.mp 1) (.pair (.mp 2) (.pair (.vsl 3) (.pair (.dat (.int .i64)) (.pair (.nils) (.dat Qf9))))), .mpd .str .str, .mpd .str .str, .vec QeZ]⟩⟩]
abbrev Q5.τ : Type := QeX ⊕ (Int × Qf4 × Qf8 × Qf8 × Qf0 × (List Int) × Unit) ⊕ QeR ⊕ (Int × Qf4 × Qf8 × Qf8 × Qf1 × Qf0 × (List Int) × Unit) ⊕ (Int × Qf4 × Qf8 × Qf8 × Qf0 × (List ByteArray) × (List Int) × Unit) ⊕ (Int × Qf4 × Qf8 × Qf8 × Qf1 × Qf0 × (List ByteArray) × (List Int) × Unit)
def Q5.c (k : Nat) {ρ : Type} (name : ByteArray) (b0 : Qf4) (b1 : Qf8) (b2 : Qf8) (K : Q5.τ → Option ρ) : Option ρ :=
  (Q5.p0 k (name, (((), ((), ((), (b0.2.2.2.1, ((), (b0.2.2.2.2.2.1, ())))))), (b1, (b2, ()))))).bind fun t2 => (match t2 with
 | .inl t3 => (K (.inl (t3.1, (((), ((), ((), (t3.2.1.2.2.2.1, ((), (t3.2.1.2.2.2.2.2.1, ())))))), (t3.2.2.1, (t3.2.2.2.1, ()))))))
 | .inr (t4) => ((Q0G k t4.1 ((), ((), ((), (t4.2.1.2.2.2.1, ((), (t4.2.1.2.2.2.2.2.1, ())))))) t4.2.2.1 t4.2.2.2.1).bind fun t5 => let v6 : ByteArray := t5.1
  let v7 : Int := t5.2.1
  (Q5.p1 k (t4.1, (v6, (v7, (((), ((), ((), (t5.2.2.1.2.2.2.1, ((), (t5.2.2.1.2.2.2.2.2.1, ())))))), (t5.2.2.2.1, (t5.2.2.2.2.1, ()))))))).bind fun t8 => (match t8 with
 | .inl t9 => (K (.inl (t9.1, (((), ((), ((), (t9.2.1.2.2.2.1, ((), (t9.2.1.2.2.2.2.2.1, ())))))), (t9.2.2.1, (t9.2.2.2.1, ()))))))
 | .inr (t10) => ((Q5.p2 k (t10.1, (t10.2.1, (((), ((), ((), (t10.2.2.1.2.2.2.1, ((), (t10.2.2.1.2.2.2.2.2.1, ())))))), (t10.2.2.2.1, (t10.2.2.2.2.1, ())))))).bind fun t21 => (match t21 with
 | .inl t22 => (K (.inl (t22.1, (((), ((), ((), (t22.2.1.2.2.2.1, ((), (t22.2.1.2.2.2.2.2.1, ())))))), (t22.2.2.1, (t22.2.2.2.1, ()))))))
 | .inr (t23) => ((Q5.p3 k (t23.1, (((), ((), ((), (t23.2.1.2.2.2.1, ((), (t23.2.1.2.2.2.2.2.1, ())))))), (t23.2.2.1, (t23.2.2.2.1, ()))))).bind fun t28 => (match t28 with
 | .inl t29 => (K (.inl (t29.1, (((), ((), ((), (t29.2.1.2.2.2.1, ((), (t29.2.1.2.2.2.2.2.1, ())))))), (t29.2.2.1, (t29.2.2.2.1, ()))))))
 | .inr (.inl t30) => ((Qw k t30.1 ((), ((), ((), (t30.2.1.2.2.2.1, ((), (t30.2.1.2.2.2.2.2.1, ())))))) t30.2.2.1 t30.2.2.2.1).bind fun t31 => (match t31 with
 | .inl t32 => (let v33 : ByteArray := t32.1
  let v34 : Int := t32.2.1
  bif (v34 != (0 : Int)) then (K (.inl (v34, (((), ((), ((), (t32.2.2.1.2.2.2.1, ((), (t32.2.2.1.2.2.2.2.2.1, ())))))), (t32.2.2.2.1, (t32.2.2.2.2.1, ())))))) else ((Q9 k v33).bind fun t35 => (match t35 with
 | .inl t36 => (let v37 : Int := t36.1
  let v38 : Int := t36.2.1
  let v39 : Int := t36.2.2.1
  (QL k []).bind fun t40 => bif (v38 == (0 : Int)) then (K (.inr (.inl ((0 : Int), (((), ((), ((), (t32.2.2.1.2.2.2.1, ((), (t32.2.2.1.2.2.2.2.2.1, ())))))), (t32.2.2.2.1, (t32.2.2.2.2.1, (((), (t30.1, (v37, ((), ((), (v38, (false, ()))))))), (t40.1, ()))))))))) else (let v41 : Int := (IntKind.wrap IntKind.i64 ((((ByteArray.size v33) : Nat) : Int) - v38))
  (Q0D k t30.1 v41 ((), ((), ((), (t32.2.2.1.2.2.2.1, ((), (t32.2.2.1.2.2.2.2.2.1, ())))))) t32.2.2.2.1 t32.2.2.2.2.1).bind fun t42 => (match t42 with
 | .inl t43 => (bif (t43.1 != (0 : Int)) then (K (.inl (t43.1, (((), ((), ((), (t43.2.1.2.2.2.1, ((), (t43.2.1.2.2.2.2.2.1, ())))))), (t43.2.2.1, (t43.2.2.2.1, ())))))) else ((Qa k ((), ((), ((), (t43.2.1.2.2.2.1, ((), (t43.2.1.2.2.2.2.2.1, ())))))) t43.2.2.1 t43.2.2.2.1).bind fun t44 => bif (t44.1 != (0 : Int)) then (K (.inl (t44.1, (((), ((), ((), (t44.2.1.2.2.2.1, ((), (t44.2.1.2.2.2.2.2.1, ())))))), (t44.2.2.1, (t44.2.2.2.1, ())))))) else (K (.inr (.inl ((0 : Int), (((), ((), ((), (t44.2.1.2.2.2.1, ((), (t44.2.1.2.2.2.2.2.1, ())))))), (t44.2.2.1, (t44.2.2.2.1, (((), (t30.1, (v37, ((), ((), (v38, (false, ()))))))), (t40.1, ())))))))))))
 | .inr (t45) => (bif (t45.1 != (0 : Int)) then (K (.inr (.inr (.inl (t45.1, (((), ((), ((), (t45.2.1.2.2.2.1, ((), (t45.2.1.2.2.2.2.2.1, ())))))), (t45.2.2.1, (t45.2.2.2.1, (t45.2.2.2.2.1, ()))))))))) else ((Q4 k ((), ((), ((), (t45.2.1.2.2.2.1, ((), (t45.2.1.2.2.2.2.2.1, ())))))) t45.2.2.1 t45.2.2.2.1 t45.2.2.2.2.1).bind fun t46 => (match t46 with
 | .inl t47 => (bif (t47.1 != (0 : Int)) then (K (.inr (.inr (.inl (t47.1, (((), ((), ((), (t47.2.1.2.2.2.1, ((), (t47.2.1.2.2.2.2.2.1, ())))))), (t47.2.2.1, (t47.2.2.2.1, (t47.2.2.2.2.1, ()))))))))) else (K (.inr (.inr (.inr (.inl ((0 : Int), (((), ((), ((), (t47.2.1.2.2.2.1, ((), (t47.2.1.2.2.2.2.2.1, ())))))), (t47.2.2.1, (t47.2.2.2.1, (t47.2.2.2.2.1, (((), (t30.1, (v37, ((), ((), (v38, (false, ()))))))), (t40.1, ())))))))))))))
 | .inr (t48) => (bif (t48.1 != (0 : Int)) then (K (.inl (t48.1, (((), ((), ((), (t48.2.1.2.2.2.1, ((), (t48.2.1.2.2.2.2.2.1, ())))))), (t48.2.2.1, (t48.2.2.2.1, ())))))) else (K (.inr (.inl ((0 : Int), (((), ((), ((), (t48.2.1.2.2.2.1, ((), (t48.2.1.2.2.2.2.2.1, ())))))), (t48.2.2.1, (t48.2.2.2.1, (((), (t30.1, (v37, ((), ((), (v38, (false, ()))))))), (t40.1, ()))))))))))))))))
 | .inr (t49) => (let v50 : Int := t49.1
  let v51 : Int := t49.2.1
  let v52 : Int := t49.2.2.1
  (QL k t49.2.2.2.1).bind fun t53 => bif (v51 == (0 : Int)) then (K (.inr (.inr (.inr (.inr (.inl ((0 : Int), (((), ((), ((), (t32.2.2.1.2.2.2.1, ((), (t32.2.2.1.2.2.2.2.2.1, ())))))), (t32.2.2.2.1, (t32.2.2.2.2.1, (((), (t30.1, (v50, ((), ((), (v51, (false, ()))))))), (t49.2.2.2.1, (t53.1, ()))))))))))))) else (let v54 : Int := (IntKind.wrap IntKind.i64 ((((ByteArray.size v33) : Nat) : Int) - v51))
  (Q0D k t30.1 v54 ((), ((), ((), (t32.2.2.1.2.2.2.1, ((), (t32.2.2.1.2.2.2.2.2.1, ())))))) t32.2.2.2.1 t32.2.2.2.2.1).bind fun t55 => (match t55 with
 | .inl t56 => (bif (t56.1 != (0 : Int)) then (K (.inl (t56.1, (((), ((), ((), (t56.2.1.2.2.2.1, ((), (t56.2.1.2.2.2.2.2.1, ())))))), (t56.2.2.1, (t56.2.2.2.1, ())))))) else ((Qa k ((), ((), ((), (t56.2.1.2.2.2.1, ((), (t56.2.1.2.2.2.2.2.1, ())))))) t56.2.2.1 t56.2.2.2.1).bind fun t57 => bif (t57.1 != (0 : Int)) then (K (.inl (t57.1, (((), ((), ((), (t57.2.1.2.2.2.1, ((), (t57.2.1.2.2.2.2.2.1, ())))))), (t57.2.2.1, (t57.2.2.2.1, ())))))) else (K (.inr (.inr (.inr (.inr (.inl ((0 : Int), (((), ((), ((), (t57.2.1.2.2.2.1, ((), (t57.2.1.2.2.2.2.2.1, ())))))), (t57.2.2.1, (t57.2.2.2.1, (((), (t30.1, (v50, ((), ((), (v51, (false, ()))))))), (t49.2.2.2.1, (t53.1, ())))))))))))))))
 | .inr (t58) => (bif (t58.1 != (0 : Int)) then (K (.inr (.inr (.inl (t58.1, (((), ((), ((), (t58.2.1.2.2.2.1, ((), (t58.2.1.2.2.2.2.2.1, ())))))), (t58.2.2.1, (t58.2.2.2.1, (t58.2.2.2.2.1, ()))))))))) else ((Q4 k ((), ((), ((), (t58.2.1.2.2.2.1, ((), (t58.2.1.2.2.2.2.2.1, ())))))) t58.2.2.1 t58.2.2.2.1 t58.2.2.2.2.1).bind fun t59 => (match t59 with
 | .inl t60 => (bif (t60.1 != (0 : Int)) then (K (.inr (.inr (.inl (t60.1, (((), ((), ((), (t60.2.1.2.2.2.1, ((), (t60.2.1.2.2.2.2.2.1, ())))))), (t60.2.2.1, (t60.2.2.2.1, (t60.2.2.2.2.1, ()))))))))) else (K (.inr (.inr (.inr (.inr (.inr ((0 : Int), (((), ((), ((), (t60.2.1.2.2.2.1, ((), (t60.2.1.2.2.2.2.2.1, ())))))), (t60.2.2.1, (t60.2.2.2.1, (t60.2.2.2.2.1, (((), (t30.1, (v50, ((), ((), (v51, (false, ()))))))), (t49.2.2.2.1, (t53.1, ())))))))))))))))
 | .inr (t61) => (bif (t61.1 != (0 : Int)) then (K (.inl (t61.1, (((), ((), ((), (t61.2.1.2.2.2.1, ((), (t61.2.1.2.2.2.2.2.1, ())))))), (t61.2.2.1, (t61.2.2.2.1, ())))))) else (K (.inr (.inr (.inr (.inr (.inl ((0 : Int), (((), ((), ((), (t61.2.1.2.2.2.1, ((), (t61.2.1.2.2.2.2.2.1, ())))))), (t61.2.2.1, (t61.2.2.2.1, (((), (t30.1, (v50, ((), ((), (v51, (false, ()))))))), (t49.2.2.2.1, (t53.1, ())))))))))))))))))))))))
 | .inr (t62) => (let v63 : ByteArray := t62.1
  let v64 : Int := t62.2.1
  bif (v64 != (0 : Int)) then (K (.inr (.inr (.inl (v64, (((), ((), ((), (t62.2.2.1.2.2.2.1, ((), (t62.2.2.1.2.2.2.2.2.1, ())))))), (t62.2.2.2.1, (t62.2.2.2.2.1, (t62.2.2.2.2.2.1, ()))))))))) else ((Q9 k v63).bind fun t65 => (match t65 with
 | .inl t66 => (let v67 : Int := t66.1
  let v68 : Int := t66.2.1
  let v69 : Int := t66.2.2.1
  (QL k []).bind fun t70 => bif (v68 == (0 : Int)) then (K (.inr (.inr (.inr (.inl ((0 : Int), (((), ((), ((), (t62.2.2.1.2.2.2.1, ((), (t62.2.2.1.2.2.2.2.2.1, ())))))), (t62.2.2.2.1, (t62.2.2.2.2.1, (t62.2.2.2.2.2.1, (((), (t30.1, (v67, ((), ((), (v68, (false, ()))))))), (t70.1, ())))))))))))) else (let v71 : Int := (IntKind.wrap IntKind.i64 ((((ByteArray.size v63) : Nat) : Int) - v68))
  (Q0m k t30.1 v71 ((), ((), ((), (t62.2.2.1.2.2.2.1, ((), (t62.2.2.1.2.2.2.2.2.1, ())))))) t62.2.2.2.1 t62.2.2.2.2.1 t62.2.2.2.2.2.1).bind fun t72 => bif (t72.1 != (0 : Int)) then (K (.inr (.inr (.inl (t72.1, (((), ((), ((), (t72.2.1.2.2.2.1, ((), (t72.2.1.2.2.2.2.2.1, ())))))), (t72.2.2.1, (t72.2.2.2.1, (t72.2.2.2.2.1, ()))))))))) else ((Q4 k ((), ((), ((), (t72.2.1.2.2.2.1, ((), (t72.2.1.2.2.2.2.2.1, ())))))) t72.2.2.1 t72.2.2.2.1 t72.2.2.2.2.1).bind fun t73 => (match t73 with
 | .inl t74 => (bif (t74.1 != (0 : Int)) then (K (.inr (.inr (.inl (t74.1, (((), ((), ((), (t74.2.1.2.2.2.1, ((), (t74.2.1.2.2.2.2.2.1, ())))))), (t74.2.2.1, (t74.2.2.2.1, (t74.2.2.2.2.1, ()))))))))) else (K (.inr (.inr (.inr (.inl ((0 : Int), (((), ((), ((), (t74.2.1.2.2.2.1, ((), (t74.2.1.2.2.2.2.2.1, ())))))), (t74.2.2.1, (t74.2.2.2.1, (t74.2.2.2.2.1, (((), (t30.1, (v67, ((), ((), (v68, (false, ()))))))), (t70.1, ())))))))))))))
 | .inr (t75) => (bif (t75.1 != (0 : Int)) then (K (.inl (t75.1, (((), ((), ((), (t75.2.1.2.2.2.1, ((), (t75.2.1.2.2.2.2.2.1, ())))))), (t75.2.2.1, (t75.2.2.2.1, ())))))) else (K (.inr (.inl ((0 : Int), (((), ((), ((), (t75.2.1.2.2.2.1, ((), (t75.2.1.2.2.2.2.2.1, ())))))), (t75.2.2.1, (t75.2.2.2.1, (((), (t30.1, (v67, ((), ((), (v68, (false, ()))))))), (t70.1, ()))))))))))))))
 | .inr (t76) => (let v77 : Int := t76.1
  let v78 : Int := t76.2.1
  let v79 : Int := t76.2.2.1
  (QL k t76.2.2.2.1).bind fun t80 => bif (v78 == (0 : Int)) then (K (.inr (.inr (.inr (.inr (.inr ((0 : Int), (((), ((), ((), (t62.2.2.1.2.2.2.1, ((), (t62.2.2.1.2.2.2.2.2.1, ())))))), (t62.2.2.2.1, (t62.2.2.2.2.1, (t62.2.2.2.2.2.1, (((), (t30.1, (v77, ((), ((), (v78, (false, ()))))))), (t76.2.2.2.1, (t80.1, ())))))))))))))) else (let v81 : Int := (IntKind.wrap IntKind.i64 ((((ByteArray.size v63) : Nat) : Int) - v78))
  (Q0m k t30.1 v81 ((), ((), ((), (t62.2.2.1.2.2.2.1, ((), (t62.2.2.1.2.2.2.2.2.1, ())))))) t62.2.2.2.1 t62.2.2.2.2.1 t62.2.2.2.2.2.1).bind fun t82 => bif (t82.1 != (0 : Int)) then (K (.inr (.inr (.inl (t82.1, (((), ((), ((), (t82.2.1.2.2.2.1, ((), (t82.2.1.2.2.2.2.2.1, ())))))), (t82.2.2.1, (t82.2.2.2.1, (t82.2.2.2.2.1, ()))))))))) else ((Q4 k ((), ((), ((), (t82.2.1.2.2.2.1, ((), (t82.2.1.2.2.2.2.2.1, ())))))) t82.2.2.1 t82.2.2.2.1 t82.2.2.2.2.1).bind fun t83 => (match t83 with
 | .inl t84 => (bif (t84.1 != (0 : Int)) then (K (.inr (.inr (.inl (t84.1, (((), ((), ((), (t84.2.1.2.2.2.1, ((), (t84.2.1.2.2.2.2.2.1, ())))))), (t84.2.2.1, (t84.2.2.2.1, (t84.2.2.2.2.1, ()))))))))) else (K (.inr (.inr (.inr (.inr (.inr ((0 : Int), (((), ((), ((), (t84.2.1.2.2.2.1, ((), (t84.2.1.2.2.2.2.2.1, ())))))), (t84.2.2.1, (t84.2.2.2.1, (t84.2.2.2.2.1, (((), (t30.1, (v77, ((), ((), (v78, (false, ()))))))), (t76.2.2.2.1, (t80.1, ())))))))))))))))
 | .inr (t85) => (bif (t85.1 != (0 : Int)) then (K (.inl (t85.1, (((), ((), ((), (t85.2.1.2.2.2.1, ((), (t85.2.1.2.2.2.2.2.1, ())))))), (t85.2.2.1, (t85.2.2.2.1, ())))))) else (K (.inr (.inr (.inr (.inr (.inl ((0 : Int), (((), ((), ((), (t85.2.1.2.2.2.1, ((), (t85.2.1.2.2.2.2.2.1, ())))))), (t85.2.2.1, (t85.2.2.2.1, (((), (t30.1, (v77, ((), ((), (v78, (false, ()))))))), (t76.2.2.2.1, (t80.1, ())))))))))))))))))))))))
 | .inr (.inr (.inl t86)) => (K (.inr (.inr (.inl (t86.1, (((), ((), ((), (t86.2.1.2.2.2.1, ((), (t86.2.1.2.2.2.2.2.1, ())))))), (t86.2.2.1, (t86.2.2.2.1, (t86.2.2.2.2.1, ())))))))))
 | .inr (.inr (.inr (t87))) => ((Qn k t87.1 ((), ((), ((), (t87.2.1.2.2.2.1, ((), (t87.2.1.2.2.2.2.2.1, ())))))) t87.2.2.1 t87.2.2.2.1 t87.2.2.2.2.1).bind fun t88 => (match t88 with
 | .inl t89 => (let v90 : ByteArray := t89.1
  let v91 : Int := t89.2.1
  bif (v91 != (0 : Int)) then (K (.inr (.inr (.inl (v91, (((), ((), ((), (t89.2.2.1.2.2.2.1, ((), (t89.2.2.1.2.2.2.2.2.1, ())))))), (t89.2.2.2.1, (t89.2.2.2.2.1, (t89.2.2.2.2.2.1, ()))))))))) else ((Q9 k v90).bind fun t92 => (match t92 with
 | .inl t93 => (let v94 : Int := t93.1
  let v95 : Int := t93.2.1
  let v96 : Int := t93.2.2.1
  (QL k []).bind fun t97 => bif (v95 == (0 : Int)) then (K (.inr (.inr (.inr (.inl ((0 : Int), (((), ((), ((), (t89.2.2.1.2.2.2.1, ((), (t89.2.2.1.2.2.2.2.2.1, ())))))), (t89.2.2.2.1, (t89.2.2.2.2.1, (t89.2.2.2.2.2.1, (((), (t87.1, (v94, ((), ((), (v95, (false, ()))))))), (t97.1, ())))))))))))) else (let v98 : Int := (IntKind.wrap IntKind.i64 ((((ByteArray.size v90) : Nat) : Int) - v95))
  (Q0m k t87.1 v98 ((), ((), ((), (t89.2.2.1.2.2.2.1, ((), (t89.2.2.1.2.2.2.2.2.1, ())))))) t89.2.2.2.1 t89.2.2.2.2.1 t89.2.2.2.2.2.1).bind fun t99 => bif (t99.1 != (0 : Int)) then (K (.inr (.inr (.inl (t99.1, (((), ((), ((), (t99.2.1.2.2.2.1, ((), (t99.2.1.2.2.2.2.2.1, ())))))), (t99.2.2.1, (t99.2.2.2.1, (t99.2.2.2.2.1, ()))))))))) else ((Q4 k ((), ((), ((), (t99.2.1.2.2.2.1, ((), (t99.2.1.2.2.2.2.2.1, ())))))) t99.2.2.1 t99.2.2.2.1 t99.2.2.2.2.1).bind fun t100 => (match t100 with
 | .inl t101 => (bif (t101.1 != (0 : Int)) then (K (.inr (.inr (.inl (t101.1, (((), ((), ((), (t101.2.1.2.2.2.1, ((), (t101.2.1.2.2.2.2.2.1, ())))))), (t101.2.2.1, (t101.2.2.2.1, (t101.2.2.2.2.1, ()))))))))) else (K (.inr (.inr (.inr (.inl ((0 : Int), (((), ((), ((), (t101.2.1.2.2.2.1, ((), (t101.2.1.2.2.2.2.2.1, ())))))), (t101.2.2.1, (t101.2.2.2.1, (t101.2.2.2.2.1, (((), (t87.1, (v94, ((), ((), (v95, (false, ()))))))), (t97.1, ())))))))))))))
 | .inr (t102) => (bif (t102.1 != (0 : Int)) then (K (.inl (t102.1, (((), ((), ((), (t102.2.1.2.2.2.1, ((), (t102.2.1.2.2.2.2.2.1, ())))))), (t102.2.2.1, (t102.2.2.2.1, ())))))) else (K (.inr (.inl ((0 : Int), (((), ((), ((), (t102.2.1.2.2.2.1, ((), (t102.2.1.2.2.2.2.2.1, ())))))), (t102.2.2.1, (t102.2.2.2.1, (((), (t87.1, (v94, ((), ((), (v95, (false, ()))))))), (t97.1, ()))))))))))))))
 | .inr (t103) => (let v104 : Int := t103.1
  let v105 : Int := t103.2.1
  let v106 : Int := t103.2.2.1
  (QL k t103.2.2.2.1).bind fun t107 => bif (v105 == (0 : Int)) then (K (.inr (.inr (.inr (.inr (.inr ((0 : Int), (((), ((), ((), (t89.2.2.1.2.2.2.1, ((), (t89.2.2.1.2.2.2.2.2.1, ())))))), (t89.2.2.2.1, (t89.2.2.2.2.1, (t89.2.2.2.2.2.1, (((), (t87.1, (v104, ((), ((), (v105, (false, ()))))))), (t103.2.2.2.1, (t107.1, ())))))))))))))) else (let v108 : Int := (IntKind.wrap IntKind.i64 ((((ByteArray.size v90) : Nat) : Int) - v105))
  (Q0m k t87.1 v108 ((), ((), ((), (t89.2.2.1.2.2.2.1, ((), (t89.2.2.1.2.2.2.2.2.1, ())))))) t89.2.2.2.1 t89.2.2.2.2.1 t89.2.2.2.2.2.1).bind fun t109 => bif (t109.1 != (0 : Int)) then (K (.inr (.inr (.inl (t109.1, (((), ((), ((), (t109.2.1.2.2.2.1, ((), (t109.2.1.2.2.2.2.2.1, ())))))), (t109.2.2.1, (t109.2.2.2.1, (t109.2.2.2.2.1, ()))))))))) else ((Q4 k ((), ((), ((), (t109.2.1.2.2.2.1, ((), (t109.2.1.2.2.2.2.2.1, ())))))) t109.2.2.1 t109.2.2.2.1 t109.2.2.2.2.1).bind fun t110 => (match t110 with
 | .inl t111 => (bif (t111.1 != (0 : Int)) then (K (.inr (.inr (.inl (t111.1, (((), ((), ((), (t111.2.1.2.2.2.1, ((), (t111.2.1.2.2.2.2.2.1, ())))))), (t111.2.2.1, (t111.2.2.2.1, (t111.2.2.2.2.1, ()))))))))) else (K (.inr (.inr (.inr (.inr (.inr ((0 : Int), (((), ((), ((), (t111.2.1.2.2.2.1, ((), (t111.2.1.2.2.2.2.2.1, ())))))), (t111.2.2.1, (t111.2.2.2.1, (t111.2.2.2.2.1, (((), (t87.1, (v104, ((), ((), (v105, (false, ()))))))), (t103.2.2.2.1, (t107.1, ())))))))))))))))
 | .inr (t112) => (bif (t112.1 != (0 : Int)) then (K (.inl (t112.1, (((), ((), ((), (t112.2.1.2.2.2.1, ((), (t112.2.1.2.2.2.2.2.1, ())))))), (t112.2.2.1, (t112.2.2.2.1, ())))))) else (K (.inr (.inr (.inr (.inr (.inl ((0 : Int), (((), ((), ((), (t112.2.1.2.2.2.1, ((), (t112.2.1.2.2.2.2.2.1, ())))))), (t112.2.2.1, (t112.2.2.2.1, (((), (t87.1, (v104, ((), ((), (v105, (false, ()))))))), (t103.2.2.2.1, (t107.1, ())))))))))))))))))))))
 | .inr (t113) => (let v114 : ByteArray := t113.1
  let v115 : Int := t113.2.1
  bif (v115 != (0 : Int)) then (K (.inl (v115, (((), ((), ((), (t113.2.2.1.2.2.2.1, ((), (t113.2.2.1.2.2.2.2.2.1, ())))))), (t113.2.2.2.1, (t113.2.2.2.2.1, ())))))) else ((Q9 k v114).bind fun t116 => (match t116 with
 | .inl t117 => (let v118 : Int := t117.1
  let v119 : Int := t117.2.1
  let v120 : Int := t117.2.2.1
  (QL k []).bind fun t121 => bif (v119 == (0 : Int)) then (K (.inr (.inl ((0 : Int), (((), ((), ((), (t113.2.2.1.2.2.2.1, ((), (t113.2.2.1.2.2.2.2.2.1, ())))))), (t113.2.2.2.1, (t113.2.2.2.2.1, (((), (t87.1, (v118, ((), ((), (v119, (false, ()))))))), (t121.1, ()))))))))) else (let v122 : Int := (IntKind.wrap IntKind.i64 ((((ByteArray.size v114) : Nat) : Int) - v119))
  (Q0D k t87.1 v122 ((), ((), ((), (t113.2.2.1.2.2.2.1, ((), (t113.2.2.1.2.2.2.2.2.1, ())))))) t113.2.2.2.1 t113.2.2.2.2.1).bind fun t123 => (match t123 with
 | .inl t124 => (bif (t124.1 != (0 : Int)) then (K (.inl (t124.1, (((), ((), ((), (t124.2.1.2.2.2.1, ((), (t124.2.1.2.2.2.2.2.1, ())))))), (t124.2.2.1, (t124.2.2.2.1, ())))))) else ((Qa k ((), ((), ((), (t124.2.1.2.2.2.1, ((), (t124.2.1.2.2.2.2.2.1, ())))))) t124.2.2.1 t124.2.2.2.1).bind fun t125 => bif (t125.1 != (0 : Int)) then (K (.inl (t125.1, (((), ((), ((), (t125.2.1.2.2.2.1, ((), (t125.2.1.2.2.2.2.2.1, ())))))), (t125.2.2.1, (t125.2.2.2.1, ())))))) else (K (.inr (.inl ((0 : Int), (((), ((), ((), (t125.2.1.2.2.2.1, ((), (t125.2.1.2.2.2.2.2.1, ())))))), (t125.2.2.1, (t125.2.2.2.1, (((), (t87.1, (v118, ((), ((), (v119, (false, ()))))))), (t121.1, ())))))))))))
 | .inr (t126) => (bif (t126.1 != (0 : Int)) then (K (.inr (.inr (.inl (t126.1, (((), ((), ((), (t126.2.1.2.2.2.1, ((), (t126.2.1.2.2.2.2.2.1, ())))))), (t126.2.2.1, (t126.2.2.2.1, (t126.2.2.2.2.1, ()))))))))) else ((Q4 k ((), ((), ((), (t126.2.1.2.2.2.1, ((), (t126.2.1.2.2.2.2.2.1, ())))))) t126.2.2.1 t126.2.2.2.1 t126.2.2.2.2.1).bind fun t127 => (match t127 with
 | .inl t128 => (bif (t128.1 != (0 : Int)) then (K (.inr (.inr (.inl (t128.1, (((), ((), ((), (t128.2.1.2.2.2.1, ((), (t128.2.1.2.2.2.2.2.1, ())))))), (t128.2.2.1, (t128.2.2.2.1, (t128.2.2.2.2.1, ()))))))))) else (K (.inr (.inr (.inr (.inl ((0 : Int), (((), ((), ((), (t128.2.1.2.2.2.1, ((), (t128.2.1.2.2.2.2.2.1, ())))))), (t128.2.2.1, (t128.2.2.2.1, (t128.2.2.2.2.1, (((), (t87.1, (v118, ((), ((), (v119, (false, ()))))))), (t121.1, ())))))))))))))
 | .inr (t129) => (bif (t129.1 != (0 : Int)) then (K (.inl (t129.1, (((), ((), ((), (t129.2.1.2.2.2.1, ((), (t129.2.1.2.2.2.2.2.1, ())))))), (t129.2.2.1, (t129.2.2.2.1, ())))))) else (K (.inr (.inl ((0 : Int), (((), ((), ((), (t129.2.1.2.2.2.1, ((), (t129.2.1.2.2.2.2.2.1, ())))))), (t129.2.2.1, (t129.2.2.2.1, (((), (t87.1, (v118, ((), ((), (v119, (false, ()))))))), (t121.1, ()))))))))))))))))
 | .inr (t130) => (let v131 : Int := t130.1
  let v132 : Int := t130.2.1
  let v133 : Int := t130.2.2.1
  (QL k t130.2.2.2.1).bind fun t134 => bif (v132 == (0 : Int)) then (K (.inr (.inr (.inr (.inr (.inl ((0 : Int), (((), ((), ((), (t113.2.2.1.2.2.2.1, ((), (t113.2.2.1.2.2.2.2.2.1, ())))))), (t113.2.2.2.1, (t113.2.2.2.2.1, (((), (t87.1, (v131, ((), ((), (v132, (false, ()))))))), (t130.2.2.2.1, (t134.1, ()))))))))))))) else (let v135 : Int := (IntKind.wrap IntKind.i64 ((((ByteArray.size v114) : Nat) : Int) - v132))
  (Q0D k t87.1 v135 ((), ((), ((), (t113.2.2.1.2.2.2.1, ((), (t113.2.2.1.2.2.2.2.2.1, ())))))) t113.2.2.2.1 t113.2.2.2.2.1).bind fun t136 => (match t136 with
 | .inl t137 => (bif (t137.1 != (0 : Int)) then (K (.inl (t137.1, (((), ((), ((), (t137.2.1.2.2.2.1, ((), (t137.2.1.2.2.2.2.2.1, ())))))), (t137.2.2.1, (t137.2.2.2.1, ())))))) else ((Qa k ((), ((), ((), (t137.2.1.2.2.2.1, ((), (t137.2.1.2.2.2.2.2.1, ())))))) t137.2.2.1 t137.2.2.2.1).bind fun t138 => bif (t138.1 != (0 : Int)) then (K (.inl (t138.1, (((), ((), ((), (t138.2.1.2.2.2.1, ((), (t138.2.1.2.2.2.2.2.1, ())))))), (t138.2.2.1, (t138.2.2.2.1, ())))))) else (K (.inr (.inr (.inr (.inr (.inl ((0 : Int), (((), ((), ((), (t138.2.1.2.2.2.1, ((), (t138.2.1.2.2.2.2.2.1, ())))))), (t138.2.2.1, (t138.2.2.2.1, (((), (t87.1, (v131, ((), ((), (v132, (false, ()))))))), (t130.2.2.2.1, (t134.1, ())))))))))))))))
 | .inr (t139) => (bif (t139.1 != (0 : Int)) then (K (.inr (.inr (.inl (t139.1, (((), ((), ((), (t139.2.1.2.2.2.1, ((), (t139.2.1.2.2.2.2.2.1, ())))))), (t139.2.2.1, (t139.2.2.2.1, (t139.2.2.2.2.1, ()))))))))) else ((Q4 k ((), ((), ((), (t139.2.1.2.2.2.1, ((), (t139.2.1.2.2.2.2.2.1, ())))))) t139.2.2.1 t139.2.2.2.1 t139.2.2.2.2.1).bind fun t140 => (match t140 with
 | .inl t141 => (bif (t141.1 != (0 : Int)) then (K (.inr (.inr (.inl (t141.1, (((), ((), ((), (t141.2.1.2.2.2.1, ((), (t141.2.1.2.2.2.2.2.1, ())))))), (t141.2.2.1, (t141.2.2.2.1, (t141.2.2.2.2.1, ()))))))))) else (K (.inr (.inr (.inr (.inr (.inr ((0 : Int), (((), ((), ((), (t141.2.1.2.2.2.1, ((), (t141.2.1.2.2.2.2.2.1, ())))))), (t141.2.2.1, (t141.2.2.2.1, (t141.2.2.2.2.1, (((), (t87.1, (v131, ((), ((), (v132, (false, ()))))))), (t130.2.2.2.1, (t134.1, ())))))))))))))))
 | .inr (t142) => (bif (t142.1 != (0 : Int)) then (K (.inl (t142.1, (((), ((), ((), (t142.2.1.2.2.2.1, ((), (t142.2.1.2.2.2.2.2.1, ())))))), (t142.2.2.1, (t142.2.2.2.1, ())))))) else (K (.inr (.inr (.inr (.inr (.inl ((0 : Int), (((), ((), ((), (t142.2.1.2.2.2.1, ((), (t142.2.1.2.2.2.2.2.1, ())))))), (t142.2.2.1, (t142.2.2.2.1, (((), (t87.1, (v131, ((), ((), (v132, (false, ()))))))), (t130.2.2.2.1, (t134.1, ()))))))))))))))))))))))))))))))))
def Q5 (k : Nat) (name : ByteArray) (b0 : Qf4) (b1 : Qf8) (b2 : Qf8) : Option Q5.τ := Q5.c k name b0 b1 b2 some
def Q5.T : Q15 := ⟨[.ptr 0 [], .dat .str], [.pair (.mp 1) (.pair (.mp 2) (.pair (.nils) (.pair (.dat (.int .i64)) (.pair (.nils) (.dat Qf9))))), .mpd .str .str, .mpd .str .str], 3⟩
def Q5.os : List Out := [⟨.ret, [.freeze (.slot 1), .auto 3], ⟨[.nilp, .dat (.int .i64)], [.pair (.mp 1) (.pair (.mp 2) (.pair (.nils) (.pair (.dat (.int .i64)) (.pair (.nils) (.dat Qf9))))), .mpd .str .str, .mpd .str .str]⟩⟩, ⟨.ret, [.freeze (.slot 1), .auto 3], ⟨[.ptr 3 [], .dat (.int .i64)], [.pair (.mp 1) (.pair (.mp 2) (.pair (.nils) (.pair (.dat (.int .i64)) (.pair (.nils) (.dat Qf9))))), .mpd .str .str, .mpd .str .str, .pair (.ptr 0 []) (.pair (.dat .str) (.pair (.dat (.int .u64)) (.pair (.nils) (.pair (.vsl 4) (.dat Qf6))))), .vec (.int .i64)]⟩⟩, ⟨.ret, [.freeze (.slot 1), .auto 3], ⟨[.nilp, .dat (.int .i64)], [.pair (.mp 1) (.pair (.mp 2) (.pair (.vsl 3) (.pair (.dat (.int .i64)) (.pair (.nils) (.dat Qf9))))), .mpd .str .str, .mpd .str .str, .vec QeZ]⟩⟩, ⟨.ret, [.freeze (.slot 1), .auto 3], ⟨[.ptr 4 [], .dat (.int .i64)], .pair (.mp 1) (.pair (.mp 2) (.pair (.vsl 3) (.pair (.dat (.int .i64)) (.pair (.nils) (.dat Qf9))))) :: .mpd .str .str :: .mpd .str .str :: .vec QeZ :: .pair (.ptr 0 []) (.pair (.dat .str) (.pair (.dat (.int .u64)) (.pair (.nils) (.pair (.vsl 5) (.dat Qf6))))) :: .vec (.int .i64) :: []⟩⟩, ⟨.ret, [.freeze (.slot 1), .auto 3], ⟨[.ptr 3 [], .dat (.int .i64)], .pair (.mp 1) (.pair (.mp 2) (.pair (.nils) (.pair (.dat (.int .i64)) (.pair (.nils) (.dat Qf9))))) :: .mpd .str .str :: .mpd .str .str :: .pair (.ptr 0 []) (.pair (.dat .str) (.pair (.dat (.int .u64)) (.pair (.vsl 4) (.pair (.vsl 5) (.dat Qf6))))) :: .vec .str :: .vec (.int .i64) :: []⟩⟩, ⟨.ret, [.freeze (.slot 1), .auto 3], ⟨[.ptr 4 [], .dat (.int .i64)], .pair (.mp 1) (.pair (.mp 2) (.pair (.vsl 3) (.pair (.dat (.int .i64)) (.pair (.nils) (.dat Qf9))))) :: .mpd .str .str :: .mpd .str .str :: .vec QeZ :: .pair (.ptr 0 []) (.pair (.dat .str) (.pair (.dat (.int .u64)) (.pair (.vsl 5) (.pair (.vsl 6) (.dat Qf6))))) :: .vec .str :: .vec (.int .i64) :: []⟩⟩]
def Q5.sem (k : Nat) : QS := Q17 Q5.T Q5.os fun x => Q5 k x.1 x.2.1 x.2.2.1 x.2.2.2.1
noncomputable def Q5.ctx (k : Nat) : Ctx := ⟨Try.prog, gam [(50, (Q11.sem k)), (51, (Q0G.sem k)), (12, (Q9.sem k)), (52, (Q0z.sem k)), (53, (Q2c (Q2l Qw.T) (Qw.sem k) (Qn.sem k))), (54, (QL.sem k)), (55, (Q2c (Q2l Q0D.T) (Q0D.sem k) (Q0m.sem k))), (56, (Q2c (Q2l Qa.T) (Qa.sem k) (Q4.sem k)))]⟩
theorem Q5.gok (k : Nat) : ∀ f, Qu Try.prog f ((Q5.ctx k).Γ f) := (Qf (Q11.sem_ok k) (Qf (Q0G.sem_ok k) (Qf (Q9.sem_ok k) (Qf (Q0z.sem_ok k) (Qf (Q1t (Qw.sem_ok k) (Qn.sem_ok k)) (Qf (QL.sem_ok k) (Qf (Q1t (Q0D.sem_ok k) (Q0m.sem_ok k)) (Qf (Q1t (Qa.sem_ok k) (Q4.sem_ok k)) Q0e))))))))
theorem Q5.p0.is (k : Nat) : Q26 (Q5.ctx k) (Q0O (Func.code Try.f16) [1, 1, 0]) (.nil) Q5.p0.T Q5.p0.os (Q5.p0.r k) := by
 intro ρ x K; kernel_rfl
theorem Q5.p0.ok (k : Nat) : StOK 3 Try.prog (Q0O (Func.code Try.f16) [1, 1, 0]) (Q05 Q5.p0.T Q5.p0.os (Q5.p0 k)) :=
 Q1T (C := Q5.ctx k) (T := Q5.p0.T) (os := Q5.p0.os) (Q5.gok k) Try.mix (fun x K => Q5.p0.r k x K) Q2.nil (by kernel_rfl) (by kernel_rfl) (Q5.p0.is k)
theorem Q5.p1.is (k : Nat) : Q26 (Q5.ctx k) (Q0O (Func.code Try.f16) [1, 1, 1, 1, 0]) (.nil) Q5.p1.T Q5.p1.os (Q5.p1.r k) := by
 intro ρ x K; kernel_rfl
theorem Q5.p1.ok (k : Nat) : StOK 3 Try.prog (Q0O (Func.code Try.f16) [1, 1, 1, 1, 0]) (Q05 Q5.p1.T Q5.p1.os (Q5.p1 k)) :=
 Q1T (C := Q5.ctx k) (T := Q5.p1.T) (os := Q5.p1.os) (Q5.gok k) Try.mix (fun x K => Q5.p1.r k x K) Q2.nil (by kernel_rfl) (by kernel_rfl) (Q5.p1.is k)
theorem Q5.p2.is (k : Nat) : Q26 (Q5.ctx k) (Q0O (Func.code Try.f16) [1, 1, 1, 1, 1, 0]) (.nil) Q5.p2.T Q5.p2.os (Q5.p2.r k) := by
 intro ρ x K; kernel_rfl
theorem Q5.p2.ok (k : Nat) : StOK 3 Try.prog (Q0O (Func.code Try.f16) [1, 1, 1, 1, 1, 0]) (Q05 Q5.p2.T Q5.p2.os (Q5.p2 k)) :=
 Q1T (C := Q5.ctx k) (T := Q5.p2.T) (os := Q5.p2.os) (Q5.gok k) Try.mix (fun x K => Q5.p2.r k x K) Q2.nil (by kernel_rfl) (by kernel_rfl) (Q5.p2.is k)
theorem Q5.p3.is (k : Nat) : Q26 (Q5.ctx k) (Q0O (Func.code Try.f16) [1, 1, 1, 1, 1, 1, 0]) (.nil) Q5.p3.T Q5.p3.os (Q5.p3.r k) := by
 intro ρ x K; kernel_rfl
theorem Q5.p3.ok (k : Nat) : StOK 3 Try.prog (Q0O (Func.code Try.f16) [1, 1, 1, 1, 1, 1, 0]) (Q05 Q5.p3.T Q5.p3.os (Q5.p3 k)) :=
 Q1T (C := Q5.ctx k) (T := Q5.p3.T) (os := Q5.p3.os) (Q5.gok k) Try.mix (fun x K => Q5.p3.r k x K) Q2.nil (by kernel_rfl) (by kernel_rfl) (Q5.p3.is k)
def Q5.ann (k : Nat) : Ann := .node [] none (.nil) (.node [] none (.nil) (.node [] none (.node [.mask [0, 1], .auto 3] (some (Q05 Q5.p0.T Q5.p0.os (Q5.p0 k))) .nil .nil) (.node [] none (.nil) (.node [] none (.node [.mask [0, 1, 6, 7], .auto 3] (some (Q05 Q5.p1.T Q5.p1.os (Q5.p1 k))) .nil .nil) (.node [] none (.node [.mask [0, 1, 6], .auto 3] (some (Q05 Q5.p2.T Q5.p2.os (Q5.p2 k))) .nil .nil) (.node [] none (.node [.mask [0, 1], .auto 3] (some (Q05 Q5.p3.T Q5.p3.os (Q5.p3 k))) .nil .nil) (.nil)))))))
theorem Q5.body (k : Nat) : Q18 (Q5.ctx k) Try.f16 (Func.code Try.f16) (Q5.ann k) Q5.T Q5.os (fun x K => Q5.c k x.1 x.2.1 x.2.2.1 x.2.2.2.1 K) := by
 intro ρ x K; kernel_rfl
theorem Q5.sem_ok (k : Nat) : Qu Try.prog 16 (Q5.sem k) :=
 Q0u (C := Q5.ctx k) (Q5.gok k) Try.mix (c := Func.code Try.f16) (ann := Q5.ann k) (T := Q5.T) (os := Q5.os) (fun x K => Q5.c k x.1 x.2.1 x.2.2.1 x.2.2.2.1 K) Try.func16 (by kernel_rfl) (by kernel_rfl) (Q2.seq Q2.nil (Q2.seq Q2.nil (Q2.seq (Q2.loop (by kernel_rfl) (Q5.p0.ok k)) (Q2.seq Q2.nil (Q2.seq (Q2.loop (by kernel_rfl) (Q5.p1.ok k)) (Q2.seq (Q2.loop (by kernel_rfl) (Q5.p2.ok k)) (Q2.seq (Q2.loop (by kernel_rfl) (Q5.p3.ok k)) Q2.nil))))))) (Q5.body k) (by kernel_rfl) (by kernel_rfl) (by kernel_rfl)
abbrev Q07.τ : Type := (Bool × Qf0 × Qf4 × Qf8 × Qf8 × (List Int) × Unit)
def Q07.c (k : Nat) {ρ : Type} (b0 : Qf0) (b1 : Qf4) (b2 : Qf8) (b3 : Qf8) (b4 : (List Int)) (K : Q07.τ → Option ρ) : Option ρ :=
 K (b0.2.2.2.2.2.2.1, (((), (b0.2.1, (b0.2.2.1, ((), ((), (b0.2.2.2.2.2.1, (b0.2.2.2.2.2.2.1, ()))))))), (((), ((), ((), (b1.2.2.2.1, ((), (b1.2.2.2.2.2.1, ())))))), (b2, (b3, (b4, ()))))))
def Q07 (k : Nat) (b0 : Qf0) (b1 : Qf4) (b2 : Qf8) (b3 : Qf8) (b4 : (List Int)) : Option Q07.τ := Q07.c k b0 b1 b2 b3 b4 some
def Q07.T : Q15 := ⟨[.ptr 0 []], [.pair (.ptr 1 []) (.pair (.dat .str) (.pair (.dat (.int .u64)) (.pair (.nils) (.pair (.vsl 4) (.dat Qf6))))), .pair (.mp 2) (.pair (.mp 3) (.pair (.nils) (.pair (.dat (.int .i64)) (.pair (.nils) (.dat Qf9))))), .mpd .str .str, .mpd .str .str, .vec (.int .i64)], 4⟩
def Q07.os : List Out := [⟨.ret, [.freeze (.slot 0), .auto 4], ⟨[.dat .bool], [.pair (.ptr 1 []) (.pair (.dat .str) (.pair (.dat (.int .u64)) (.pair (.nils) (.pair (.vsl 4) (.dat Qf6))))), .pair (.mp 2) (.pair (.mp 3) (.pair (.nils) (.pair (.dat (.int .i64)) (.pair (.nils) (.dat Qf9))))), .mpd .str .str, .mpd .str .str, .vec (.int .i64)]⟩⟩]
def Q07.sem (k : Nat) : QS := Q17 Q07.T Q07.os fun x => Q07 k x.1 x.2.1 x.2.2.1 x.2.2.2.1 x.2.2.2.2.1
noncomputable def Q07.ctx (k : Nat) : Ctx := ⟨Try.prog, gam []⟩
theorem Q07.gok (k : Nat) : ∀ f, Qu Try.prog f ((Q07.ctx k).Γ f) := Q0e
def Q07.ann (k : Nat) : Ann := .nil
theorem Q07.body (k : Nat) : Q18 (Q07.ctx k) Try.f21 (Func.code Try.f21) (Q07.ann k) Q07.T Q07.os (fun x K => Q07.c k x.1 x.2.1 x.2.2.1 x.2.2.2.1 x.2.2.2.2.1 K) := by
 intro ρ x K; kernel_rfl
theorem Q07.sem_ok (k : Nat) : Qu Try.prog 21 (Q07.sem k) :=
 Q0u (C := Q07.ctx k) (Q07.gok k) Try.mix (c := Func.code Try.f21) (ann := Q07.ann k) (T := Q07.T) (os := Q07.os) (fun x K => Q07.c k x.1 x.2.1 x.2.2.1 x.2.2.2.1 x.2.2.2.2.1 K) Try.func21 (by kernel_rfl) (by kernel_rfl) Q2.nil (Q07.body k) (by kernel_rfl) (by kernel_rfl) (by kernel_rfl)
abbrev Q01.τ : Type := QeN 
def Q01.c (k : Nat) {ρ : Type} (b0 : Qf0) (b1 : Qf4) (b2 : Qf8) (b3 : Qf8) (b4 : (List Int)) (K : Q01.τ → Option ρ) : Option ρ :=
 (Q07 k ((), (b0.2.1, (b0.2.2.1, ((), ((), (b0.2.2.2.2.2.1, (b0.2.2.2.2.2.2.1, ()))))))) ((), ((), ((), (b1.2.2.2.1, ((), (b1.2.2.2.2.2.1, ())))))) b2 b3 b4).bind fun t0 => bif t0.1 then (K ((7 : Int), (((), (t0.2.1.2.1, (t0.2.1.2.2.1, ((), ((), (t0.2.1.2.2.2.2.2.1, (t0.2.1.2.2.2.2.2.2.1, ()))))))), (((), ((), ((), (t0.2.2.1.2.2.2.1, ((), (t0.2.2.1.2.2.2.2.2.1, ())))))), (t0.2.2.2.1, (t0.2.2.2.2.1, (t0.2.2.2.2.2.1, ()))))))) else (K ((0 : Int), (((), (t0.2.1.2.1, (t0.2.1.2.2.1, ((), ((), (t0.2.1.2.2.2.2.2.1, (t0.2.1.2.2.2.2.2.2.1, ()))))))), (((), ((), ((), (t0.2.2.1.2.2.2.1, ((), (t0.2.2.1.2.2.2.2.2.1, ())))))), (t0.2.2.2.1, (t0.2.2.2.2.1, (t0.2.2.2.2.2.1, ())))))))
def Q01 (k : Nat) (b0 : Qf0) (b1 : Qf4) (b2 : Qf8) (b3 : Qf8) (b4 : (List Int)) : Option Q01.τ := Q01.c k b0 b1 b2 b3 b4 some
def Q01.T : Q15 := ⟨[.ptr 0 []], [.pair (.ptr 1 []) (.pair (.dat .str) (.pair (.dat (.int .u64)) (.pair (.nils) (.pair (.vsl 4) (.dat Qf6))))), .pair (.mp 2) (.pair (.mp 3) (.pair (.nils) (.pair (.dat (.int .i64)) (.pair (.nils) (.dat Qf9))))), .mpd .str .str, .mpd .str .str, .vec (.int .i64)], 4⟩
def Q01.os : List Out := [⟨.ret, [.freeze (.slot 0), .auto 4], ⟨[.dat (.int .i64)], [.pair (.ptr 1 []) (.pair (.dat .str) (.pair (.dat (.int .u64)) (.pair (.nils) (.pair (.vsl 4) (.dat Qf6))))), .pair (.mp 2) (.pair (.mp 3) (.pair (.nils) (.pair (.dat (.int .i64)) (.pair (.nils) (.dat Qf9))))), .mpd .str .str, .mpd .str .str, .vec (.int .i64)]⟩⟩]
def Q01.sem (k : Nat) : QS := Q17 Q01.T Q01.os fun x => Q01 k x.1 x.2.1 x.2.2.1 x.2.2.2.1 x.2.2.2.2.1
noncomputable def Q01.ctx (k : Nat) : Ctx := ⟨Try.prog, gam [(21, (Q07.sem k))]⟩
theorem Q01.gok (k : Nat) : ∀ f, Qu Try.prog f ((Q01.ctx k).Γ f) := (Qf (Q07.sem_ok k) Q0e)
def Q01.ann (k : Nat) : Ann := .nil
theorem Q01.body (k : Nat) : Q18 (Q01.ctx k) Try.f58 (Func.code Try.f58) (Q01.ann k) Q01.T Q01.os (fun x K => Q01.c k x.1 x.2.1 x.2.2.1 x.2.2.2.1 x.2.2.2.2.1 K) := by
 intro ρ x K; kernel_rfl
theorem Q01.sem_ok (k : Nat) : Qu Try.prog 58 (Q01.sem k) :=
 Q0u (C := Q01.ctx k) (Q01.gok k) Try.mix (c := Func.code Try.f58) (ann := Q01.ann k) (T := Q01.T) (os := Q01.os) (fun x K => Q01.c k x.1 x.2.1 x.2.2.1 x.2.2.2.1 x.2.2.2.2.1 K) Try.func58 (by kernel_rfl) (by kernel_rfl) Q2.nil (Q01.body k) (by kernel_rfl) (by kernel_rfl) (by kernel_rfl)
abbrev Q0r.τ : Type := QeX ⊕ QeR 
def Q0r.c (k : Nat) {ρ : Type} (name : ByteArray) (s : ByteArray) (b0 : Qf4) (b1 : Qf8) (b2 : Qf8) (K : Q0r.τ → Option ρ) : Option ρ :=
  (Q0K k (List.set (List.replicate 1 ByteArray.empty) 0 name) ((), ((), ((), (b0.2.2.2.1, ((), (b0.2.2.2.2.2.1, ())))))) b1 b2).bind fun t0 => bif (t0.1 != (0 : Int)) then (K (.inl (t0.1, (((), ((), ((), (t0.2.1.2.2.2.1, ((), (t0.2.1.2.2.2.2.2.1, ())))))), (t0.2.2.1, (t0.2.2.2.1, ())))))) else (let v1 : ByteArray := (Option.getD (mget Ty.str name t0.2.2.2.1) ByteArray.empty)
  (Q0j k name (((ByteArray.size v1) : Nat) : Int) s ((), ((), ((), (t0.2.1.2.2.2.1, ((), (t0.2.1.2.2.2.2.2.1, ())))))) t0.2.2.1 t0.2.2.2.1).bind fun t2 => (match t2 with
 | .inl t3 => (K (.inl (t3.1, (((), ((), ((), (t3.2.1.2.2.2.1, ((), (t3.2.1.2.2.2.2.2.1, ())))))), (t3.2.2.1, (t3.2.2.2.1, ()))))))
 | .inr (t4) => (K (.inr (t4.1, (((), ((), ((), (t4.2.1.2.2.2.1, ((), (t4.2.1.2.2.2.2.2.1, ())))))), (t4.2.2.1, (t4.2.2.2.1, (t4.2.2.2.2.1, ())))))))))
def Q0r (k : Nat) (name : ByteArray) (s : ByteArray) (b0 : Qf4) (b1 : Qf8) (b2 : Qf8) : Option Q0r.τ := Q0r.c k name s b0 b1 b2 some
def Q0r.T : Q15 := ⟨[.ptr 0 [], .dat .str, .dat .str], [.pair (.mp 1) (.pair (.mp 2) (.pair (.nils) (.pair (.dat (.int .i64)) (.pair (.nils) (.dat Qf9))))), .mpd .str .str, .mpd .str .str], 3⟩
def Q0r.os : List Out := [⟨.ret, [.freeze (.slot 0), .auto 3], ⟨[.dat (.int .i64)], [.pair (.mp 1) (.pair (.mp 2) (.pair (.nils) (.pair (.dat (.int .i64)) (.pair (.nils) (.dat Qf9))))), .mpd .str .str, .mpd .str .str]⟩⟩, ⟨.ret, [.freeze (.slot 0), .auto 3], ⟨[.dat (.int .i64)], [.pair (.mp 1) (.pair (.mp 2) (.pair (.vsl 3) (.pair (.dat (.int .i64)) (.pair (.nils) (.dat Qf9))))), .mpd .str .str, .mpd .str .str, .vec QeZ]⟩⟩]
def Q0r.sem (k : Nat) : QS := Q17 Q0r.T Q0r.os fun x => Q0r k x.1 x.2.1 x.2.2.1 x.2.2.2.1 x.2.2.2.2.1
noncomputable def Q0r.ctx (k : Nat) : Ctx := ⟨Try.prog, gam [(79, (Q0K.sem k)), (72, (Q0j.sem k))]⟩
theorem Q0r.gok (k : Nat) : ∀ f, Qu Try.prog f ((Q0r.ctx k).Γ f) := (Qf (Q0K.sem_ok k) (Qf (Q0j.sem_ok k) Q0e))
def Q0r.ann (k : Nat) : Ann := .nil
theorem Q0r.body (k : Nat) : Q18 (Q0r.ctx k) Try.f60 (Func.code Try.f60) (Q0r.ann k) Q0r.T Q0r.os (fun x K => Q0r.c k x.1 x.2.1 x.2.2.1 x.2.2.2.1 x.2.2.2.2.1 K) := by
 intro ρ x K; kernel_rfl
theorem Q0r.sem_ok (k : Nat) : Qu Try.prog 60 (Q0r.sem k) :=
 Q0u (C := Q0r.ctx k) (Q0r.gok k) Try.mix (c := Func.code Try.f60) (ann := Q0r.ann k) (T := Q0r.T) (os := Q0r.os) (fun x K => Q0r.c k x.1 x.2.1 x.2.2.1 x.2.2.2.1 x.2.2.2.2.1 K) Try.func60 (by kernel_rfl) (by kernel_rfl) Q2.nil (Q0r.body k) (by kernel_rfl) (by kernel_rfl) (by kernel_rfl)
abbrev QE.τ : Type := QeN 
def QE.c (k : Nat) {ρ : Type} (e : Int) (b0 : Qf0) (b1 : Qf4) (b2 : Qf8) (b3 : Qf8) (b4 : (List Int)) (K : QE.τ → Option ρ) : Option ρ :=
 bif (e == (7 : Int)) then (K (e, (((), (b0.2.1, (b0.2.2.1, ((), ((), (b0.2.2.2.2.2.1, (true, ()))))))), (((), ((), ((), (b1.2.2.2.1, ((), (b1.2.2.2.2.2.1, ())))))), (b2, (b3, (b4, ()))))))) else (K (e, (((), (b0.2.1, (b0.2.2.1, ((), ((), (b0.2.2.2.2.2.1, (b0.2.2.2.2.2.2.1, ()))))))), (((), ((), ((), (b1.2.2.2.1, ((), (b1.2.2.2.2.2.1, ())))))), (b2, (b3, (b4, ())))))))
def QE (k : Nat) (e : Int) (b0 : Qf0) (b1 : Qf4) (b2 : Qf8) (b3 : Qf8) (b4 : (List Int)) : Option QE.τ := QE.c k e b0 b1 b2 b3 b4 some
def QE.T : Q15 := ⟨[.ptr 0 [], .dat (.int .i64)], [.pair (.ptr 1 []) (.pair (.dat .str) (.pair (.dat (.int .u64)) (.pair (.nils) (.pair (.vsl 4) (.dat Qf6))))), .pair (.mp 2) (.pair (.mp 3) (.pair (.nils) (.pair (.dat (.int .i64)) (.pair (.nils) (.dat Qf9))))), .mpd .str .str, .mpd .str .str, .vec (.int .i64)], 4⟩
def QE.os : List Out := [⟨.ret, [.freeze (.slot 0), .auto 4], ⟨[.dat (.int .i64)], [.pair (.ptr 1 []) (.pair (.dat .str) (.pair (.dat (.int .u64)) (.pair (.nils) (.pair (.vsl 4) (.dat Qf6))))), .pair (.mp 2) (.pair (.mp 3) (.pair (.nils) (.pair (.dat (.int .i64)) (.pair (.nils) (.dat Qf9))))), .mpd .str .str, .mpd .str .str, .vec (.int .i64)]⟩⟩]
def QE.sem (k : Nat) : QS := Q17 QE.T QE.os fun x => QE k x.1 x.2.1 x.2.2.1 x.2.2.2.1 x.2.2.2.2.1 x.2.2.2.2.2.1
noncomputable def QE.ctx (k : Nat) : Ctx := ⟨Try.prog, gam []⟩
theorem QE.gok (k : Nat) : ∀ f, Qu Try.prog f ((QE.ctx k).Γ f) := Q0e
def QE.ann (k : Nat) : Ann := .nil
theorem QE.body (k : Nat) : Q18 (QE.ctx k) Try.f59 (Func.code Try.f59) (QE.ann k) QE.T QE.os (fun x K => QE.c k x.1 x.2.1 x.2.2.1 x.2.2.2.1 x.2.2.2.2.1 x.2.2.2.2.2.1 K) := by
 intro ρ x K; kernel_rfl
theorem QE.sem_ok (k : Nat) : Qu Try.prog 59 (QE.sem k) :=
 Q0u (C := QE.ctx k) (QE.gok k) Try.mix (c := Func.code Try.f59) (ann := QE.ann k) (T := QE.T) (os := QE.os) (fun x K => QE.c k x.1 x.2.1 x.2.2.1 x.2.2.2.1 x.2.2.2.2.1 x.2.2.2.2.2.1 K) Try.func59 (by kernel_rfl) (by kernel_rfl) Q2.nil (QE.body k) (by kernel_rfl) (by kernel_rfl) (by kernel_rfl)
abbrev Qv.τ : Type := QeN 
def Qv.c (k : Nat) {ρ : Type} (b0 : Qf0) (b1 : Qf4) (b2 : Qf8) (b3 : Qf8) (b4 : (List Int)) (K : Qv.τ → Option ρ) : Option ρ :=
 let v0 : Int := (((List.length b4) : Nat) : Int)
 bif (v0 == (0 : Int)) then (K ((20 : Int), (((), (b0.2.1, (b0.2.2.1, ((), ((), (b0.2.2.2.2.2.1, (b0.2.2.2.2.2.2.1, ()))))))), (((), ((), ((), (b1.2.2.2.1, ((), (b1.2.2.2.2.2.1, ())))))), (b2, (b3, (b4, ()))))))) else (let v1 : Int := (((List.length b4) : Nat) : Int)
 let v2 : Int := (IntKind.wrap IntKind.i64 (v1 - (1 : Int)))
 bif (decide (((0 : Int) ≤ v2) ∧ (v2 < (((List.length b4) : Nat) : Int)))) then (let v3 : Int := (List.getD b4 (Int.toNat v2) (0 : Int))
 K (v3, (((), (b0.2.1, (b0.2.2.1, ((), ((), (b0.2.2.2.2.2.1, (b0.2.2.2.2.2.2.1, ()))))))), (((), ((), ((), (b1.2.2.2.1, ((), (b1.2.2.2.2.2.1, ())))))), (b2, (b3, (b4, ()))))))) else (none))
def Qv (k : Nat) (b0 : Qf0) (b1 : Qf4) (b2 : Qf8) (b3 : Qf8) (b4 : (List Int)) : Option Qv.τ := Qv.c k b0 b1 b2 b3 b4 some
def Qv.T : Q15 := ⟨[.ptr 0 []], [.pair (.ptr 1 []) (.pair (.dat .str) (.pair (.dat (.int .u64)) (.pair (.nils) (.pair (.vsl 4) (.dat Qf6))))), .pair (.mp 2) (.pair (.mp 3) (.pair (.nils) (.pair (.dat (.int .i64)) (.pair (.nils) (.dat Qf9))))), .mpd .str .str, .mpd .str .str, .vec (.int .i64)], 5⟩
def Qv.os : List Out := [⟨.ret, [.freeze (.slot 0), .auto 5], ⟨[.dat (.int .i64)], [.pair (.ptr 1 []) (.pair (.dat .str) (.pair (.dat (.int .u64)) (.pair (.nils) (.pair (.vsl 4) (.dat Qf6))))), .pair (.mp 2) (.pair (.mp 3) (.pair (.nils) (.pair (.dat (.int .i64)) (.pair (.nils) (.dat Qf9))))), .mpd .str .str, .mpd .str .str, .vec (.int .i64)]⟩⟩]
def Qv.sem (k : Nat) : QS := Q17 Qv.T Qv.os fun x => Qv k x.1 x.2.1 x.2.2.1 x.2.2.2.1 x.2.2.2.2.1
noncomputable def Qv.ctx (k : Nat) : Ctx := ⟨Try.prog, gam []⟩
theorem Qv.gok (k : Nat) : ∀ f, Qu Try.prog f ((Qv.ctx k).Γ f) := Q0e
def Qv.ann (k : Nat) : Ann := .nil
theorem Qv.body (k : Nat) : Q18 (Qv.ctx k) Try.f28 (Func.code Try.f28) (Qv.ann k) Qv.T Qv.os (fun x K => Qv.c k x.1 x.2.1 x.2.2.1 x.2.2.2.1 x.2.2.2.2.1 K) := by
 intro ρ x K; kernel_rfl
theorem Qv.sem_ok (k : Nat) : Qu Try.prog 28 (Qv.sem k) :=
 Q0u (C := Qv.ctx k) (Qv.gok k) Try.mix (c := Func.code Try.f28) (ann := Qv.ann k) (T := Qv.T) (os := Qv.os) (fun x K => Qv.c k x.1 x.2.1 x.2.2.1 x.2.2.2.1 x.2.2.2.2.1 K) Try.func28 (by kernel_rfl) (by kernel_rfl) Q2.nil (Qv.body k) (by kernel_rfl) (by kernel_rfl) (by kernel_rfl)
def Qv.rsem (k : Nat) : QS := Qbx Qv.T Qv.os fun x => Qv k x.1 x.2.1 x.2.2.1 x.2.2.2.1 x.2.2.2.2.1
theorem Qv.rsem_ok (k : Nat) : Qu Try.prog 28 (Qv.rsem k) :=
 QdO (Qv.sem_ok k) (by kernel_rfl) (by
  intro x y h
  try dsimp only at h
  simp only [Qv, Qv.c, Bool.cond_eq_ite] at h
  repeat' split at h
  all_goals first | (cases h; done) | (cases h; rfl))
abbrev Qr.τ : Type := QeL 
def Qr.c (k : Nat) {ρ : Type} (e : Int) (b0 : Qf0) (b1 : Qf4) (b2 : Qf8) (b3 : Qf8) (b4 : Qf1) (b5 : (List Int)) (K : Qr.τ → Option ρ) : Option ρ :=
 bif (e == (7 : Int)) then (K (e, (((), (b0.2.1, (b0.2.2.1, ((), ((), (b0.2.2.2.2.2.1, (true, ()))))))), (((), ((), ((), (b1.2.2.2.1, ((), (b1.2.2.2.2.2.1, ())))))), (b2, (b3, (b5, (b4, ())))))))) else (K (e, (((), (b0.2.1, (b0.2.2.1, ((), ((), (b0.2.2.2.2.2.1, (b0.2.2.2.2.2.2.1, ()))))))), (((), ((), ((), (b1.2.2.2.1, ((), (b1.2.2.2.2.2.1, ())))))), (b2, (b3, (b5, (b4, ()))))))))
def Qr (k : Nat) (e : Int) (b0 : Qf0) (b1 : Qf4) (b2 : Qf8) (b3 : Qf8) (b4 : Qf1) (b5 : (List Int)) : Option Qr.τ := Qr.c k e b0 b1 b2 b3 b4 b5 some
def Qr.T : Q15 := ⟨[.ptr 0 [], .dat (.int .i64)], [.pair (.ptr 1 []) (.pair (.dat .str) (.pair (.dat (.int .u64)) (.pair (.nils) (.pair (.vsl 5) (.dat Qf6))))), .pair (.mp 2) (.pair (.mp 3) (.pair (.vsl 4) (.pair (.dat (.int .i64)) (.pair (.nils) (.dat Qf9))))), .mpd .str .str, .mpd .str .str, .vec QeZ, .vec (.int .i64)], 4⟩
def Qr.os : List Out := [⟨.ret, [.freeze (.slot 0), .auto 4], ⟨[.dat (.int .i64)], .pair (.ptr 1 []) (.pair (.dat .str) (.pair (.dat (.int .u64)) (.pair (.nils) (.pair (.vsl 4) (.dat Qf6))))) :: .pair (.mp 2) (.pair (.mp 3) (.pair (.vsl 5) (.pair (.dat (.int .i64)) (.pair (.nils) (.dat Qf9))))) :: .mpd .str .str :: .mpd .str .str :: .vec (.int .i64) :: .vec QeZ :: []⟩⟩]
def Qr.sem (k : Nat) : QS := Q17 Qr.T Qr.os fun x => Qr k x.1 x.2.1 x.2.2.1 x.2.2.2.1 x.2.2.2.2.1 x.2.2.2.2.2.1 x.2.2.2.2.2.2.1
noncomputable def Qr.ctx (k : Nat) : Ctx := ⟨Try.prog, gam []⟩
theorem Qr.gok (k : Nat) : ∀ f, Qu Try.prog f ((Qr.ctx k).Γ f) := Q0e
def Qr.ann (k : Nat) : Ann := .nil
theorem Qr.body (k : Nat) : Q18 (Qr.ctx k) Try.f59 (Func.code Try.f59) (Qr.ann k) Qr.T Qr.os (fun x K => Qr.c k x.1 x.2.1 x.2.2.1 x.2.2.2.1 x.2.2.2.2.1 x.2.2.2.2.2.1 x.2.2.2.2.2.2.1 K) := by
 intro ρ x K; kernel_rfl
theorem Qr.sem_ok (k : Nat) : Qu Try.prog 59 (Qr.sem k) :=
 Q0u (C := Qr.ctx k) (Qr.gok k) Try.mix (c := Func.code Try.f59) (ann := Qr.ann k) (T := Qr.T) (os := Qr.os) (fun x K => Qr.c k x.1 x.2.1 x.2.2.1 x.2.2.2.1 x.2.2.2.2.1 x.2.2.2.2.2.1 x.2.2.2.2.2.2.1 K) Try.func59 (by kernel_rfl) (by kernel_rfl) Q2.nil (Qr.body k) (by kernel_rfl) (by kernel_rfl) (by kernel_rfl)
abbrev Qm.τ : Type := (Int × Qf0 × Qf4 × Qf8 × Qf8 × Qf1 × (List Int) × Unit)
def Qm.c (k : Nat) {ρ : Type} (b0 : Qf0) (b1 : Qf4) (b2 : Qf8) (b3 : Qf8) (b4 : Qf1) (b5 : (List Int)) (K : Qm.τ → Option ρ) : Option ρ :=
 let v0 : Int := (((List.length b5) : Nat) : Int)
 bif (v0 == (0 : Int)) then (K ((20 : Int), (((), (b0.2.1, (b0.2.2.1, ((), ((), (b0.2.2.2.2.2.1, (b0.2.2.2.2.2.2.1, ()))))))), (((), ((), ((), (b1.2.2.2.1, ((), (b1.2.2.2.2.2.1, ())))))), (b2, (b3, (b4, (b5, ())))))))) else (let v1 : Int := (((List.length b5) : Nat) : Int)
 let v2 : Int := (IntKind.wrap IntKind.i64 (v1 - (1 : Int)))
 bif (decide (((0 : Int) ≤ v2) ∧ (v2 < (((List.length b5) : Nat) : Int)))) then (let v3 : Int := (List.getD b5 (Int.toNat v2) (0 : Int))
 K (v3, (((), (b0.2.1, (b0.2.2.1, ((), ((), (b0.2.2.2.2.2.1, (b0.2.2.2.2.2.2.1, ()))))))), (((), ((), ((), (b1.2.2.2.1, ((), (b1.2.2.2.2.2.1, ())))))), (b2, (b3, (b4, (b5, ())))))))) else (none))
def Qm (k : Nat) (b0 : Qf0) (b1 : Qf4) (b2 : Qf8) (b3 : Qf8) (b4 : Qf1) (b5 : (List Int)) : Option Qm.τ := Qm.c k b0 b1 b2 b3 b4 b5 some
def Qm.T : Q15 := ⟨[.ptr 0 []], [.pair (.ptr 1 []) (.pair (.dat .str) (.pair (.dat (.int .u64)) (.pair (.nils) (.pair (.vsl 5) (.dat Qf6))))), .pair (.mp 2) (.pair (.mp 3) (.pair (.vsl 4) (.pair (.dat (.int .i64)) (.pair (.nils) (.dat Qf9))))), .mpd .str .str, .mpd .str .str, .vec QeZ, .vec (.int .i64)], 6⟩
def Qm.os : List Out := [⟨.ret, [.freeze (.slot 0), .auto 6], ⟨[.dat (.int .i64)], .pair (.ptr 1 []) (.pair (.dat .str) (.pair (.dat (.int .u64)) (.pair (.nils) (.pair (.vsl 5) (.dat Qf6))))) :: .pair (.mp 2) (.pair (.mp 3) (.pair (.vsl 4) (.pair (.dat (.int .i64)) (.pair (.nils) (.dat Qf9))))) :: .mpd .str .str :: .mpd .str .str :: .vec QeZ :: .vec (.int .i64) :: []⟩⟩]
def Qm.sem (k : Nat) : QS := Q17 Qm.T Qm.os fun x => Qm k x.1 x.2.1 x.2.2.1 x.2.2.2.1 x.2.2.2.2.1 x.2.2.2.2.2.1
noncomputable def Qm.ctx (k : Nat) : Ctx := ⟨Try.prog, gam []⟩
theorem Qm.gok (k : Nat) : ∀ f, Qu Try.prog f ((Qm.ctx k).Γ f) := Q0e
def Qm.ann (k : Nat) : Ann := .nil
theorem Qm.body (k : Nat) : Q18 (Qm.ctx k) Try.f28 (Func.code Try.f28) (Qm.ann k) Qm.T Qm.os (fun x K => Qm.c k x.1 x.2.1 x.2.2.1 x.2.2.2.1 x.2.2.2.2.1 x.2.2.2.2.2.1 K) := by
 intro ρ x K; kernel_rfl
theorem Qm.sem_ok (k : Nat) : Qu Try.prog 28 (Qm.sem k) :=
 Q0u (C := Qm.ctx k) (Qm.gok k) Try.mix (c := Func.code Try.f28) (ann := Qm.ann k) (T := Qm.T) (os := Qm.os) (fun x K => Qm.c k x.1 x.2.1 x.2.2.1 x.2.2.2.1 x.2.2.2.2.1 x.2.2.2.2.2.1 K) Try.func28 (by kernel_rfl) (by kernel_rfl) Q2.nil (Qm.body k) (by kernel_rfl) (by kernel_rfl) (by kernel_rfl)
def Qm.rsem (k : Nat) : QS := Qbx Qm.T Qm.os fun x => Qm k x.1 x.2.1 x.2.2.1 x.2.2.2.1 x.2.2.2.2.1 x.2.2.2.2.2.1
theorem Qm.rsem_ok (k : Nat) : Qu Try.prog 28 (Qm.rsem k) :=
 QdO (Qm.sem_ok k) (by kernel_rfl) (by
  intro x y h
  try dsimp only at h
  simp only [Qm, Qm.c, Bool.cond_eq_ite] at h
  repeat' split at h
  all_goals first | (cases h; done) | (cases h; rfl))
abbrev Q0b.τ : Type := QeN ⊕ QeM ⊕ QeL ⊕ QeK 
def Q0b.c (k : Nat) {ρ : Type} (s : ByteArray) (b0 : Qf0) (b1 : Qf4) (b2 : Qf8) (b3 : Qf8) (b4 : (List Int)) (K : Q0b.τ → Option ρ) : Option ρ :=
  (Q01 k ((), (b0.2.1, (b0.2.2.1, ((), ((), (b0.2.2.2.2.2.1, (b0.2.2.2.2.2.2.1, ()))))))) ((), ((), ((), (b1.2.2.2.1, ((), (b1.2.2.2.2.2.1, ())))))) b2 b3 b4).bind fun t0 => bif (t0.1 != (0 : Int)) then (K (.inl (t0.1, (((), (t0.2.1.2.1, (t0.2.1.2.2.1, ((), ((), (t0.2.1.2.2.2.2.2.1, (t0.2.1.2.2.2.2.2.2.1, ()))))))), (((), ((), ((), (t0.2.2.1.2.2.2.1, ((), (t0.2.2.1.2.2.2.2.2.1, ())))))), (t0.2.2.2.1, (t0.2.2.2.2.1, (t0.2.2.2.2.2.1, ())))))))) else (let v1 : Int := t0.2.1.2.2.1
  (Q09 k v1 (IntKind.wrap IntKind.u64 (0 : Int)) s).bind fun t2 => let v3 : ByteArray := t2.1
  let v4 : Int := t2.2.1
  bif (v4 != (0 : Int)) then (K (.inl (v4, (((), (t0.2.1.2.1, (t0.2.1.2.2.1, ((), ((), (t0.2.1.2.2.2.2.2.1, (t0.2.1.2.2.2.2.2.2.1, ()))))))), (((), ((), ((), (t0.2.2.1.2.2.2.1, ((), (t0.2.2.1.2.2.2.2.2.1, ())))))), (t0.2.2.2.1, (t0.2.2.2.2.1, (t0.2.2.2.2.2.1, ())))))))) else (let v5 : ByteArray := t0.2.1.2.1
  (Q0r k v5 v3 ((), ((), ((), (t0.2.2.1.2.2.2.1, ((), (t0.2.2.1.2.2.2.2.2.1, ())))))) t0.2.2.2.1 t0.2.2.2.2.1).bind fun t6 => (match t6 with
 | .inl t7 => ((QE k t7.1 ((), (t0.2.1.2.1, (t0.2.1.2.2.1, ((), ((), (t0.2.1.2.2.2.2.2.1, (t0.2.1.2.2.2.2.2.2.1, ()))))))) ((), ((), ((), (t7.2.1.2.2.2.1, ((), (t7.2.1.2.2.2.2.2.1, ())))))) t7.2.2.1 t7.2.2.2.1 t0.2.2.2.2.2.1).bind fun t8 => bif (t8.1 != (0 : Int)) then (K (.inl (t8.1, (((), (t8.2.1.2.1, (t8.2.1.2.2.1, ((), ((), (t8.2.1.2.2.2.2.2.1, (t8.2.1.2.2.2.2.2.2.1, ()))))))), (((), ((), ((), (t8.2.2.1.2.2.2.1, ((), (t8.2.2.1.2.2.2.2.2.1, ())))))), (t8.2.2.2.1, (t8.2.2.2.2.1, (t8.2.2.2.2.2.1, ())))))))) else (bif (Nat.ble ((List.length (List.set (List.replicate 1 ByteArray.empty) 0 s)) * 16) 140737488355328) then ((Qv k ((), (t8.2.1.2.1, (t8.2.1.2.2.1, ((), ((), (t8.2.1.2.2.2.2.2.1, (t8.2.1.2.2.2.2.2.2.1, ()))))))) ((), ((), ((), (t8.2.2.1.2.2.2.1, ((), (t8.2.2.1.2.2.2.2.2.1, ())))))) t8.2.2.2.1 t8.2.2.2.2.1 t8.2.2.2.2.2.1).bind fun t9 => let v10 : Int := (IntKind.wrap IntKind.i64 (t9.1 + (((ByteArray.size v3) : Nat) : Int)))
  bif (Nat.ble (((List.length t8.2.2.2.2.2.1) + (List.length (List.set (List.replicate 1 (0 : Int)) 0 v10))) * 8) 140737488355328) then (K (.inr (.inl ((0 : Int), (((), (t8.2.1.2.1, (t8.2.1.2.2.1, ((), ((), (t8.2.1.2.2.2.2.2.1, (t8.2.1.2.2.2.2.2.2.1, ()))))))), (((), ((), ((), (t8.2.2.1.2.2.2.1, ((), (t8.2.2.1.2.2.2.2.2.1, ())))))), (t8.2.2.2.1, (t8.2.2.2.2.1, ((List.set (List.replicate 1 ByteArray.empty) 0 s), ((t8.2.2.2.2.2.1 ++ (List.set (List.replicate 1 (0 : Int)) 0 v10)), ())))))))))) else (none)) else (none)))
 | .inr (t11) => ((Qr k t11.1 ((), (t0.2.1.2.1, (t0.2.1.2.2.1, ((), ((), (t0.2.1.2.2.2.2.2.1, (t0.2.1.2.2.2.2.2.2.1, ()))))))) ((), ((), ((), (t11.2.1.2.2.2.1, ((), (t11.2.1.2.2.2.2.2.1, ())))))) t11.2.2.1 t11.2.2.2.1 t11.2.2.2.2.1 t0.2.2.2.2.2.1).bind fun t12 => bif (t12.1 != (0 : Int)) then (K (.inr (.inr (.inl (t12.1, (((), (t12.2.1.2.1, (t12.2.1.2.2.1, ((), ((), (t12.2.1.2.2.2.2.2.1, (t12.2.1.2.2.2.2.2.2.1, ()))))))), (((), ((), ((), (t12.2.2.1.2.2.2.1, ((), (t12.2.2.1.2.2.2.2.2.1, ())))))), (t12.2.2.2.1, (t12.2.2.2.2.1, (t12.2.2.2.2.2.1, (t12.2.2.2.2.2.2.1, ()))))))))))) else (bif (Nat.ble ((List.length (List.set (List.replicate 1 ByteArray.empty) 0 s)) * 16) 140737488355328) then ((Qm k ((), (t12.2.1.2.1, (t12.2.1.2.2.1, ((), ((), (t12.2.1.2.2.2.2.2.1, (t12.2.1.2.2.2.2.2.2.1, ()))))))) ((), ((), ((), (t12.2.2.1.2.2.2.1, ((), (t12.2.2.1.2.2.2.2.2.1, ())))))) t12.2.2.2.1 t12.2.2.2.2.1 t12.2.2.2.2.2.2.1 t12.2.2.2.2.2.1).bind fun t13 => let v14 : Int := (IntKind.wrap IntKind.i64 (t13.1 + (((ByteArray.size v3) : Nat) : Int)))
  bif (Nat.ble (((List.length t12.2.2.2.2.2.1) + (List.length (List.set (List.replicate 1 (0 : Int)) 0 v14))) * 8) 140737488355328) then (K (.inr (.inr (.inr ((0 : Int), (((), (t12.2.1.2.1, (t12.2.1.2.2.1, ((), ((), (t12.2.1.2.2.2.2.2.1, (t12.2.1.2.2.2.2.2.2.1, ()))))))), (((), ((), ((), (t12.2.2.1.2.2.2.1, ((), (t12.2.2.1.2.2.2.2.2.1, ())))))), (t12.2.2.2.1, (t12.2.2.2.2.1, ((List.set (List.replicate 1 ByteArray.empty) 0 s), ((t12.2.2.2.2.2.1 ++ (List.set (List.replicate 1 (0 : Int)) 0 v14)), (t12.2.2.2.2.2.2.1, ())))))))))))) else (none)) else (none))))))
def Q0b (k : Nat) (s : ByteArray) (b0 : Qf0) (b1 : Qf4) (b2 : Qf8) (b3 : Qf8) (b4 : (List Int)) : Option Q0b.τ := Q0b.c k s b0 b1 b2 b3 b4 some
def Q0b.T : Q15 := ⟨[.ptr 0 [], .dat .str], [.pair (.ptr 1 []) (.pair (.dat .str) (.pair (.dat (.int .u64)) (.pair (.nils) (.pair (.vsl 4) (.dat Qf6))))), .pair (.mp 2) (.pair (.mp 3) (.pair (.nils) (.pair (.dat (.int .i64)) (.pair (.nils) (.dat Qf9))))), .mpd .str .str, .mpd .str .str, .vec (.int .i64)], 4⟩
def Q0b.os : List Out := [⟨.ret, [.freeze (.slot 0), .auto 4], ⟨[.dat (.int .i64)], [.pair (.ptr 1 []) (.pair (.dat .str) (.pair (.dat (.int .u64)) (.pair (.nils) (.pair (.vsl 4) (.dat Qf6))))), .pair (.mp 2) (.pair (.mp 3) (.pair (.nils) (.pair (.dat (.int .i64)) (.pair (.nils) (.dat Qf9))))), .mpd .str .str, .mpd .str .str, .vec (.int .i64)]⟩⟩, ⟨.ret, [.freeze (.slot 0), .auto 4], ⟨[.dat (.int .i64)], .pair (.ptr 1 []) (.pair (.dat .str) (.pair (.dat (.int .u64)) (.pair (.vsl 4) (.pair (.vsl 5) (.dat Qf6))))) :: .pair (.mp 2) (.pair (.mp 3) (.pair (.nils) (.pair (.dat (.int .i64)) (.pair (.nils) (.dat Qf9))))) :: .mpd .str .str :: .mpd .str .str :: .vec .str :: .vec (.int .i64) :: []⟩⟩, ⟨.ret, [.freeze (.slot 0), .auto 4], ⟨[.dat (.int .i64)], .pair (.ptr 1 []) (.pair (.dat .str) (.pair (.dat (.int .u64)) (.pair (.nils) (.pair (.vsl 4) (.dat Qf6))))) :: .pair (.mp 2) (.pair (.mp 3) (.pair (.vsl 5) (.pair (.dat (.int .i64)) (.pair (.nils) (.dat Qf9))))) :: .mpd .str .str :: .mpd .str .str :: .vec (.int .i64) :: .vec QeZ :: []⟩⟩, ⟨.ret, [.freeze (.slot 0), .auto 4], ⟨[.dat (.int .i64)], .pair (.ptr 1 []) (.pair (.dat .str) (.pair (.dat (.int .u64)) (.pair (.vsl 4) (.pair (.vsl 5) (.dat Qf6))))) :: .pair (.mp 2) (.pair (.mp 3) (.pair (.vsl 6) (.pair (.dat (.int .i64)) (.pair (.nils) (.dat Qf9))))) :: .mpd .str .str :: .mpd .str .str :: .vec .str :: .vec (.int .i64) :: .vec QeZ :: []⟩⟩]
def Q0b.sem (k : Nat) : QS := Q17 Q0b.T Q0b.os fun x => Q0b k x.1 x.2.1 x.2.2.1 x.2.2.2.1 x.2.2.2.2.1 x.2.2.2.2.2.1
noncomputable def Q0b.ctx (k : Nat) : Ctx := ⟨Try.prog, gam [(58, (Q01.sem k)), (7, (Q09.sem k)), (60, (Q0r.sem k)), (59, (Q2c (Q2l QE.T) (QE.sem k) (Qr.sem k))), (28, (Q2c (Q2l Qv.T) (Qv.rsem k) (Qm.rsem k)))]⟩
theorem Q0b.gok (k : Nat) : ∀ f, Qu Try.prog f ((Q0b.ctx k).Γ f) := (Qf (Q01.sem_ok k) (Qf (Q09.sem_ok k) (Qf (Q0r.sem_ok k) (Qf (Q1t (QE.sem_ok k) (Qr.sem_ok k)) (Qf (Q1t (Qv.rsem_ok k) (Qm.rsem_ok k)) Q0e)))))
def Q0b.ann (k : Nat) : Ann := .nil
theorem Q0b.body (k : Nat) : Q18 (Q0b.ctx k) Try.f18 (Func.code Try.f18) (Q0b.ann k) Q0b.T Q0b.os (fun x K => Q0b.c k x.1 x.2.1 x.2.2.1 x.2.2.2.1 x.2.2.2.2.1 x.2.2.2.2.2.1 K) := by
 intro ρ x K; kernel_rfl
theorem Q0b.sem_ok (k : Nat) : Qu Try.prog 18 (Q0b.sem k) :=
 Q0u (C := Q0b.ctx k) (Q0b.gok k) Try.mix (c := Func.code Try.f18) (ann := Q0b.ann k) (T := Q0b.T) (os := Q0b.os) (fun x K => Q0b.c k x.1 x.2.1 x.2.2.1 x.2.2.2.1 x.2.2.2.2.1 x.2.2.2.2.2.1 K) Try.func18 (by kernel_rfl) (by kernel_rfl) Q2.nil (Q0b.body k) (by kernel_rfl) (by kernel_rfl) (by kernel_rfl)
abbrev QX.τ : Type := QeN 
def QX.c (k : Nat) {ρ : Type} (b0 : Qf0) (b1 : Qf4) (b2 : Qf8) (b3 : Qf8) (b4 : (List Int)) (K : QX.τ → Option ρ) : Option ρ :=
 K ((0 : Int), (((), (b0.2.1, (b0.2.2.1, ((), ((), (b0.2.2.2.2.2.1, (b0.2.2.2.2.2.2.1, ()))))))), (((), ((), ((), (b1.2.2.2.1, ((), (b1.2.2.2.2.2.1, ())))))), (b2, (b3, (b4, ()))))))
def QX (k : Nat) (b0 : Qf0) (b1 : Qf4) (b2 : Qf8) (b3 : Qf8) (b4 : (List Int)) : Option QX.τ := QX.c k b0 b1 b2 b3 b4 some
def QX.T : Q15 := ⟨[.ptr 0 []], [.pair (.ptr 1 []) (.pair (.dat .str) (.pair (.dat (.int .u64)) (.pair (.nils) (.pair (.vsl 4) (.dat Qf6))))), .pair (.mp 2) (.pair (.mp 3) (.pair (.nils) (.pair (.dat (.int .i64)) (.pair (.nils) (.dat Qf9))))), .mpd .str .str, .mpd .str .str, .vec (.int .i64)], 4⟩
def QX.os : List Out := [⟨.ret, [.freeze (.slot 0), .auto 4], ⟨[.dat (.int .i64)], [.pair (.ptr 1 []) (.pair (.dat .str) (.pair (.dat (.int .u64)) (.pair (.nils) (.pair (.vsl 4) (.dat Qf6))))), .pair (.mp 2) (.pair (.mp 3) (.pair (.nils) (.pair (.dat (.int .i64)) (.pair (.nils) (.dat Qf9))))), .mpd .str .str, .mpd .str .str, .vec (.int .i64)]⟩⟩]
def QX.sem (k : Nat) : QS := Q17 QX.T QX.os fun x => QX k x.1 x.2.1 x.2.2.1 x.2.2.2.1 x.2.2.2.2.1
noncomputable def QX.ctx (k : Nat) : Ctx := ⟨Try.prog, gam []⟩
theorem QX.gok (k : Nat) : ∀ f, Qu Try.prog f ((QX.ctx k).Γ f) := Q0e
def QX.ann (k : Nat) : Ann := .nil
theorem QX.body (k : Nat) : Q18 (QX.ctx k) Try.f25 (Func.code Try.f25) (QX.ann k) QX.T QX.os (fun x K => QX.c k x.1 x.2.1 x.2.2.1 x.2.2.2.1 x.2.2.2.2.1 K) := by
 intro ρ x K; kernel_rfl
theorem QX.sem_ok (k : Nat) : Qu Try.prog 25 (QX.sem k) :=
 Q0u (C := QX.ctx k) (QX.gok k) Try.mix (c := Func.code Try.f25) (ann := QX.ann k) (T := QX.T) (os := QX.os) (fun x K => QX.c k x.1 x.2.1 x.2.2.1 x.2.2.2.1 x.2.2.2.2.1 K) Try.func25 (by kernel_rfl) (by kernel_rfl) Q2.nil (QX.body k) (by kernel_rfl) (by kernel_rfl) (by kernel_rfl)
abbrev Q0c.τ : Type := (ByteArray × Bool × Qf0 × Qf4 × Qf8 × Qf8 × (List Int) × Unit)
def Q0c.c (k : Nat) {ρ : Type} (n : Int) (b0 : Qf0) (b1 : Qf4) (b2 : Qf8) (b3 : Qf8) (b4 : (List Int)) (K : Q0c.τ → Option ρ) : Option ρ :=
 bif (decide (n < (0 : Int))) then (K ((⟨(List.toArray [])⟩ : ByteArray), (false, (((), (b0.2.1, (b0.2.2.1, ((), ((), (b0.2.2.2.2.2.1, (b0.2.2.2.2.2.2.1, ()))))))), (((), ((), ((), (b1.2.2.2.1, ((), (b1.2.2.2.2.2.1, ())))))), (b2, (b3, (b4, ())))))))) else ((QX k ((), (b0.2.1, (b0.2.2.1, ((), ((), (b0.2.2.2.2.2.1, (b0.2.2.2.2.2.2.1, ()))))))) ((), ((), ((), (b1.2.2.2.1, ((), (b1.2.2.2.2.2.1, ())))))) b2 b3 b4).bind fun t0 => bif (decide (n ≥ t0.1)) then (K ((⟨(List.toArray [])⟩ : ByteArray), (false, (((), (t0.2.1.2.1, (t0.2.1.2.2.1, ((), ((), (t0.2.1.2.2.2.2.2.1, (t0.2.1.2.2.2.2.2.2.1, ()))))))), (((), ((), ((), (t0.2.2.1.2.2.2.1, ((), (t0.2.2.1.2.2.2.2.2.1, ())))))), (t0.2.2.2.1, (t0.2.2.2.2.1, (t0.2.2.2.2.2.1, ())))))))) else (none))
def Q0c (k : Nat) (n : Int) (b0 : Qf0) (b1 : Qf4) (b2 : Qf8) (b3 : Qf8) (b4 : (List Int)) : Option Q0c.τ := Q0c.c k n b0 b1 b2 b3 b4 some
def Q0c.T : Q15 := ⟨[.ptr 0 [], .dat (.int .i64)], [.pair (.ptr 1 []) (.pair (.dat .str) (.pair (.dat (.int .u64)) (.pair (.nils) (.pair (.vsl 4) (.dat Qf6))))), .pair (.mp 2) (.pair (.mp 3) (.pair (.nils) (.pair (.dat (.int .i64)) (.pair (.nils) (.dat Qf9))))), .mpd .str .str, .mpd .str .str, .vec (.int .i64)], 4⟩
def Q0c.os : List Out := [⟨.ret, [.freeze (.slot 0), .freeze (.slot 1), .auto 4], ⟨[.dat .str, .dat .bool], [.pair (.ptr 1 []) (.pair (.dat .str) (.pair (.dat (.int .u64)) (.pair (.nils) (.pair (.vsl 4) (.dat Qf6))))), .pair (.mp 2) (.pair (.mp 3) (.pair (.nils) (.pair (.dat (.int .i64)) (.pair (.nils) (.dat Qf9))))), .mpd .str .str, .mpd .str .str, .vec (.int .i64)]⟩⟩]
def Q0c.sem (k : Nat) : QS := Q17 Q0c.T Q0c.os fun x => Q0c k x.1 x.2.1 x.2.2.1 x.2.2.2.1 x.2.2.2.2.1 x.2.2.2.2.2.1
noncomputable def Q0c.ctx (k : Nat) : Ctx := ⟨Try.prog, gam [(25, (QX.sem k))]⟩
theorem Q0c.gok (k : Nat) : ∀ f, Qu Try.prog f ((Q0c.ctx k).Γ f) := (Qf (QX.sem_ok k) Q0e)
def Q0c.ann (k : Nat) : Ann := .nil
theorem Q0c.body (k : Nat) : Q18 (Q0c.ctx k) Try.f22 (Func.code Try.f22) (Q0c.ann k) Q0c.T Q0c.os (fun x K => Q0c.c k x.1 x.2.1 x.2.2.1 x.2.2.2.1 x.2.2.2.2.1 x.2.2.2.2.2.1 K) := by
 intro ρ x K; kernel_rfl
theorem Q0c.sem_ok (k : Nat) : Qu Try.prog 22 (Q0c.sem k) :=
 Q0u (C := Q0c.ctx k) (Q0c.gok k) Try.mix (c := Func.code Try.f22) (ann := Q0c.ann k) (T := Q0c.T) (os := Q0c.os) (fun x K => Q0c.c k x.1 x.2.1 x.2.2.1 x.2.2.2.1 x.2.2.2.2.1 x.2.2.2.2.2.1 K) Try.func22 (by kernel_rfl) (by kernel_rfl) Q2.nil (Q0c.body k) (by kernel_rfl) (by kernel_rfl) (by kernel_rfl)
abbrev QV.τ : Type := QeN 
def QV.c (k : Nat) {ρ : Type} (b0 : Qf0) (b1 : Qf4) (b2 : Qf8) (b3 : Qf8) (b4 : (List Int)) (K : QV.τ → Option ρ) : Option ρ :=
 (Q01 k ((), (b0.2.1, (b0.2.2.1, ((), ((), (b0.2.2.2.2.2.1, (b0.2.2.2.2.2.2.1, ()))))))) ((), ((), ((), (b1.2.2.2.1, ((), (b1.2.2.2.2.2.1, ())))))) b2 b3 b4).bind fun t0 => bif (t0.1 != (0 : Int)) then (K (t0.1, (((), (t0.2.1.2.1, (t0.2.1.2.2.1, ((), ((), (t0.2.1.2.2.2.2.2.1, (t0.2.1.2.2.2.2.2.2.1, ()))))))), (((), ((), ((), (t0.2.2.1.2.2.2.1, ((), (t0.2.2.1.2.2.2.2.2.1, ())))))), (t0.2.2.2.1, (t0.2.2.2.2.1, (t0.2.2.2.2.2.1, ()))))))) else ((Qa k ((), ((), ((), (t0.2.2.1.2.2.2.1, ((), (t0.2.2.1.2.2.2.2.2.1, ())))))) t0.2.2.2.1 t0.2.2.2.2.1).bind fun t1 => (QE k t1.1 ((), (t0.2.1.2.1, (t0.2.1.2.2.1, ((), ((), (t0.2.1.2.2.2.2.2.1, (t0.2.1.2.2.2.2.2.2.1, ()))))))) ((), ((), ((), (t1.2.1.2.2.2.1, ((), (t1.2.1.2.2.2.2.2.1, ())))))) t1.2.2.1 t1.2.2.2.1 t0.2.2.2.2.2.1).bind fun t2 => K (t2.1, (((), (t2.2.1.2.1, (t2.2.1.2.2.1, ((), ((), (t2.2.1.2.2.2.2.2.1, (t2.2.1.2.2.2.2.2.2.1, ()))))))), (((), ((), ((), (t2.2.2.1.2.2.2.1, ((), (t2.2.2.1.2.2.2.2.2.1, ())))))), (t2.2.2.2.1, (t2.2.2.2.2.1, (t2.2.2.2.2.2.1, ())))))))
def QV (k : Nat) (b0 : Qf0) (b1 : Qf4) (b2 : Qf8) (b3 : Qf8) (b4 : (List Int)) : Option QV.τ := QV.c k b0 b1 b2 b3 b4 some
def QV.T : Q15 := ⟨[.ptr 0 []], [.pair (.ptr 1 []) (.pair (.dat .str) (.pair (.dat (.int .u64)) (.pair (.nils) (.pair (.vsl 4) (.dat Qf6))))), .pair (.mp 2) (.pair (.mp 3) (.pair (.nils) (.pair (.dat (.int .i64)) (.pair (.nils) (.dat Qf9))))), .mpd .str .str, .mpd .str .str, .vec (.int .i64)], 4⟩
def QV.os : List Out := [⟨.ret, [.freeze (.slot 0), .auto 4], ⟨[.dat (.int .i64)], [.pair (.ptr 1 []) (.pair (.dat .str) (.pair (.dat (.int .u64)) (.pair (.nils) (.pair (.vsl 4) (.dat Qf6))))), .pair (.mp 2) (.pair (.mp 3) (.pair (.nils) (.pair (.dat (.int .i64)) (.pair (.nils) (.dat Qf9))))), .mpd .str .str, .mpd .str .str, .vec (.int .i64)]⟩⟩]
def QV.sem (k : Nat) : QS := Q17 QV.T QV.os fun x => QV k x.1 x.2.1 x.2.2.1 x.2.2.2.1 x.2.2.2.2.1
noncomputable def QV.ctx (k : Nat) : Ctx := ⟨Try.prog, gam [(58, (Q01.sem k)), (56, (Qa.sem k)), (59, (QE.sem k))]⟩
theorem QV.gok (k : Nat) : ∀ f, Qu Try.prog f ((QV.ctx k).Γ f) := (Qf (Q01.sem_ok k) (Qf (Qa.sem_ok k) (Qf (QE.sem_ok k) Q0e)))
def QV.ann (k : Nat) : Ann := .nil
theorem QV.body (k : Nat) : Q18 (QV.ctx k) Try.f19 (Func.code Try.f19) (QV.ann k) QV.T QV.os (fun x K => QV.c k x.1 x.2.1 x.2.2.1 x.2.2.2.1 x.2.2.2.2.1 K) := by
 intro ρ x K; kernel_rfl
theorem QV.sem_ok (k : Nat) : Qu Try.prog 19 (QV.sem k) :=
 Q0u (C := QV.ctx k) (QV.gok k) Try.mix (c := Func.code Try.f19) (ann := QV.ann k) (T := QV.T) (os := QV.os) (fun x K => QV.c k x.1 x.2.1 x.2.2.1 x.2.2.2.1 x.2.2.2.2.1 K) Try.func19 (by kernel_rfl) (by kernel_rfl) Q2.nil (QV.body k) (by kernel_rfl) (by kernel_rfl) (by kernel_rfl)
abbrev QC.τ : Type := QeM 
def QC.c (k : Nat) {ρ : Type} (b0 : Qf0) (b1 : Qf4) (b2 : Qf8) (b3 : Qf8) (b4 : (List ByteArray)) (b5 : (List Int)) (K : QC.τ → Option ρ) : Option ρ :=
 K ((((List.length b4) : Nat) : Int), (((), (b0.2.1, (b0.2.2.1, ((), ((), (b0.2.2.2.2.2.1, (b0.2.2.2.2.2.2.1, ()))))))), (((), ((), ((), (b1.2.2.2.1, ((), (b1.2.2.2.2.2.1, ())))))), (b2, (b3, (b4, (b5, ())))))))
def QC (k : Nat) (b0 : Qf0) (b1 : Qf4) (b2 : Qf8) (b3 : Qf8) (b4 : (List ByteArray)) (b5 : (List Int)) : Option QC.τ := QC.c k b0 b1 b2 b3 b4 b5 some
def QC.T : Q15 := ⟨[.ptr 0 []], [.pair (.ptr 1 []) (.pair (.dat .str) (.pair (.dat (.int .u64)) (.pair (.vsl 4) (.pair (.vsl 5) (.dat Qf6))))), .pair (.mp 2) (.pair (.mp 3) (.pair (.nils) (.pair (.dat (.int .i64)) (.pair (.nils) (.dat Qf9))))), .mpd .str .str, .mpd .str .str, .vec .str, .vec (.int .i64)], 4⟩
def QC.os : List Out := [⟨.ret, [.freeze (.slot 0), .auto 4], ⟨[.dat (.int .i64)], .pair (.ptr 1 []) (.pair (.dat .str) (.pair (.dat (.int .u64)) (.pair (.vsl 4) (.pair (.vsl 5) (.dat Qf6))))) :: .pair (.mp 2) (.pair (.mp 3) (.pair (.nils) (.pair (.dat (.int .i64)) (.pair (.nils) (.dat Qf9))))) :: .mpd .str .str :: .mpd .str .str :: .vec .str :: .vec (.int .i64) :: []⟩⟩]
def QC.sem (k : Nat) : QS := Q17 QC.T QC.os fun x => QC k x.1 x.2.1 x.2.2.1 x.2.2.2.1 x.2.2.2.2.1 x.2.2.2.2.2.1
noncomputable def QC.ctx (k : Nat) : Ctx := ⟨Try.prog, gam []⟩
theorem QC.gok (k : Nat) : ∀ f, Qu Try.prog f ((QC.ctx k).Γ f) := Q0e
def QC.ann (k : Nat) : Ann := .nil
theorem QC.body (k : Nat) : Q18 (QC.ctx k) Try.f25 (Func.code Try.f25) (QC.ann k) QC.T QC.os (fun x K => QC.c k x.1 x.2.1 x.2.2.1 x.2.2.2.1 x.2.2.2.2.1 x.2.2.2.2.2.1 K) := by
 intro ρ x K; kernel_rfl
theorem QC.sem_ok (k : Nat) : Qu Try.prog 25 (QC.sem k) :=
 Q0u (C := QC.ctx k) (QC.gok k) Try.mix (c := Func.code Try.f25) (ann := QC.ann k) (T := QC.T) (os := QC.os) (fun x K => QC.c k x.1 x.2.1 x.2.2.1 x.2.2.2.1 x.2.2.2.2.1 x.2.2.2.2.2.1 K) Try.func25 (by kernel_rfl) (by kernel_rfl) Q2.nil (QC.body k) (by kernel_rfl) (by kernel_rfl) (by kernel_rfl)
abbrev QO.τ : Type := (ByteArray × Bool × Qf0 × Qf4 × Qf8 × Qf8 × (List ByteArray) × (List Int) × Unit)
def QO.c (k : Nat) {ρ : Type} (n : Int) (b0 : Qf0) (b1 : Qf4) (b2 : Qf8) (b3 : Qf8) (b4 : (List ByteArray)) (b5 : (List Int)) (K : QO.τ → Option ρ) : Option ρ :=
 bif (decide (n < (0 : Int))) then (K ((⟨(List.toArray [])⟩ : ByteArray), (false, (((), (b0.2.1, (b0.2.2.1, ((), ((), (b0.2.2.2.2.2.1, (b0.2.2.2.2.2.2.1, ()))))))), (((), ((), ((), (b1.2.2.2.1, ((), (b1.2.2.2.2.2.1, ())))))), (b2, (b3, (b4, (b5, ()))))))))) else ((QC k ((), (b0.2.1, (b0.2.2.1, ((), ((), (b0.2.2.2.2.2.1, (b0.2.2.2.2.2.2.1, ()))))))) ((), ((), ((), (b1.2.2.2.1, ((), (b1.2.2.2.2.2.1, ())))))) b2 b3 b4 b5).bind fun t0 => bif (decide (n ≥ t0.1)) then (K ((⟨(List.toArray [])⟩ : ByteArray), (false, (((), (t0.2.1.2.1, (t0.2.1.2.2.1, ((), ((), (t0.2.1.2.2.2.2.2.1, (t0.2.1.2.2.2.2.2.2.1, ()))))))), (((), ((), ((), (t0.2.2.1.2.2.2.1, ((), (t0.2.2.1.2.2.2.2.2.1, ())))))), (t0.2.2.2.1, (t0.2.2.2.2.1, (t0.2.2.2.2.2.1, (t0.2.2.2.2.2.2.1, ()))))))))) else (bif (decide (((0 : Int) ≤ n) ∧ (n < (((List.length t0.2.2.2.2.2.1) : Nat) : Int)))) then (let v1 : ByteArray := (List.getD t0.2.2.2.2.2.1 (Int.toNat n) ByteArray.empty)
 K (v1, (true, (((), (t0.2.1.2.1, (t0.2.1.2.2.1, ((), ((), (t0.2.1.2.2.2.2.2.1, (t0.2.1.2.2.2.2.2.2.1, ()))))))), (((), ((), ((), (t0.2.2.1.2.2.2.1, ((), (t0.2.2.1.2.2.2.2.2.1, ())))))), (t0.2.2.2.1, (t0.2.2.2.2.1, (t0.2.2.2.2.2.1, (t0.2.2.2.2.2.2.1, ()))))))))) else (none)))
def QO (k : Nat) (n : Int) (b0 : Qf0) (b1 : Qf4) (b2 : Qf8) (b3 : Qf8) (b4 : (List ByteArray)) (b5 : (List Int)) : Option QO.τ := QO.c k n b0 b1 b2 b3 b4 b5 some
def QO.T : Q15 := ⟨[.ptr 0 [], .dat (.int .i64)], [.pair (.ptr 1 []) (.pair (.dat .str) (.pair (.dat (.int .u64)) (.pair (.vsl 4) (.pair (.vsl 5) (.dat Qf6))))), .pair (.mp 2) (.pair (.mp 3) (.pair (.nils) (.pair (.dat (.int .i64)) (.pair (.nils) (.dat Qf9))))), .mpd .str .str, .mpd .str .str, .vec .str, .vec (.int .i64)], 4⟩
def QO.os : List Out := [⟨.ret, [.freeze (.slot 0), .freeze (.slot 1), .auto 4], ⟨[.dat .str, .dat .bool], .pair (.ptr 1 []) (.pair (.dat .str) (.pair (.dat (.int .u64)) (.pair (.vsl 4) (.pair (.vsl 5) (.dat Qf6))))) :: .pair (.mp 2) (.pair (.mp 3) (.pair (.nils) (.pair (.dat (.int .i64)) (.pair (.nils) (.dat Qf9))))) :: .mpd .str .str :: .mpd .str .str :: .vec .str :: .vec (.int .i64) :: []⟩⟩]
def QO.sem (k : Nat) : QS := Q17 QO.T QO.os fun x => QO k x.1 x.2.1 x.2.2.1 x.2.2.2.1 x.2.2.2.2.1 x.2.2.2.2.2.1 x.2.2.2.2.2.2.1
noncomputable def QO.ctx (k : Nat) : Ctx := ⟨Try.prog, gam [(25, (QC.sem k))]⟩
theorem QO.gok (k : Nat) : ∀ f, Qu Try.prog f ((QO.ctx k).Γ f) := (Qf (QC.sem_ok k) Q0e)
def QO.ann (k : Nat) : Ann := .nil
theorem QO.body (k : Nat) : Q18 (QO.ctx k) Try.f22 (Func.code Try.f22) (QO.ann k) QO.T QO.os (fun x K => QO.c k x.1 x.2.1 x.2.2.1 x.2.2.2.1 x.2.2.2.2.1 x.2.2.2.2.2.1 x.2.2.2.2.2.2.1 K) := by
 intro ρ x K; kernel_rfl
theorem QO.sem_ok (k : Nat) : Qu Try.prog 22 (QO.sem k) :=
 Q0u (C := QO.ctx k) (QO.gok k) Try.mix (c := Func.code Try.f22) (ann := QO.ann k) (T := QO.T) (os := QO.os) (fun x K => QO.c k x.1 x.2.1 x.2.2.1 x.2.2.2.1 x.2.2.2.2.1 x.2.2.2.2.2.1 x.2.2.2.2.2.2.1 K) Try.func22 (by kernel_rfl) (by kernel_rfl) Q2.nil (QO.body k) (by kernel_rfl) (by kernel_rfl) (by kernel_rfl)
abbrev QQ.τ : Type := (Bool × Qf0 × Qf4 × Qf8 × Qf8 × (List ByteArray) × (List Int) × Unit)
def QQ.c (k : Nat) {ρ : Type} (b0 : Qf0) (b1 : Qf4) (b2 : Qf8) (b3 : Qf8) (b4 : (List ByteArray)) (b5 : (List Int)) (K : QQ.τ → Option ρ) : Option ρ :=
 K (b0.2.2.2.2.2.2.1, (((), (b0.2.1, (b0.2.2.1, ((), ((), (b0.2.2.2.2.2.1, (b0.2.2.2.2.2.2.1, ()))))))), (((), ((), ((), (b1.2.2.2.1, ((), (b1.2.2.2.2.2.1, ())))))), (b2, (b3, (b4, (b5, ())))))))
def QQ (k : Nat) (b0 : Qf0) (b1 : Qf4) (b2 : Qf8) (b3 : Qf8) (b4 : (List ByteArray)) (b5 : (List Int)) : Option QQ.τ := QQ.c k b0 b1 b2 b3 b4 b5 some
def QQ.T : Q15 := ⟨[.ptr 0 []], [.pair (.ptr 1 []) (.pair (.dat .str) (.pair (.dat (.int .u64)) (.pair (.vsl 4) (.pair (.vsl 5) (.dat Qf6))))), .pair (.mp 2) (.pair (.mp 3) (.pair (.nils) (.pair (.dat (.int .i64)) (.pair (.nils) (.dat Qf9))))), .mpd .str .str, .mpd .str .str, .vec .str, .vec (.int .i64)], 4⟩
def QQ.os : List Out := [⟨.ret, [.freeze (.slot 0), .auto 4], ⟨[.dat .bool], .pair (.ptr 1 []) (.pair (.dat .str) (.pair (.dat (.int .u64)) (.pair (.vsl 4) (.pair (.vsl 5) (.dat Qf6))))) :: .pair (.mp 2) (.pair (.mp 3) (.pair (.nils) (.pair (.dat (.int .i64)) (.pair (.nils) (.dat Qf9))))) :: .mpd .str .str :: .mpd .str .str :: .vec .str :: .vec (.int .i64) :: []⟩⟩]
def QQ.sem (k : Nat) : QS := Q17 QQ.T QQ.os fun x => QQ k x.1 x.2.1 x.2.2.1 x.2.2.2.1 x.2.2.2.2.1 x.2.2.2.2.2.1
noncomputable def QQ.ctx (k : Nat) : Ctx := ⟨Try.prog, gam []⟩
theorem QQ.gok (k : Nat) : ∀ f, Qu Try.prog f ((QQ.ctx k).Γ f) := Q0e
def QQ.ann (k : Nat) : Ann := .nil
theorem QQ.body (k : Nat) : Q18 (QQ.ctx k) Try.f21 (Func.code Try.f21) (QQ.ann k) QQ.T QQ.os (fun x K => QQ.c k x.1 x.2.1 x.2.2.1 x.2.2.2.1 x.2.2.2.2.1 x.2.2.2.2.2.1 K) := by
 intro ρ x K; kernel_rfl
theorem QQ.sem_ok (k : Nat) : Qu Try.prog 21 (QQ.sem k) :=
 Q0u (C := QQ.ctx k) (QQ.gok k) Try.mix (c := Func.code Try.f21) (ann := QQ.ann k) (T := QQ.T) (os := QQ.os) (fun x K => QQ.c k x.1 x.2.1 x.2.2.1 x.2.2.2.1 x.2.2.2.2.1 x.2.2.2.2.2.1 K) Try.func21 (by kernel_rfl) (by kernel_rfl) Q2.nil (QQ.body k) (by kernel_rfl) (by kernel_rfl) (by kernel_rfl)
abbrev QI.τ : Type := QeM 
def QI.c (k : Nat) {ρ : Type} (b0 : Qf0) (b1 : Qf4) (b2 : Qf8) (b3 : Qf8) (b4 : (List ByteArray)) (b5 : (List Int)) (K : QI.τ → Option ρ) : Option ρ :=
 (QQ k ((), (b0.2.1, (b0.2.2.1, ((), ((), (b0.2.2.2.2.2.1, (b0.2.2.2.2.2.2.1, ()))))))) ((), ((), ((), (b1.2.2.2.1, ((), (b1.2.2.2.2.2.1, ())))))) b2 b3 b4 b5).bind fun t0 => bif t0.1 then (K ((7 : Int), (((), (t0.2.1.2.1, (t0.2.1.2.2.1, ((), ((), (t0.2.1.2.2.2.2.2.1, (t0.2.1.2.2.2.2.2.2.1, ()))))))), (((), ((), ((), (t0.2.2.1.2.2.2.1, ((), (t0.2.2.1.2.2.2.2.2.1, ())))))), (t0.2.2.2.1, (t0.2.2.2.2.1, (t0.2.2.2.2.2.1, (t0.2.2.2.2.2.2.1, ())))))))) else (K ((0 : Int), (((), (t0.2.1.2.1, (t0.2.1.2.2.1, ((), ((), (t0.2.1.2.2.2.2.2.1, (t0.2.1.2.2.2.2.2.2.1, ()))))))), (((), ((), ((), (t0.2.2.1.2.2.2.1, ((), (t0.2.2.1.2.2.2.2.2.1, ())))))), (t0.2.2.2.1, (t0.2.2.2.2.1, (t0.2.2.2.2.2.1, (t0.2.2.2.2.2.2.1, ()))))))))
def QI (k : Nat) (b0 : Qf0) (b1 : Qf4) (b2 : Qf8) (b3 : Qf8) (b4 : (List ByteArray)) (b5 : (List Int)) : Option QI.τ := QI.c k b0 b1 b2 b3 b4 b5 some
def QI.T : Q15 := ⟨[.ptr 0 []], [.pair (.ptr 1 []) (.pair (.dat .str) (.pair (.dat (.int .u64)) (.pair (.vsl 4) (.pair (.vsl 5) (.dat Qf6))))), .pair (.mp 2) (.pair (.mp 3) (.pair (.nils) (.pair (.dat (.int .i64)) (.pair (.nils) (.dat Qf9))))), .mpd .str .str, .mpd .str .str, .vec .str, .vec (.int .i64)], 4⟩
def QI.os : List Out := [⟨.ret, [.freeze (.slot 0), .auto 4], ⟨[.dat (.int .i64)], .pair (.ptr 1 []) (.pair (.dat .str) (.pair (.dat (.int .u64)) (.pair (.vsl 4) (.pair (.vsl 5) (.dat Qf6))))) :: .pair (.mp 2) (.pair (.mp 3) (.pair (.nils) (.pair (.dat (.int .i64)) (.pair (.nils) (.dat Qf9))))) :: .mpd .str .str :: .mpd .str .str :: .vec .str :: .vec (.int .i64) :: []⟩⟩]
def QI.sem (k : Nat) : QS := Q17 QI.T QI.os fun x => QI k x.1 x.2.1 x.2.2.1 x.2.2.2.1 x.2.2.2.2.1 x.2.2.2.2.2.1
noncomputable def QI.ctx (k : Nat) : Ctx := ⟨Try.prog, gam [(21, (QQ.sem k))]⟩
theorem QI.gok (k : Nat) : ∀ f, Qu Try.prog f ((QI.ctx k).Γ f) := (Qf (QQ.sem_ok k) Q0e)
def QI.ann (k : Nat) : Ann := .nil
theorem QI.body (k : Nat) : Q18 (QI.ctx k) Try.f58 (Func.code Try.f58) (QI.ann k) QI.T QI.os (fun x K => QI.c k x.1 x.2.1 x.2.2.1 x.2.2.2.1 x.2.2.2.2.1 x.2.2.2.2.2.1 K) := by
 intro ρ x K; kernel_rfl
theorem QI.sem_ok (k : Nat) : Qu Try.prog 58 (QI.sem k) :=
 Q0u (C := QI.ctx k) (QI.gok k) Try.mix (c := Func.code Try.f58) (ann := QI.ann k) (T := QI.T) (os := QI.os) (fun x K => QI.c k x.1 x.2.1 x.2.2.1 x.2.2.2.1 x.2.2.2.2.1 x.2.2.2.2.2.1 K) Try.func58 (by kernel_rfl) (by kernel_rfl) Q2.nil (QI.body k) (by kernel_rfl) (by kernel_rfl) (by kernel_rfl)
abbrev Qs.τ : Type := QeM 
def Qs.c (k : Nat) {ρ : Type} (e : Int) (b0 : Qf0) (b1 : Qf4) (b2 : Qf8) (b3 : Qf8) (b4 : (List ByteArray)) (b5 : (List Int)) (K : Qs.τ → Option ρ) : Option ρ :=
 bif (e == (7 : Int)) then (K (e, (((), (b0.2.1, (b0.2.2.1, ((), ((), (b0.2.2.2.2.2.1, (true, ()))))))), (((), ((), ((), (b1.2.2.2.1, ((), (b1.2.2.2.2.2.1, ())))))), (b2, (b3, (b4, (b5, ())))))))) else (K (e, (((), (b0.2.1, (b0.2.2.1, ((), ((), (b0.2.2.2.2.2.1, (b0.2.2.2.2.2.2.1, ()))))))), (((), ((), ((), (b1.2.2.2.1, ((), (b1.2.2.2.2.2.1, ())))))), (b2, (b3, (b4, (b5, ()))))))))
def Qs (k : Nat) (e : Int) (b0 : Qf0) (b1 : Qf4) (b2 : Qf8) (b3 : Qf8) (b4 : (List ByteArray)) (b5 : (List Int)) : Option Qs.τ := Qs.c k e b0 b1 b2 b3 b4 b5 some
def Qs.T : Q15 := ⟨[.ptr 0 [], .dat (.int .i64)], [.pair (.ptr 1 []) (.pair (.dat .str) (.pair (.dat (.int .u64)) (.pair (.vsl 4) (.pair (.vsl 5) (.dat Qf6))))), .pair (.mp 2) (.pair (.mp 3) (.pair (.nils) (.pair (.dat (.int .i64)) (.pair (.nils) (.dat Qf9))))), .mpd .str .str, .mpd .str .str, .vec .str, .vec (.int .i64)], 4⟩
def Qs.os : List Out := [⟨.ret, [.freeze (.slot 0), .auto 4], ⟨[.dat (.int .i64)], .pair (.ptr 1 []) (.pair (.dat .str) (.pair (.dat (.int .u64)) (.pair (.vsl 4) (.pair (.vsl 5) (.dat Qf6))))) :: .pair (.mp 2) (.pair (.mp 3) (.pair (.nils) (.pair (.dat (.int .i64)) (.pair (.nils) (.dat Qf9))))) :: .mpd .str .str :: .mpd .str .str :: .vec .str :: .vec (.int .i64) :: []⟩⟩]
def Qs.sem (k : Nat) : QS := Q17 Qs.T Qs.os fun x => Qs k x.1 x.2.1 x.2.2.1 x.2.2.2.1 x.2.2.2.2.1 x.2.2.2.2.2.1 x.2.2.2.2.2.2.1
noncomputable def Qs.ctx (k : Nat) : Ctx := ⟨Try.prog, gam []⟩
theorem Qs.gok (k : Nat) : ∀ f, Qu Try.prog f ((Qs.ctx k).Γ f) := Q0e
def Qs.ann (k : Nat) : Ann := .nil
theorem Qs.body (k : Nat) : Q18 (Qs.ctx k) Try.f59 (Func.code Try.f59) (Qs.ann k) Qs.T Qs.os (fun x K => Qs.c k x.1 x.2.1 x.2.2.1 x.2.2.2.1 x.2.2.2.2.1 x.2.2.2.2.2.1 x.2.2.2.2.2.2.1 K) := by
 intro ρ x K; kernel_rfl
theorem Qs.sem_ok (k : Nat) : Qu Try.prog 59 (Qs.sem k) :=
 Q0u (C := Qs.ctx k) (Qs.gok k) Try.mix (c := Func.code Try.f59) (ann := Qs.ann k) (T := Qs.T) (os := Qs.os) (fun x K => Qs.c k x.1 x.2.1 x.2.2.1 x.2.2.2.1 x.2.2.2.2.1 x.2.2.2.2.2.1 x.2.2.2.2.2.2.1 K) Try.func59 (by kernel_rfl) (by kernel_rfl) Q2.nil (Qs.body k) (by kernel_rfl) (by kernel_rfl) (by kernel_rfl)
abbrev QB.τ : Type := QeM 
def QB.c (k : Nat) {ρ : Type} (b0 : Qf0) (b1 : Qf4) (b2 : Qf8) (b3 : Qf8) (b4 : (List ByteArray)) (b5 : (List Int)) (K : QB.τ → Option ρ) : Option ρ :=
 (QI k ((), (b0.2.1, (b0.2.2.1, ((), ((), (b0.2.2.2.2.2.1, (b0.2.2.2.2.2.2.1, ()))))))) ((), ((), ((), (b1.2.2.2.1, ((), (b1.2.2.2.2.2.1, ())))))) b2 b3 b4 b5).bind fun t0 => bif (t0.1 != (0 : Int)) then (K (t0.1, (((), (t0.2.1.2.1, (t0.2.1.2.2.1, ((), ((), (t0.2.1.2.2.2.2.2.1, (t0.2.1.2.2.2.2.2.2.1, ()))))))), (((), ((), ((), (t0.2.2.1.2.2.2.1, ((), (t0.2.2.1.2.2.2.2.2.1, ())))))), (t0.2.2.2.1, (t0.2.2.2.2.1, (t0.2.2.2.2.2.1, (t0.2.2.2.2.2.2.1, ())))))))) else ((Qa k ((), ((), ((), (t0.2.2.1.2.2.2.1, ((), (t0.2.2.1.2.2.2.2.2.1, ())))))) t0.2.2.2.1 t0.2.2.2.2.1).bind fun t1 => (Qs k t1.1 ((), (t0.2.1.2.1, (t0.2.1.2.2.1, ((), ((), (t0.2.1.2.2.2.2.2.1, (t0.2.1.2.2.2.2.2.2.1, ()))))))) ((), ((), ((), (t1.2.1.2.2.2.1, ((), (t1.2.1.2.2.2.2.2.1, ())))))) t1.2.2.1 t1.2.2.2.1 t0.2.2.2.2.2.1 t0.2.2.2.2.2.2.1).bind fun t2 => K (t2.1, (((), (t2.2.1.2.1, (t2.2.1.2.2.1, ((), ((), (t2.2.1.2.2.2.2.2.1, (t2.2.1.2.2.2.2.2.2.1, ()))))))), (((), ((), ((), (t2.2.2.1.2.2.2.1, ((), (t2.2.2.1.2.2.2.2.2.1, ())))))), (t2.2.2.2.1, (t2.2.2.2.2.1, (t2.2.2.2.2.2.1, (t2.2.2.2.2.2.2.1, ()))))))))
def QB (k : Nat) (b0 : Qf0) (b1 : Qf4) (b2 : Qf8) (b3 : Qf8) (b4 : (List ByteArray)) (b5 : (List Int)) : Option QB.τ := QB.c k b0 b1 b2 b3 b4 b5 some
def QB.T : Q15 := ⟨[.ptr 0 []], [.pair (.ptr 1 []) (.pair (.dat .str) (.pair (.dat (.int .u64)) (.pair (.vsl 4) (.pair (.vsl 5) (.dat Qf6))))), .pair (.mp 2) (.pair (.mp 3) (.pair (.nils) (.pair (.dat (.int .i64)) (.pair (.nils) (.dat Qf9))))), .mpd .str .str, .mpd .str .str, .vec .str, .vec (.int .i64)], 4⟩
def QB.os : List Out := [⟨.ret, [.freeze (.slot 0), .auto 4], ⟨[.dat (.int .i64)], .pair (.ptr 1 []) (.pair (.dat .str) (.pair (.dat (.int .u64)) (.pair (.vsl 4) (.pair (.vsl 5) (.dat Qf6))))) :: .pair (.mp 2) (.pair (.mp 3) (.pair (.nils) (.pair (.dat (.int .i64)) (.pair (.nils) (.dat Qf9))))) :: .mpd .str .str :: .mpd .str .str :: .vec .str :: .vec (.int .i64) :: []⟩⟩]
def QB.sem (k : Nat) : QS := Q17 QB.T QB.os fun x => QB k x.1 x.2.1 x.2.2.1 x.2.2.2.1 x.2.2.2.2.1 x.2.2.2.2.2.1
noncomputable def QB.ctx (k : Nat) : Ctx := ⟨Try.prog, gam [(58, (QI.sem k)), (56, (Qa.sem k)), (59, (Qs.sem k))]⟩
theorem QB.gok (k : Nat) : ∀ f, Qu Try.prog f ((QB.ctx k).Γ f) := (Qf (QI.sem_ok k) (Qf (Qa.sem_ok k) (Qf (Qs.sem_ok k) Q0e)))
def QB.ann (k : Nat) : Ann := .nil
theorem QB.body (k : Nat) : Q18 (QB.ctx k) Try.f19 (Func.code Try.f19) (QB.ann k) QB.T QB.os (fun x K => QB.c k x.1 x.2.1 x.2.2.1 x.2.2.2.1 x.2.2.2.2.1 x.2.2.2.2.2.1 K) := by
 intro ρ x K; kernel_rfl
theorem QB.sem_ok (k : Nat) : Qu Try.prog 19 (QB.sem k) :=
 Q0u (C := QB.ctx k) (QB.gok k) Try.mix (c := Func.code Try.f19) (ann := QB.ann k) (T := QB.T) (os := QB.os) (fun x K => QB.c k x.1 x.2.1 x.2.2.1 x.2.2.2.1 x.2.2.2.2.1 x.2.2.2.2.2.1 K) Try.func19 (by kernel_rfl) (by kernel_rfl) Q2.nil (QB.body k) (by kernel_rfl) (by kernel_rfl) (by kernel_rfl)
abbrev QD.τ : Type := QeL 
def QD.c (k : Nat) {ρ : Type} (b0 : Qf0) (b1 : Qf4) (b2 : Qf8) (b3 : Qf8) (b4 : Qf1) (b5 : (List Int)) (K : QD.τ → Option ρ) : Option ρ :=
 K ((0 : Int), (((), (b0.2.1, (b0.2.2.1, ((), ((), (b0.2.2.2.2.2.1, (b0.2.2.2.2.2.2.1, ()))))))), (((), ((), ((), (b1.2.2.2.1, ((), (b1.2.2.2.2.2.1, ())))))), (b2, (b3, (b5, (b4, ())))))))
def QD (k : Nat) (b0 : Qf0) (b1 : Qf4) (b2 : Qf8) (b3 : Qf8) (b4 : Qf1) (b5 : (List Int)) : Option QD.τ := QD.c k b0 b1 b2 b3 b4 b5 some
def QD.T : Q15 := ⟨[.ptr 0 []], [.pair (.ptr 1 []) (.pair (.dat .str) (.pair (.dat (.int .u64)) (.pair (.nils) (.pair (.vsl 5) (.dat Qf6))))), .pair (.mp 2) (.pair (.mp 3) (.pair (.vsl 4) (.pair (.dat (.int .i64)) (.pair (.nils) (.dat Qf9))))), .mpd .str .str, .mpd .str .str, .vec QeZ, .vec (.int .i64)], 4⟩
def QD.os : List Out := [⟨.ret, [.freeze (.slot 0), .auto 4], ⟨[.dat (.int .i64)], .pair (.ptr 1 []) (.pair (.dat .str) (.pair (.dat (.int .u64)) (.pair (.nils) (.pair (.vsl 4) (.dat Qf6))))) :: .pair (.mp 2) (.pair (.mp 3) (.pair (.vsl 5) (.pair (.dat (.int .i64)) (.pair (.nils) (.dat Qf9))))) :: .mpd .str .str :: .mpd .str .str :: .vec (.int .i64) :: .vec QeZ :: []⟩⟩]
def QD.sem (k : Nat) : QS := Q17 QD.T QD.os fun x => QD k x.1 x.2.1 x.2.2.1 x.2.2.2.1 x.2.2.2.2.1 x.2.2.2.2.2.1
noncomputable def QD.ctx (k : Nat) : Ctx := ⟨Try.prog, gam []⟩
theorem QD.gok (k : Nat) : ∀ f, Qu Try.prog f ((QD.ctx k).Γ f) := Q0e
def QD.ann (k : Nat) : Ann := .nil
theorem QD.body (k : Nat) : Q18 (QD.ctx k) Try.f25 (Func.code Try.f25) (QD.ann k) QD.T QD.os (fun x K => QD.c k x.1 x.2.1 x.2.2.1 x.2.2.2.1 x.2.2.2.2.1 x.2.2.2.2.2.1 K) := by
 intro ρ x K; kernel_rfl
theorem QD.sem_ok (k : Nat) : Qu Try.prog 25 (QD.sem k) :=
 Q0u (C := QD.ctx k) (QD.gok k) Try.mix (c := Func.code Try.f25) (ann := QD.ann k) (T := QD.T) (os := QD.os) (fun x K => QD.c k x.1 x.2.1 x.2.2.1 x.2.2.2.1 x.2.2.2.2.1 x.2.2.2.2.2.1 K) Try.func25 (by kernel_rfl) (by kernel_rfl) Q2.nil (QD.body k) (by kernel_rfl) (by kernel_rfl) (by kernel_rfl)
abbrev QN.τ : Type := (ByteArray × Bool × Qf0 × Qf4 × Qf8 × Qf8 × (List Int) × Qf1 × Unit)
def QN.c (k : Nat) {ρ : Type} (n : Int) (b0 : Qf0) (b1 : Qf4) (b2 : Qf8) (b3 : Qf8) (b4 : Qf1) (b5 : (List Int)) (K : QN.τ → Option ρ) : Option ρ :=
 bif (decide (n < (0 : Int))) then (K ((⟨(List.toArray [])⟩ : ByteArray), (false, (((), (b0.2.1, (b0.2.2.1, ((), ((), (b0.2.2.2.2.2.1, (b0.2.2.2.2.2.2.1, ()))))))), (((), ((), ((), (b1.2.2.2.1, ((), (b1.2.2.2.2.2.1, ())))))), (b2, (b3, (b5, (b4, ()))))))))) else ((QD k ((), (b0.2.1, (b0.2.2.1, ((), ((), (b0.2.2.2.2.2.1, (b0.2.2.2.2.2.2.1, ()))))))) ((), ((), ((), (b1.2.2.2.1, ((), (b1.2.2.2.2.2.1, ())))))) b2 b3 b4 b5).bind fun t0 => bif (decide (n ≥ t0.1)) then (K ((⟨(List.toArray [])⟩ : ByteArray), (false, (((), (t0.2.1.2.1, (t0.2.1.2.2.1, ((), ((), (t0.2.1.2.2.2.2.2.1, (t0.2.1.2.2.2.2.2.2.1, ()))))))), (((), ((), ((), (t0.2.2.1.2.2.2.1, ((), (t0.2.2.1.2.2.2.2.2.1, ())))))), (t0.2.2.2.1, (t0.2.2.2.2.1, (t0.2.2.2.2.2.1, (t0.2.2.2.2.2.2.1, ()))))))))) else (none))
def QN (k : Nat) (n : Int) (b0 : Qf0) (b1 : Qf4) (b2 : Qf8) (b3 : Qf8) (b4 : Qf1) (b5 : (List Int)) : Option QN.τ := QN.c k n b0 b1 b2 b3 b4 b5 some
def QN.T : Q15 := ⟨[.ptr 0 [], .dat (.int .i64)], [.pair (.ptr 1 []) (.pair (.dat .str) (.pair (.dat (.int .u64)) (.pair (.nils) (.pair (.vsl 5) (.dat Qf6))))), .pair (.mp 2) (.pair (.mp 3) (.pair (.vsl 4) (.pair (.dat (.int .i64)) (.pair (.nils) (.dat Qf9))))), .mpd .str .str, .mpd .str .str, .vec QeZ, .vec (.int .i64)], 4⟩
def QN.os : List Out := [⟨.ret, [.freeze (.slot 0), .freeze (.slot 1), .auto 4], ⟨[.dat .str, .dat .bool], .pair (.ptr 1 []) (.pair (.dat .str) (.pair (.dat (.int .u64)) (.pair (.nils) (.pair (.vsl 4) (.dat Qf6))))) :: .pair (.mp 2) (.pair (.mp 3) (.pair (.vsl 5) (.pair (.dat (.int .i64)) (.pair (.nils) (.dat Qf9))))) :: .mpd .str .str :: .mpd .str .str :: .vec (.int .i64) :: .vec QeZ :: []⟩⟩]
def QN.sem (k : Nat) : QS := Q17 QN.T QN.os fun x => QN k x.1 x.2.1 x.2.2.1 x.2.2.2.1 x.2.2.2.2.1 x.2.2.2.2.2.1 x.2.2.2.2.2.2.1
noncomputable def QN.ctx (k : Nat) : Ctx := ⟨Try.prog, gam [(25, (QD.sem k))]⟩
theorem QN.gok (k : Nat) : ∀ f, Qu Try.prog f ((QN.ctx k).Γ f) := (Qf (QD.sem_ok k) Q0e)
def QN.ann (k : Nat) : Ann := .nil
theorem QN.body (k : Nat) : Q18 (QN.ctx k) Try.f22 (Func.code Try.f22) (QN.ann k) QN.T QN.os (fun x K => QN.c k x.1 x.2.1 x.2.2.1 x.2.2.2.1 x.2.2.2.2.1 x.2.2.2.2.2.1 x.2.2.2.2.2.2.1 K) := by
 intro ρ x K; kernel_rfl
theorem QN.sem_ok (k : Nat) : Qu Try.prog 22 (QN.sem k) :=
 Q0u (C := QN.ctx k) (QN.gok k) Try.mix (c := Func.code Try.f22) (ann := QN.ann k) (T := QN.T) (os := QN.os) (fun x K => QN.c k x.1 x.2.1 x.2.2.1 x.2.2.2.1 x.2.2.2.2.1 x.2.2.2.2.2.1 x.2.2.2.2.2.2.1 K) Try.func22 (by kernel_rfl) (by kernel_rfl) Q2.nil (QN.body k) (by kernel_rfl) (by kernel_rfl) (by kernel_rfl)
abbrev QP.τ : Type := (Bool × Qf0 × Qf4 × Qf8 × Qf8 × (List Int) × Qf1 × Unit)
def QP.c (k : Nat) {ρ : Type} (b0 : Qf0) (b1 : Qf4) (b2 : Qf8) (b3 : Qf8) (b4 : Qf1) (b5 : (List Int)) (K : QP.τ → Option ρ) : Option ρ :=
 K (b0.2.2.2.2.2.2.1, (((), (b0.2.1, (b0.2.2.1, ((), ((), (b0.2.2.2.2.2.1, (b0.2.2.2.2.2.2.1, ()))))))), (((), ((), ((), (b1.2.2.2.1, ((), (b1.2.2.2.2.2.1, ())))))), (b2, (b3, (b5, (b4, ())))))))
def QP (k : Nat) (b0 : Qf0) (b1 : Qf4) (b2 : Qf8) (b3 : Qf8) (b4 : Qf1) (b5 : (List Int)) : Option QP.τ := QP.c k b0 b1 b2 b3 b4 b5 some
def QP.T : Q15 := ⟨[.ptr 0 []], [.pair (.ptr 1 []) (.pair (.dat .str) (.pair (.dat (.int .u64)) (.pair (.nils) (.pair (.vsl 5) (.dat Qf6))))), .pair (.mp 2) (.pair (.mp 3) (.pair (.vsl 4) (.pair (.dat (.int .i64)) (.pair (.nils) (.dat Qf9))))), .mpd .str .str, .mpd .str .str, .vec QeZ, .vec (.int .i64)], 4⟩
def QP.os : List Out := [⟨.ret, [.freeze (.slot 0), .auto 4], ⟨[.dat .bool], .pair (.ptr 1 []) (.pair (.dat .str) (.pair (.dat (.int .u64)) (.pair (.nils) (.pair (.vsl 4) (.dat Qf6))))) :: .pair (.mp 2) (.pair (.mp 3) (.pair (.vsl 5) (.pair (.dat (.int .i64)) (.pair (.nils) (.dat Qf9))))) :: .mpd .str .str :: .mpd .str .str :: .vec (.int .i64) :: .vec QeZ :: []⟩⟩]
def QP.sem (k : Nat) : QS := Q17 QP.T QP.os fun x => QP k x.1 x.2.1 x.2.2.1 x.2.2.2.1 x.2.2.2.2.1 x.2.2.2.2.2.1
noncomputable def QP.ctx (k : Nat) : Ctx := ⟨Try.prog, gam []⟩
theorem QP.gok (k : Nat) : ∀ f, Qu Try.prog f ((QP.ctx k).Γ f) := Q0e
def QP.ann (k : Nat) : Ann := .nil
theorem QP.body (k : Nat) : Q18 (QP.ctx k) Try.f21 (Func.code Try.f21) (QP.ann k) QP.T QP.os (fun x K => QP.c k x.1 x.2.1 x.2.2.1 x.2.2.2.1 x.2.2.2.2.1 x.2.2.2.2.2.1 K) := by
 intro ρ x K; kernel_rfl
theorem QP.sem_ok (k : Nat) : Qu Try.prog 21 (QP.sem k) :=
 Q0u (C := QP.ctx k) (QP.gok k) Try.mix (c := Func.code Try.f21) (ann := QP.ann k) (T := QP.T) (os := QP.os) (fun x K => QP.c k x.1 x.2.1 x.2.2.1 x.2.2.2.1 x.2.2.2.2.1 x.2.2.2.2.2.1 K) Try.func21 (by kernel_rfl) (by kernel_rfl) Q2.nil (QP.body k) (by kernel_rfl) (by kernel_rfl) (by kernel_rfl)
abbrev QH.τ : Type := QeL 
def QH.c (k : Nat) {ρ : Type} (b0 : Qf0) (b1 : Qf4) (b2 : Qf8) (b3 : Qf8) (b4 : Qf1) (b5 : (List Int)) (K : QH.τ → Option ρ) : Option ρ :=
 (QP k ((), (b0.2.1, (b0.2.2.1, ((), ((), (b0.2.2.2.2.2.1, (b0.2.2.2.2.2.2.1, ()))))))) ((), ((), ((), (b1.2.2.2.1, ((), (b1.2.2.2.2.2.1, ())))))) b2 b3 b4 b5).bind fun t0 => bif t0.1 then (K ((7 : Int), (((), (t0.2.1.2.1, (t0.2.1.2.2.1, ((), ((), (t0.2.1.2.2.2.2.2.1, (t0.2.1.2.2.2.2.2.2.1, ()))))))), (((), ((), ((), (t0.2.2.1.2.2.2.1, ((), (t0.2.2.1.2.2.2.2.2.1, ())))))), (t0.2.2.2.1, (t0.2.2.2.2.1, (t0.2.2.2.2.2.1, (t0.2.2.2.2.2.2.1, ())))))))) else (K ((0 : Int), (((), (t0.2.1.2.1, (t0.2.1.2.2.1, ((), ((), (t0.2.1.2.2.2.2.2.1, (t0.2.1.2.2.2.2.2.2.1, ()))))))), (((), ((), ((), (t0.2.2.1.2.2.2.1, ((), (t0.2.2.1.2.2.2.2.2.1, ())))))), (t0.2.2.2.1, (t0.2.2.2.2.1, (t0.2.2.2.2.2.1, (t0.2.2.2.2.2.2.1, ()))))))))
def QH (k : Nat) (b0 : Qf0) (b1 : Qf4) (b2 : Qf8) (b3 : Qf8) (b4 : Qf1) (b5 : (List Int)) : Option QH.τ := QH.c k b0 b1 b2 b3 b4 b5 some
def QH.T : Q15 := ⟨[.ptr 0 []], [.pair (.ptr 1 []) (.pair (.dat .str) (.pair (.dat (.int .u64)) (.pair (.nils) (.pair (.vsl 5) (.dat Qf6))))), .pair (.mp 2) (.pair (.mp 3) (.pair (.vsl 4) (.pair (.dat (.int .i64)) (.pair (.nils) (.dat Qf9))))), .mpd .str .str, .mpd .str .str, .vec QeZ, .vec (.int .i64)], 4⟩
def QH.os : List Out := [⟨.ret, [.freeze (.slot 0), .auto 4], ⟨[.dat (.int .i64)], .pair (.ptr 1 []) (.pair (.dat .str) (.pair (.dat (.int .u64)) (.pair (.nils) (.pair (.vsl 4) (.dat Qf6))))) :: .pair (.mp 2) (.pair (.mp 3) (.pair (.vsl 5) (.pair (.dat (.int .i64)) (.pair (.nils) (.dat Qf9))))) :: .mpd .str .str :: .mpd .str .str :: .vec (.int .i64) :: .vec QeZ :: []⟩⟩]
def QH.sem (k : Nat) : QS := Q17 QH.T QH.os fun x => QH k x.1 x.2.1 x.2.2.1 x.2.2.2.1 x.2.2.2.2.1 x.2.2.2.2.2.1
noncomputable def QH.ctx (k : Nat) : Ctx := ⟨Try.prog, gam [(21, (QP.sem k))]⟩
theorem QH.gok (k : Nat) : ∀ f, Qu Try.prog f ((QH.ctx k).Γ f) := (Qf (QP.sem_ok k) Q0e)
def QH.ann (k : Nat) : Ann := .nil
theorem QH.body (k : Nat) : Q18 (QH.ctx k) Try.f58 (Func.code Try.f58) (QH.ann k) QH.T QH.os (fun x K => QH.c k x.1 x.2.1 x.2.2.1 x.2.2.2.1 x.2.2.2.2.1 x.2.2.2.2.2.1 K) := by
 intro ρ x K; kernel_rfl
theorem QH.sem_ok (k : Nat) : Qu Try.prog 58 (QH.sem k) :=
 Q0u (C := QH.ctx k) (QH.gok k) Try.mix (c := Func.code Try.f58) (ann := QH.ann k) (T := QH.T) (os := QH.os) (fun x K => QH.c k x.1 x.2.1 x.2.2.1 x.2.2.2.1 x.2.2.2.2.1 x.2.2.2.2.2.1 K) Try.func58 (by kernel_rfl) (by kernel_rfl) Q2.nil (QH.body k) (by kernel_rfl) (by kernel_rfl) (by kernel_rfl)
abbrev QA.τ : Type := QeL ⊕ QeN 
def QA.c (k : Nat) {ρ : Type} (b0 : Qf0) (b1 : Qf4) (b2 : Qf8) (b3 : Qf8) (b4 : Qf1) (b5 : (List Int)) (K : QA.τ → Option ρ) : Option ρ :=
  (QH k ((), (b0.2.1, (b0.2.2.1, ((), ((), (b0.2.2.2.2.2.1, (b0.2.2.2.2.2.2.1, ()))))))) ((), ((), ((), (b1.2.2.2.1, ((), (b1.2.2.2.2.2.1, ())))))) b2 b3 b4 b5).bind fun t0 => bif (t0.1 != (0 : Int)) then (K (.inl (t0.1, (((), (t0.2.1.2.1, (t0.2.1.2.2.1, ((), ((), (t0.2.1.2.2.2.2.2.1, (t0.2.1.2.2.2.2.2.2.1, ()))))))), (((), ((), ((), (t0.2.2.1.2.2.2.1, ((), (t0.2.2.1.2.2.2.2.2.1, ())))))), (t0.2.2.2.1, (t0.2.2.2.2.1, (t0.2.2.2.2.2.1, (t0.2.2.2.2.2.2.1, ()))))))))) else ((Q4 k ((), ((), ((), (t0.2.2.1.2.2.2.1, ((), (t0.2.2.1.2.2.2.2.2.1, ())))))) t0.2.2.2.1 t0.2.2.2.2.1 t0.2.2.2.2.2.2.1).bind fun t1 => (match t1 with
 | .inl t2 => ((Qr k t2.1 ((), (t0.2.1.2.1, (t0.2.1.2.2.1, ((), ((), (t0.2.1.2.2.2.2.2.1, (t0.2.1.2.2.2.2.2.2.1, ()))))))) ((), ((), ((), (t2.2.1.2.2.2.1, ((), (t2.2.1.2.2.2.2.2.1, ())))))) t2.2.2.1 t2.2.2.2.1 t2.2.2.2.2.1 t0.2.2.2.2.2.1).bind fun t3 => K (.inl (t3.1, (((), (t3.2.1.2.1, (t3.2.1.2.2.1, ((), ((), (t3.2.1.2.2.2.2.2.1, (t3.2.1.2.2.2.2.2.2.1, ()))))))), (((), ((), ((), (t3.2.2.1.2.2.2.1, ((), (t3.2.2.1.2.2.2.2.2.1, ())))))), (t3.2.2.2.1, (t3.2.2.2.2.1, (t3.2.2.2.2.2.1, (t3.2.2.2.2.2.2.1, ())))))))))
 | .inr (t4) => ((QE k t4.1 ((), (t0.2.1.2.1, (t0.2.1.2.2.1, ((), ((), (t0.2.1.2.2.2.2.2.1, (t0.2.1.2.2.2.2.2.2.1, ()))))))) ((), ((), ((), (t4.2.1.2.2.2.1, ((), (t4.2.1.2.2.2.2.2.1, ())))))) t4.2.2.1 t4.2.2.2.1 t0.2.2.2.2.2.1).bind fun t5 => K (.inr (t5.1, (((), (t5.2.1.2.1, (t5.2.1.2.2.1, ((), ((), (t5.2.1.2.2.2.2.2.1, (t5.2.1.2.2.2.2.2.2.1, ()))))))), (((), ((), ((), (t5.2.2.1.2.2.2.1, ((), (t5.2.2.1.2.2.2.2.2.1, ())))))), (t5.2.2.2.1, (t5.2.2.2.2.1, (t5.2.2.2.2.2.1, ()))))))))))
def QA (k : Nat) (b0 : Qf0) (b1 : Qf4) (b2 : Qf8) (b3 : Qf8) (b4 : Qf1) (b5 : (List Int)) : Option QA.τ := QA.c k b0 b1 b2 b3 b4 b5 some
def QA.T : Q15 := ⟨[.ptr 0 []], [.pair (.ptr 1 []) (.pair (.dat .str) (.pair (.dat (.int .u64)) (.pair (.nils) (.pair (.vsl 5) (.dat Qf6))))), .pair (.mp 2) (.pair (.mp 3) (.pair (.vsl 4) (.pair (.dat (.int .i64)) (.pair (.nils) (.dat Qf9))))), .mpd .str .str, .mpd .str .str, .vec QeZ, .vec (.int .i64)], 4⟩
def QA.os : List Out := [⟨.ret, [.freeze (.slot 0), .auto 4], ⟨[.dat (.int .i64)], .pair (.ptr 1 []) (.pair (.dat .str) (.pair (.dat (.int .u64)) (.pair (.nils) (.pair (.vsl 4) (.dat Qf6))))) :: .pair (.mp 2) (.pair (.mp 3) (.pair (.vsl 5) (.pair (.dat (.int .i64)) (.pair (.nils) (.dat Qf9))))) :: .mpd .str .str :: .mpd .str .str :: .vec (.int .i64) :: .vec QeZ :: []⟩⟩, ⟨.ret, [.freeze (.slot 0), .auto 4], ⟨[.dat (.int .i64)], [.pair (.ptr 1 []) (.pair (.dat .str) (.pair (.dat (.int .u64)) (.pair (.nils) (.pair (.vsl 4) (.dat Qf6))))), .pair (.mp 2) (.pair (.mp 3) (.pair (.nils) (.pair (.dat (.int .i64)) (.pair (.nils) (.dat Qf9))))), .mpd .str .str, .mpd .str .str, .vec (.int .i64)]⟩⟩]
def QA.sem (k : Nat) : QS := Q17 QA.T QA.os fun x => QA k x.1 x.2.1 x.2.2.1 x.2.2.2.1 x.2.2.2.2.1 x.2.2.2.2.2.1
noncomputable def QA.ctx (k : Nat) : Ctx := ⟨Try.prog, gam [(58, (QH.sem k)), (56, (Q4.sem k)), (59, (Q2c (Q2l Qr.T) (Qr.sem k) (QE.sem k)))]⟩
theorem QA.gok (k : Nat) : ∀ f, Qu Try.prog f ((QA.ctx k).Γ f) := (Qf (QH.sem_ok k) (Qf (Q4.sem_ok k) (Qf (Q1t (Qr.sem_ok k) (QE.sem_ok k)) Q0e)))
def QA.ann (k : Nat) : Ann := .nil
theorem QA.body (k : Nat) : Q18 (QA.ctx k) Try.f19 (Func.code Try.f19) (QA.ann k) QA.T QA.os (fun x K => QA.c k x.1 x.2.1 x.2.2.1 x.2.2.2.1 x.2.2.2.2.1 x.2.2.2.2.2.1 K) := by
 intro ρ x K; kernel_rfl
theorem QA.sem_ok (k : Nat) : Qu Try.prog 19 (QA.sem k) :=
 Q0u (C := QA.ctx k) (QA.gok k) Try.mix (c := Func.code Try.f19) (ann := QA.ann k) (T := QA.T) (os := QA.os) (fun x K => QA.c k x.1 x.2.1 x.2.2.1 x.2.2.2.1 x.2.2.2.2.1 x.2.2.2.2.2.1 K) Try.func19 (by kernel_rfl) (by kernel_rfl) Q2.nil (QA.body k) (by kernel_rfl) (by kernel_rfl) (by kernel_rfl)
abbrev Qz.τ : Type := QeK 
def Qz.c (k : Nat) {ρ : Type} (b0 : Qf0) (b1 : Qf4) (b2 : Qf8) (b3 : Qf8) (b4 : Qf1) (b5 : (List ByteArray)) (b6 : (List Int)) (K : Qz.τ → Option ρ) : Option ρ :=
 K ((((List.length b5) : Nat) : Int), (((), (b0.2.1, (b0.2.2.1, ((), ((), (b0.2.2.2.2.2.1, (b0.2.2.2.2.2.2.1, ()))))))), (((), ((), ((), (b1.2.2.2.1, ((), (b1.2.2.2.2.2.1, ())))))), (b2, (b3, (b5, (b6, (b4, ()))))))))
def Qz (k : Nat) (b0 : Qf0) (b1 : Qf4) (b2 : Qf8) (b3 : Qf8) (b4 : Qf1) (b5 : (List ByteArray)) (b6 : (List Int)) : Option Qz.τ := Qz.c k b0 b1 b2 b3 b4 b5 b6 some
def Qz.T : Q15 := ⟨[.ptr 0 []], [.pair (.ptr 1 []) (.pair (.dat .str) (.pair (.dat (.int .u64)) (.pair (.vsl 5) (.pair (.vsl 6) (.dat Qf6))))), .pair (.mp 2) (.pair (.mp 3) (.pair (.vsl 4) (.pair (.dat (.int .i64)) (.pair (.nils) (.dat Qf9))))), .mpd .str .str, .mpd .str .str, .vec QeZ, .vec .str, .vec (.int .i64)], 4⟩
def Qz.os : List Out := [⟨.ret, [.freeze (.slot 0), .auto 4], ⟨[.dat (.int .i64)], .pair (.ptr 1 []) (.pair (.dat .str) (.pair (.dat (.int .u64)) (.pair (.vsl 4) (.pair (.vsl 5) (.dat Qf6))))) :: .pair (.mp 2) (.pair (.mp 3) (.pair (.vsl 6) (.pair (.dat (.int .i64)) (.pair (.nils) (.dat Qf9))))) :: .mpd .str .str :: .mpd .str .str :: .vec .str :: .vec (.int .i64) :: .vec QeZ :: []⟩⟩]
def Qz.sem (k : Nat) : QS := Q17 Qz.T Qz.os fun x => Qz k x.1 x.2.1 x.2.2.1 x.2.2.2.1 x.2.2.2.2.1 x.2.2.2.2.2.1 x.2.2.2.2.2.2.1
noncomputable def Qz.ctx (k : Nat) : Ctx := ⟨Try.prog, gam []⟩
theorem Qz.gok (k : Nat) : ∀ f, Qu Try.prog f ((Qz.ctx k).Γ f) := Q0e
def Qz.ann (k : Nat) : Ann := .nil
theorem Qz.body (k : Nat) : Q18 (Qz.ctx k) Try.f25 (Func.code Try.f25) (Qz.ann k) Qz.T Qz.os (fun x K => Qz.c k x.1 x.2.1 x.2.2.1 x.2.2.2.1 x.2.2.2.2.1 x.2.2.2.2.2.1 x.2.2.2.2.2.2.1 K) := by
 intro ρ x K; kernel_rfl
theorem Qz.sem_ok (k : Nat) : Qu Try.prog 25 (Qz.sem k) :=
 Q0u (C := Qz.ctx k) (Qz.gok k) Try.mix (c := Func.code Try.f25) (ann := Qz.ann k) (T := Qz.T) (os := Qz.os) (fun x K => Qz.c k x.1 x.2.1 x.2.2.1 x.2.2.2.1 x.2.2.2.2.1 x.2.2.2.2.2.1 x.2.2.2.2.2.2.1 K) Try.func25 (by kernel_rfl) (by kernel_rfl) Q2.nil (Qz.body k) (by kernel_rfl) (by kernel_rfl) (by kernel_rfl)
abbrev QJ.τ : Type := (ByteArray × Bool × Qf0 × Qf4 × Qf8 × Qf8 × (List ByteArray) × (List Int) × Qf1 × Unit)
def QJ.c (k : Nat) {ρ : Type} (n : Int) (b0 : Qf0) (b1 : Qf4) (b2 : Qf8) (b3 : Qf8) (b4 : Qf1) (b5 : (List ByteArray)) (b6 : (List Int)) (K : QJ.τ → Option ρ) : Option ρ :=
 bif (decide (n < (0 : Int))) then (K ((⟨(List.toArray [])⟩ : ByteArray), (false, (((), (b0.2.1, (b0.2.2.1, ((), ((), (b0.2.2.2.2.2.1, (b0.2.2.2.2.2.2.1, ()))))))), (((), ((), ((), (b1.2.2.2.1, ((), (b1.2.2.2.2.2.1, ())))))), (b2, (b3, (b5, (b6, (b4, ())))))))))) else ((Qz k ((), (b0.2.1, (b0.2.2.1, ((), ((), (b0.2.2.2.2.2.1, (b0.2.2.2.2.2.2.1, ()))))))) ((), ((), ((), (b1.2.2.2.1, ((), (b1.2.2.2.2.2.1, ())))))) b2 b3 b4 b5 b6).bind fun t0 => bif (decide (n ≥ t0.1)) then (K ((⟨(List.toArray [])⟩ : ByteArray), (false, (((), (t0.2.1.2.1, (t0.2.1.2.2.1, ((), ((), (t0.2.1.2.2.2.2.2.1, (t0.2.1.2.2.2.2.2.2.1, ()))))))), (((), ((), ((), (t0.2.2.1.2.2.2.1, ((), (t0.2.2.1.2.2.2.2.2.1, ())))))), (t0.2.2.2.1, (t0.2.2.2.2.1, (t0.2.2.2.2.2.1, (t0.2.2.2.2.2.2.1, (t0.2.2.2.2.2.2.2.1, ())))))))))) else (bif (decide (((0 : Int) ≤ n) ∧ (n < (((List.length t0.2.2.2.2.2.1) : Nat) : Int)))) then (let v1 : ByteArray := (List.getD t0.2.2.2.2.2.1 (Int.toNat n) ByteArray.empty)
 K (v1, (true, (((), (t0.2.1.2.1, (t0.2.1.2.2.1, ((), ((), (t0.2.1.2.2.2.2.2.1, (t0.2.1.2.2.2.2.2.2.1, ()))))))), (((), ((), ((), (t0.2.2.1.2.2.2.1, ((), (t0.2.2.1.2.2.2.2.2.1, ())))))), (t0.2.2.2.1, (t0.2.2.2.2.1, (t0.2.2.2.2.2.1, (t0.2.2.2.2.2.2.1, (t0.2.2.2.2.2.2.2.1, ())))))))))) else (none)))
def QJ (k : Nat) (n : Int) (b0 : Qf0) (b1 : Qf4) (b2 : Qf8) (b3 : Qf8) (b4 : Qf1) (b5 : (List ByteArray)) (b6 : (List Int)) : Option QJ.τ := QJ.c k n b0 b1 b2 b3 b4 b5 b6 some
def QJ.T : Q15 := ⟨[.ptr 0 [], .dat (.int .i64)], [.pair (.ptr 1 []) (.pair (.dat .str) (.pair (.dat (.int .u64)) (.pair (.vsl 5) (.pair (.vsl 6) (.dat Qf6))))), .pair (.mp 2) (.pair (.mp 3) (.pair (.vsl 4) (.pair (.dat (.int .i64)) (.pair (.nils) (.dat Qf9))))), .mpd .str .str, .mpd .str .str, .vec QeZ, .vec .str, .vec (.int .i64)], 4⟩
def QJ.os : List Out := [⟨.ret, [.freeze (.slot 0), .freeze (.slot 1), .auto 4], ⟨[.dat .str, .dat .bool], .pair (.ptr 1 []) (.pair (.dat .str) (.pair (.dat (.int .u64)) (.pair (.vsl 4) (.pair (.vsl 5) (.dat Qf6))))) :: .pair (.mp 2) (.pair (.mp 3) (.pair (.vsl 6) (.pair (.dat (.int .i64)) (.pair (.nils) (.dat Qf9))))) :: .mpd .str .str :: .mpd .str .str :: .vec .str :: .vec (.int .i64) :: .vec QeZ :: []⟩⟩]
def QJ.sem (k : Nat) : QS := Q17 QJ.T QJ.os fun x => QJ k x.1 x.2.1 x.2.2.1 x.2.2.2.1 x.2.2.2.2.1 x.2.2.2.2.2.1 x.2.2.2.2.2.2.1 x.2.2.2.2.2.2.2.1
noncomputable def QJ.ctx (k : Nat) : Ctx := ⟨Try.prog, gam [(25, (Qz.sem k))]⟩
theorem QJ.gok (k : Nat) : ∀ f, Qu Try.prog f ((QJ.ctx k).Γ f) := (Qf (Qz.sem_ok k) Q0e)
def QJ.ann (k : Nat) : Ann := .nil
theorem QJ.body (k : Nat) : Q18 (QJ.ctx k) Try.f22 (Func.code Try.f22) (QJ.ann k) QJ.T QJ.os (fun x K => QJ.c k x.1 x.2.1 x.2.2.1 x.2.2.2.1 x.2.2.2.2.1 x.2.2.2.2.2.1 x.2.2.2.2.2.2.1 x.2.2.2.2.2.2.2.1 K) := by
 intro ρ x K; kernel_rfl
theorem QJ.sem_ok (k : Nat) : Qu Try.prog 22 (QJ.sem k) :=
 Q0u (C := QJ.ctx k) (QJ.gok k) Try.mix (c := Func.code Try.f22) (ann := QJ.ann k) (T := QJ.T) (os := QJ.os) (fun x K => QJ.c k x.1 x.2.1 x.2.2.1 x.2.2.2.1 x.2.2.2.2.1 x.2.2.2.2.2.1 x.2.2.2.2.2.2.1 x.2.2.2.2.2.2.2.1 K) Try.func22 (by kernel_rfl) (by kernel_rfl) Q2.nil (QJ.body k) (by kernel_rfl) (by kernel_rfl) (by kernel_rfl)
abbrev QR.τ : Type := (Bool × Qf0 × Qf4 × Qf8 × Qf8 × (List ByteArray) × (List Int) × Qf1 × Unit)
def QR.c (k : Nat) {ρ : Type} (b0 : Qf0) (b1 : Qf4) (b2 : Qf8) (b3 : Qf8) (b4 : Qf1) (b5 : (List ByteArray)) (b6 : (List Int)) (K : QR.τ → Option ρ) : Option ρ :=
 K (b0.2.2.2.2.2.2.1, (((), (b0.2.1, (b0.2.2.1, ((), ((), (b0.2.2.2.2.2.1, (b0.2.2.2.2.2.2.1, ()))))))), (((), ((), ((), (b1.2.2.2.1, ((), (b1.2.2.2.2.2.1, ())))))), (b2, (b3, (b5, (b6, (b4, ()))))))))
def QR (k : Nat) (b0 : Qf0) (b1 : Qf4) (b2 : Qf8) (b3 : Qf8) (b4 : Qf1) (b5 : (List ByteArray)) (b6 : (List Int)) : Option QR.τ := QR.c k b0 b1 b2 b3 b4 b5 b6 some
def QR.T : Q15 := ⟨[.ptr 0 []], [.pair (.ptr 1 []) (.pair (.dat .str) (.pair (.dat (.int .u64)) (.pair (.vsl 5) (.pair (.vsl 6) (.dat Qf6))))), .pair (.mp 2) (.pair (.mp 3) (.pair (.vsl 4) (.pair (.dat (.int .i64)) (.pair (.nils) (.dat Qf9))))), .mpd .str .str, .mpd .str .str, .vec QeZ, .vec .str, .vec (.int .i64)], 4⟩
def QR.os : List Out := [⟨.ret, [.freeze (.slot 0), .auto 4], ⟨[.dat .bool], .pair (.ptr 1 []) (.pair (.dat .str) (.pair (.dat (.int .u64)) (.pair (.vsl 4) (.pair (.vsl 5) (.dat Qf6))))) :: .pair (.mp 2) (.pair (.mp 3) (.pair (.vsl 6) (.pair (.dat (.int .i64)) (.pair (.nils) (.dat Qf9))))) :: .mpd .str .str :: .mpd .str .str :: .vec .str :: .vec (.int .i64) :: .vec QeZ :: []⟩⟩]
def QR.sem (k : Nat) : QS := Q17 QR.T QR.os fun x => QR k x.1 x.2.1 x.2.2.1 x.2.2.2.1 x.2.2.2.2.1 x.2.2.2.2.2.1 x.2.2.2.2.2.2.1
noncomputable def QR.ctx (k : Nat) : Ctx := ⟨Try.prog, gam []⟩
theorem QR.gok (k : Nat) : ∀ f, Qu Try.prog f ((QR.ctx k).Γ f) := Q0e
def QR.ann (k : Nat) : Ann := .nil
theorem QR.body (k : Nat) : Q18 (QR.ctx k) Try.f21 (Func.code Try.f21) (QR.ann k) QR.T QR.os (fun x K => QR.c k x.1 x.2.1 x.2.2.1 x.2.2.2.1 x.2.2.2.2.1 x.2.2.2.2.2.1 x.2.2.2.2.2.2.1 K) := by
 intro ρ x K; kernel_rfl
theorem QR.sem_ok (k : Nat) : Qu Try.prog 21 (QR.sem k) :=
 Q0u (C := QR.ctx k) (QR.gok k) Try.mix (c := Func.code Try.f21) (ann := QR.ann k) (T := QR.T) (os := QR.os) (fun x K => QR.c k x.1 x.2.1 x.2.2.1 x.2.2.2.1 x.2.2.2.2.1 x.2.2.2.2.2.1 x.2.2.2.2.2.2.1 K) Try.func21 (by kernel_rfl) (by kernel_rfl) Q2.nil (QR.body k) (by kernel_rfl) (by kernel_rfl) (by kernel_rfl)
abbrev QK.τ : Type := QeK 
def QK.c (k : Nat) {ρ : Type} (b0 : Qf0) (b1 : Qf4) (b2 : Qf8) (b3 : Qf8) (b4 : Qf1) (b5 : (List ByteArray)) (b6 : (List Int)) (K : QK.τ → Option ρ) : Option ρ :=
 (QR k ((), (b0.2.1, (b0.2.2.1, ((), ((), (b0.2.2.2.2.2.1, (b0.2.2.2.2.2.2.1, ()))))))) ((), ((), ((), (b1.2.2.2.1, ((), (b1.2.2.2.2.2.1, ())))))) b2 b3 b4 b5 b6).bind fun t0 => bif t0.1 then (K ((7 : Int), (((), (t0.2.1.2.1, (t0.2.1.2.2.1, ((), ((), (t0.2.1.2.2.2.2.2.1, (t0.2.1.2.2.2.2.2.2.1, ()))))))), (((), ((), ((), (t0.2.2.1.2.2.2.1, ((), (t0.2.2.1.2.2.2.2.2.1, ())))))), (t0.2.2.2.1, (t0.2.2.2.2.1, (t0.2.2.2.2.2.1, (t0.2.2.2.2.2.2.1, (t0.2.2.2.2.2.2.2.1, ()))))))))) else (K ((0 : Int), (((), (t0.2.1.2.1, (t0.2.1.2.2.1, ((), ((), (t0.2.1.2.2.2.2.2.1, (t0.2.1.2.2.2.2.2.2.1, ()))))))), (((), ((), ((), (t0.2.2.1.2.2.2.1, ((), (t0.2.2.1.2.2.2.2.2.1, ())))))), (t0.2.2.2.1, (t0.2.2.2.2.1, (t0.2.2.2.2.2.1, (t0.2.2.2.2.2.2.1, (t0.2.2.2.2.2.2.2.1, ())))))))))
def QK (k : Nat) (b0 : Qf0) (b1 : Qf4) (b2 : Qf8) (b3 : Qf8) (b4 : Qf1) (b5 : (List ByteArray)) (b6 : (List Int)) : Option QK.τ := QK.c k b0 b1 b2 b3 b4 b5 b6 some
def QK.T : Q15 := ⟨[.ptr 0 []], [.pair (.ptr 1 []) (.pair (.dat .str) (.pair (.dat (.int .u64)) (.pair (.vsl 5) (.pair (.vsl 6) (.dat Qf6))))), .pair (.mp 2) (.pair (.mp 3) (.pair (.vsl 4) (.pair (.dat (.int .i64)) (.pair (.nils) (.dat Qf9))))), .mpd .str .str, .mpd .str .str, .vec QeZ, .vec .str, .vec (.int .i64)], 4⟩
def QK.os : List Out := [⟨.ret, [.freeze (.slot 0), .auto 4], ⟨[.dat (.int .i64)], .pair (.ptr 1 []) (.pair (.dat .str) (.pair (.dat (.int .u64)) (.pair (.vsl 4) (.pair (.vsl 5) (.dat Qf6))))) :: .pair (.mp 2) (.pair (.mp 3) (.pair (.vsl 6) (.pair (.dat (.int .i64)) (.pair (.nils) (.dat Qf9))))) :: .mpd .str .str :: .mpd .str .str :: .vec .str :: .vec (.int .i64) :: .vec QeZ :: []⟩⟩]
def QK.sem (k : Nat) : QS := Q17 QK.T QK.os fun x => QK k x.1 x.2.1 x.2.2.1 x.2.2.2.1 x.2.2.2.2.1 x.2.2.2.2.2.1 x.2.2.2.2.2.2.1
noncomputable def QK.ctx (k : Nat) : Ctx := ⟨Try.prog, gam [(21, (QR.sem k))]⟩
theorem QK.gok (k : Nat) : ∀ f, Qu Try.prog f ((QK.ctx k).Γ f) := (Qf (QR.sem_ok k) Q0e)
def QK.ann (k : Nat) : Ann := .nil
theorem QK.body (k : Nat) : Q18 (QK.ctx k) Try.f58 (Func.code Try.f58) (QK.ann k) QK.T QK.os (fun x K => QK.c k x.1 x.2.1 x.2.2.1 x.2.2.2.1 x.2.2.2.2.1 x.2.2.2.2.2.1 x.2.2.2.2.2.2.1 K) := by
 intro ρ x K; kernel_rfl
theorem QK.sem_ok (k : Nat) : Qu Try.prog 58 (QK.sem k) :=
 Q0u (C := QK.ctx k) (QK.gok k) Try.mix (c := Func.code Try.f58) (ann := QK.ann k) (T := QK.T) (os := QK.os) (fun x K => QK.c k x.1 x.2.1 x.2.2.1 x.2.2.2.1 x.2.2.2.2.1 x.2.2.2.2.2.1 x.2.2.2.2.2.2.1 K) Try.func58 (by kernel_rfl) (by kernel_rfl) Q2.nil (QK.body k) (by kernel_rfl) (by kernel_rfl) (by kernel_rfl)
abbrev Qt.τ : Type := QeK 
def Qt.c (k : Nat) {ρ : Type} (e : Int) (b0 : Qf0) (b1 : Qf4) (b2 : Qf8) (b3 : Qf8) (b4 : Qf1) (b5 : (List ByteArray)) (b6 : (List Int)) (K : Qt.τ → Option ρ) : Option ρ :=
 bif (e == (7 : Int)) then (K (e, (((), (b0.2.1, (b0.2.2.1, ((), ((), (b0.2.2.2.2.2.1, (true, ()))))))), (((), ((), ((), (b1.2.2.2.1, ((), (b1.2.2.2.2.2.1, ())))))), (b2, (b3, (b5, (b6, (b4, ()))))))))) else (K (e, (((), (b0.2.1, (b0.2.2.1, ((), ((), (b0.2.2.2.2.2.1, (b0.2.2.2.2.2.2.1, ()))))))), (((), ((), ((), (b1.2.2.2.1, ((), (b1.2.2.2.2.2.1, ())))))), (b2, (b3, (b5, (b6, (b4, ())))))))))
def Qt (k : Nat) (e : Int) (b0 : Qf0) (b1 : Qf4) (b2 : Qf8) (b3 : Qf8) (b4 : Qf1) (b5 : (List ByteArray)) (b6 : (List Int)) : Option Qt.τ := Qt.c k e b0 b1 b2 b3 b4 b5 b6 some
def Qt.T : Q15 := ⟨[.ptr 0 [], .dat (.int .i64)], [.pair (.ptr 1 []) (.pair (.dat .str) (.pair (.dat (.int .u64)) (.pair (.vsl 5) (.pair (.vsl 6) (.dat Qf6))))), .pair (.mp 2) (.pair (.mp 3) (.pair (.vsl 4) (.pair (.dat (.int .i64)) (.pair (.nils) (.dat Qf9))))), .mpd .str .str, .mpd .str .str, .vec QeZ, .vec .str, .vec (.int .i64)], 4⟩
def Qt.os : List Out := [⟨.ret, [.freeze (.slot 0), .auto 4], ⟨[.dat (.int .i64)], .pair (.ptr 1 []) (.pair (.dat .str) (.pair (.dat (.int .u64)) (.pair (.vsl 4) (.pair (.vsl 5) (.dat Qf6))))) :: .pair (.mp 2) (.pair (.mp 3) (.pair (.vsl 6) (.pair (.dat (.int .i64)) (.pair (.nils) (.dat Qf9))))) :: .mpd .str .str :: .mpd .str .str :: .vec .str :: .vec (.int .i64) :: .vec QeZ :: []⟩⟩]
def Qt.sem (k : Nat) : QS := Q17 Qt.T Qt.os fun x => Qt k x.1 x.2.1 x.2.2.1 x.2.2.2.1 x.2.2.2.2.1 x.2.2.2.2.2.1 x.2.2.2.2.2.2.1 x.2.2.2.2.2.2.2.1
noncomputable def Qt.ctx (k : Nat) : Ctx := ⟨Try.prog, gam []⟩
theorem Qt.gok (k : Nat) : ∀ f, Qu Try.prog f ((Qt.ctx k).Γ f) := Q0e
def Qt.ann (k : Nat) : Ann := .nil
theorem Qt.body (k : Nat) : Q18 (Qt.ctx k) Try.f59 (Func.code Try.f59) (Qt.ann k) Qt.T Qt.os (fun x K => Qt.c k x.1 x.2.1 x.2.2.1 x.2.2.2.1 x.2.2.2.2.1 x.2.2.2.2.2.1 x.2.2.2.2.2.2.1 x.2.2.2.2.2.2.2.1 K) := by
 intro ρ x K; kernel_rfl
theorem Qt.sem_ok (k : Nat) : Qu Try.prog 59 (Qt.sem k) :=
 Q0u (C := Qt.ctx k) (Qt.gok k) Try.mix (c := Func.code Try.f59) (ann := Qt.ann k) (T := Qt.T) (os := Qt.os) (fun x K => Qt.c k x.1 x.2.1 x.2.2.1 x.2.2.2.1 x.2.2.2.2.1 x.2.2.2.2.2.1 x.2.2.2.2.2.2.1 x.2.2.2.2.2.2.2.1 K) Try.func59 (by kernel_rfl) (by kernel_rfl) Q2.nil (Qt.body k) (by kernel_rfl) (by kernel_rfl) (by kernel_rfl)
abbrev Qy.τ : Type := QeK ⊕ QeM 
def Qy.c (k : Nat) {ρ : Type} (b0 : Qf0) (b1 : Qf4) (b2 : Qf8) (b3 : Qf8) (b4 : Qf1) (b5 : (List ByteArray)) (b6 : (List Int)) (K : Qy.τ → Option ρ) : Option ρ :=
  (QK k ((), (b0.2.1, (b0.2.2.1, ((), ((), (b0.2.2.2.2.2.1, (b0.2.2.2.2.2.2.1, ()))))))) ((), ((), ((), (b1.2.2.2.1, ((), (b1.2.2.2.2.2.1, ())))))) b2 b3 b4 b5 b6).bind fun t0 => bif (t0.1 != (0 : Int)) then (K (.inl (t0.1, (((), (t0.2.1.2.1, (t0.2.1.2.2.1, ((), ((), (t0.2.1.2.2.2.2.2.1, (t0.2.1.2.2.2.2.2.2.1, ()))))))), (((), ((), ((), (t0.2.2.1.2.2.2.1, ((), (t0.2.2.1.2.2.2.2.2.1, ())))))), (t0.2.2.2.1, (t0.2.2.2.2.1, (t0.2.2.2.2.2.1, (t0.2.2.2.2.2.2.1, (t0.2.2.2.2.2.2.2.1, ())))))))))) else ((Q4 k ((), ((), ((), (t0.2.2.1.2.2.2.1, ((), (t0.2.2.1.2.2.2.2.2.1, ())))))) t0.2.2.2.1 t0.2.2.2.2.1 t0.2.2.2.2.2.2.2.1).bind fun t1 => (match t1 with
 | .inl t2 => ((Qt k t2.1 ((), (t0.2.1.2.1, (t0.2.1.2.2.1, ((), ((), (t0.2.1.2.2.2.2.2.1, (t0.2.1.2.2.2.2.2.2.1, ()))))))) ((), ((), ((), (t2.2.1.2.2.2.1, ((), (t2.2.1.2.2.2.2.2.1, ())))))) t2.2.2.1 t2.2.2.2.1 t2.2.2.2.2.1 t0.2.2.2.2.2.1 t0.2.2.2.2.2.2.1).bind fun t3 => K (.inl (t3.1, (((), (t3.2.1.2.1, (t3.2.1.2.2.1, ((), ((), (t3.2.1.2.2.2.2.2.1, (t3.2.1.2.2.2.2.2.2.1, ()))))))), (((), ((), ((), (t3.2.2.1.2.2.2.1, ((), (t3.2.2.1.2.2.2.2.2.1, ())))))), (t3.2.2.2.1, (t3.2.2.2.2.1, (t3.2.2.2.2.2.1, (t3.2.2.2.2.2.2.1, (t3.2.2.2.2.2.2.2.1, ()))))))))))
 | .inr (t4) => ((Qs k t4.1 ((), (t0.2.1.2.1, (t0.2.1.2.2.1, ((), ((), (t0.2.1.2.2.2.2.2.1, (t0.2.1.2.2.2.2.2.2.1, ()))))))) ((), ((), ((), (t4.2.1.2.2.2.1, ((), (t4.2.1.2.2.2.2.2.1, ())))))) t4.2.2.1 t4.2.2.2.1 t0.2.2.2.2.2.1 t0.2.2.2.2.2.2.1).bind fun t5 => K (.inr (t5.1, (((), (t5.2.1.2.1, (t5.2.1.2.2.1, ((), ((), (t5.2.1.2.2.2.2.2.1, (t5.2.1.2.2.2.2.2.2.1, ()))))))), (((), ((), ((), (t5.2.2.1.2.2.2.1, ((), (t5.2.2.1.2.2.2.2.2.1, ())))))), (t5.2.2.2.1, (t5.2.2.2.2.1, (t5.2.2.2.2.2.1, (t5.2.2.2.2.2.2.1, ())))))))))))
def Qy (k : Nat) (b0 : Qf0) (b1 : Qf4) (b2 : Qf8) (b3 : Qf8) (b4 : Qf1) (b5 : (List ByteArray)) (b6 : (List Int)) : Option Qy.τ := Qy.c k b0 b1 b2 b3 b4 b5 b6 some
def Qy.T : Q15 := ⟨[.ptr 0 []], [.pair (.ptr 1 []) (.pair (.dat .str) (.pair (.dat (.int .u64)) (.pair (.vsl 5) (.pair (.vsl 6) (.dat Qf6))))), .pair (.mp 2) (.pair (.mp 3) (.pair (.vsl 4) (.pair (.dat (.int .i64)) (.pair (.nils) (.dat Qf9))))), .mpd .str .str, .mpd .str .str, .vec QeZ, .vec .str, .vec (.int .i64)], 4⟩
def Qy.os : List Out := [⟨.ret, [.freeze (.slot 0), .auto 4], ⟨[.dat (.int .i64)], .pair (.ptr 1 []) (.pair (.dat .str) (.pair (.dat (.int .u64)) (.pair (.vsl 4) (.pair (.vsl 5) (.dat Qf6))))) :: .pair (.mp 2) (.pair (.mp 3) (.pair (.vsl 6) (.pair (.dat (.int .i64)) (.pair (.nils) (.dat Qf9))))) :: .mpd .str .str :: .mpd .str .str :: .vec .str :: .vec (.int .i64) :: .vec QeZ :: []⟩⟩, ⟨.ret, [.freeze (.slot 0), .auto 4], ⟨[.dat (.int .i64)], .pair (.ptr 1 []) (.pair (.dat .str) (.pair (.dat (.int .u64)) (.pair (.vsl 4) (.pair (.vsl 5) (.dat Qf6))))) :: .pair (.mp 2) (.pair (.mp 3) (.pair (.nils) (.pair (.dat (.int .i64)) (.pair (.nils) (.dat Qf9))))) :: .mpd .str .str :: .mpd .str .str :: .vec .str :: .vec (.int .i64) :: []⟩⟩]
def Qy.sem (k : Nat) : QS := Q17 Qy.T Qy.os fun x => Qy k x.1 x.2.1 x.2.2.1 x.2.2.2.1 x.2.2.2.2.1 x.2.2.2.2.2.1 x.2.2.2.2.2.2.1
noncomputable def Qy.ctx (k : Nat) : Ctx := ⟨Try.prog, gam [(58, (QK.sem k)), (56, (Q4.sem k)), (59, (Q2c (Q2l Qt.T) (Qt.sem k) (Qs.sem k)))]⟩
theorem Qy.gok (k : Nat) : ∀ f, Qu Try.prog f ((Qy.ctx k).Γ f) := (Qf (QK.sem_ok k) (Qf (Q4.sem_ok k) (Qf (Q1t (Qt.sem_ok k) (Qs.sem_ok k)) Q0e)))
def Qy.ann (k : Nat) : Ann := .nil
theorem Qy.body (k : Nat) : Q18 (Qy.ctx k) Try.f19 (Func.code Try.f19) (Qy.ann k) Qy.T Qy.os (fun x K => Qy.c k x.1 x.2.1 x.2.2.1 x.2.2.2.1 x.2.2.2.2.1 x.2.2.2.2.2.1 x.2.2.2.2.2.2.1 K) := by
 intro ρ x K; kernel_rfl
theorem Qy.sem_ok (k : Nat) : Qu Try.prog 19 (Qy.sem k) :=
 Q0u (C := Qy.ctx k) (Qy.gok k) Try.mix (c := Func.code Try.f19) (ann := Qy.ann k) (T := Qy.T) (os := Qy.os) (fun x K => Qy.c k x.1 x.2.1 x.2.2.1 x.2.2.2.1 x.2.2.2.2.1 x.2.2.2.2.2.1 x.2.2.2.2.2.2.1 K) Try.func19 (by kernel_rfl) (by kernel_rfl) Q2.nil (Qy.body k) (by kernel_rfl) (by kernel_rfl) (by kernel_rfl)
abbrev Q0d.τ : Type := QeR 
def Q0d.c (k : Nat) {ρ : Type} (name : ByteArray) (s : ByteArray) (b0 : Qf4) (b1 : Qf8) (b2 : Qf8) (b3 : Qf1) (K : Q0d.τ → Option ρ) : Option ρ :=
 (Q0o k (List.set (List.replicate 1 ByteArray.empty) 0 name) ((), ((), ((), (b0.2.2.2.1, ((), (b0.2.2.2.2.2.1, ())))))) b1 b2 b3).bind fun t0 => bif (t0.1 != (0 : Int)) then (K (t0.1, (((), ((), ((), (t0.2.1.2.2.2.1, ((), (t0.2.1.2.2.2.2.2.1, ())))))), (t0.2.2.1, (t0.2.2.2.1, (t0.2.2.2.2.1, ())))))) else (let v1 : ByteArray := (Option.getD (mget Ty.str name t0.2.2.2.1) ByteArray.empty)
 (Q08 k name (((ByteArray.size v1) : Nat) : Int) s ((), ((), ((), (t0.2.1.2.2.2.1, ((), (t0.2.1.2.2.2.2.2.1, ())))))) t0.2.2.1 t0.2.2.2.1 t0.2.2.2.2.1).bind fun t2 => K (t2.1, (((), ((), ((), (t2.2.1.2.2.2.1, ((), (t2.2.1.2.2.2.2.2.1, ())))))), (t2.2.2.1, (t2.2.2.2.1, (t2.2.2.2.2.1, ()))))))
def Q0d (k : Nat) (name : ByteArray) (s : ByteArray) (b0 : Qf4) (b1 : Qf8) (b2 : Qf8) (b3 : Qf1) : Option Q0d.τ := Q0d.c k name s b0 b1 b2 b3 some
def Q0d.T : Q15 := ⟨[.ptr 0 [], .dat .str, .dat .str], [.pair (.mp 1) (.pair (.mp 2) (.pair (.vsl 3) (.pair (.dat (.int .i64)) (.pair (.nils) (.dat Qf9))))), .mpd .str .str, .mpd .str .str, .vec QeZ], 3⟩
def Q0d.os : List Out := [⟨.ret, [.freeze (.slot 0), .auto 3], ⟨[.dat (.int .i64)], [.pair (.mp 1) (.pair (.mp 2) (.pair (.vsl 3) (.pair (.dat (.int .i64)) (.pair (.nils) (.dat Qf9))))), .mpd .str .str, .mpd .str .str, .vec QeZ]⟩⟩]
def Q0d.sem (k : Nat) : QS := Q17 Q0d.T Q0d.os fun x => Q0d k x.1 x.2.1 x.2.2.1 x.2.2.2.1 x.2.2.2.2.1 x.2.2.2.2.2.1
noncomputable def Q0d.ctx (k : Nat) : Ctx := ⟨Try.prog, gam [(79, (Q0o.sem k)), (72, (Q08.sem k))]⟩
theorem Q0d.gok (k : Nat) : ∀ f, Qu Try.prog f ((Q0d.ctx k).Γ f) := (Qf (Q0o.sem_ok k) (Qf (Q08.sem_ok k) Q0e))
def Q0d.ann (k : Nat) : Ann := .nil
theorem Q0d.body (k : Nat) : Q18 (Q0d.ctx k) Try.f60 (Func.code Try.f60) (Q0d.ann k) Q0d.T Q0d.os (fun x K => Q0d.c k x.1 x.2.1 x.2.2.1 x.2.2.2.1 x.2.2.2.2.1 x.2.2.2.2.2.1 K) := by
 intro ρ x K; kernel_rfl
theorem Q0d.sem_ok (k : Nat) : Qu Try.prog 60 (Q0d.sem k) :=
 Q0u (C := Q0d.ctx k) (Q0d.gok k) Try.mix (c := Func.code Try.f60) (ann := Q0d.ann k) (T := Q0d.T) (os := Q0d.os) (fun x K => Q0d.c k x.1 x.2.1 x.2.2.1 x.2.2.2.1 x.2.2.2.2.1 x.2.2.2.2.2.1 K) Try.func60 (by kernel_rfl) (by kernel_rfl) Q2.nil (Q0d.body k) (by kernel_rfl) (by kernel_rfl) (by kernel_rfl)
abbrev QT.τ : Type := QeL ⊕ QeK 
def QT.c (k : Nat) {ρ : Type} (s : ByteArray) (b0 : Qf0) (b1 : Qf4) (b2 : Qf8) (b3 : Qf8) (b4 : Qf1) (b5 : (List Int)) (K : QT.τ → Option ρ) : Option ρ :=
 (QH k ((), (b0.2.1, (b0.2.2.1, ((), ((), (b0.2.2.2.2.2.1, (b0.2.2.2.2.2.2.1, ()))))))) ((), ((), ((), (b1.2.2.2.1, ((), (b1.2.2.2.2.2.1, ())))))) b2 b3 b4 b5).bind fun t0 => bif (t0.1 != (0 : Int)) then (K (.inl (t0.1, (((), (t0.2.1.2.1, (t0.2.1.2.2.1, ((), ((), (t0.2.1.2.2.2.2.2.1, (t0.2.1.2.2.2.2.2.2.1, ()))))))), (((), ((), ((), (t0.2.2.1.2.2.2.1, ((), (t0.2.2.1.2.2.2.2.2.1, ())))))), (t0.2.2.2.1, (t0.2.2.2.2.1, (t0.2.2.2.2.2.1, (t0.2.2.2.2.2.2.1, ()))))))))) else (let v1 : Int := t0.2.1.2.2.1
 (Q09 k v1 (IntKind.wrap IntKind.u64 (0 : Int)) s).bind fun t2 => let v3 : ByteArray := t2.1
 let v4 : Int := t2.2.1
 bif (v4 != (0 : Int)) then (K (.inl (v4, (((), (t0.2.1.2.1, (t0.2.1.2.2.1, ((), ((), (t0.2.1.2.2.2.2.2.1, (t0.2.1.2.2.2.2.2.2.1, ()))))))), (((), ((), ((), (t0.2.2.1.2.2.2.1, ((), (t0.2.2.1.2.2.2.2.2.1, ())))))), (t0.2.2.2.1, (t0.2.2.2.2.1, (t0.2.2.2.2.2.1, (t0.2.2.2.2.2.2.1, ()))))))))) else (let v5 : ByteArray := t0.2.1.2.1
 (Q0d k v5 v3 ((), ((), ((), (t0.2.2.1.2.2.2.1, ((), (t0.2.2.1.2.2.2.2.2.1, ())))))) t0.2.2.2.1 t0.2.2.2.2.1 t0.2.2.2.2.2.2.1).bind fun t6 => (Qr k t6.1 ((), (t0.2.1.2.1, (t0.2.1.2.2.1, ((), ((), (t0.2.1.2.2.2.2.2.1, (t0.2.1.2.2.2.2.2.2.1, ()))))))) ((), ((), ((), (t6.2.1.2.2.2.1, ((), (t6.2.1.2.2.2.2.2.1, ())))))) t6.2.2.1 t6.2.2.2.1 t6.2.2.2.2.1 t0.2.2.2.2.2.1).bind fun t7 => bif (t7.1 != (0 : Int)) then (K (.inl (t7.1, (((), (t7.2.1.2.1, (t7.2.1.2.2.1, ((), ((), (t7.2.1.2.2.2.2.2.1, (t7.2.1.2.2.2.2.2.2.1, ()))))))), (((), ((), ((), (t7.2.2.1.2.2.2.1, ((), (t7.2.2.1.2.2.2.2.2.1, ())))))), (t7.2.2.2.1, (t7.2.2.2.2.1, (t7.2.2.2.2.2.1, (t7.2.2.2.2.2.2.1, ()))))))))) else (bif (Nat.ble ((List.length (List.set (List.replicate 1 ByteArray.empty) 0 s)) * 16) 140737488355328) then ((Qm k ((), (t7.2.1.2.1, (t7.2.1.2.2.1, ((), ((), (t7.2.1.2.2.2.2.2.1, (t7.2.1.2.2.2.2.2.2.1, ()))))))) ((), ((), ((), (t7.2.2.1.2.2.2.1, ((), (t7.2.2.1.2.2.2.2.2.1, ())))))) t7.2.2.2.1 t7.2.2.2.2.1 t7.2.2.2.2.2.2.1 t7.2.2.2.2.2.1).bind fun t8 => let v9 : Int := (IntKind.wrap IntKind.i64 (t8.1 + (((ByteArray.size v3) : Nat) : Int)))
 bif (Nat.ble (((List.length t7.2.2.2.2.2.1) + (List.length (List.set (List.replicate 1 (0 : Int)) 0 v9))) * 8) 140737488355328) then (K (.inr ((0 : Int), (((), (t7.2.1.2.1, (t7.2.1.2.2.1, ((), ((), (t7.2.1.2.2.2.2.2.1, (t7.2.1.2.2.2.2.2.2.1, ()))))))), (((), ((), ((), (t7.2.2.1.2.2.2.1, ((), (t7.2.2.1.2.2.2.2.2.1, ())))))), (t7.2.2.2.1, (t7.2.2.2.2.1, ((List.set (List.replicate 1 ByteArray.empty) 0 s), ((t7.2.2.2.2.2.1 ++ (List.set (List.replicate 1 (0 : Int)) 0 v9)), (t7.2.2.2.2.2.2.1, ())))))))))) else (none)) else (none))))
def QT (k : Nat) (s : ByteArray) (b0 : Qf0) (b1 : Qf4) (b2 : Qf8) (b3 : Qf8) (b4 : Qf1) (b5 : (List Int)) : Option QT.τ := QT.c k s b0 b1 b2 b3 b4 b5 some
def QT.T : Q15 := ⟨[.ptr 0 [], .dat .str], [.pair (.ptr 1 []) (.pair (.dat .str) (.pair (.dat (.int .u64)) (.pair (.nils) (.pair (.vsl 5) (.dat Qf6))))), .pair (.mp 2) (.pair (.mp 3) (.pair (.vsl 4) (.pair (.dat (.int .i64)) (.pair (.nils) (.dat Qf9))))), .mpd .str .str, .mpd .str .str, .vec QeZ, .vec (.int .i64)], 4⟩
def QT.os : List Out := [⟨.ret, [.freeze (.slot 0), .auto 4], ⟨[.dat (.int .i64)], .pair (.ptr 1 []) (.pair (.dat .str) (.pair (.dat (.int .u64)) (.pair (.nils) (.pair (.vsl 4) (.dat Qf6))))) :: .pair (.mp 2) (.pair (.mp 3) (.pair (.vsl 5) (.pair (.dat (.int .i64)) (.pair (.nils) (.dat Qf9))))) :: .mpd .str .str :: .mpd .str .str :: .vec (.int .i64) :: .vec QeZ :: []⟩⟩, ⟨.ret, [.freeze (.slot 0), .auto 4], ⟨[.dat (.int .i64)], .pair (.ptr 1 []) (.pair (.dat .str) (.pair (.dat (.int .u64)) (.pair (.vsl 4) (.pair (.vsl 5) (.dat Qf6))))) :: .pair (.mp 2) (.pair (.mp 3) (.pair (.vsl 6) (.pair (.dat (.int .i64)) (.pair (.nils) (.dat Qf9))))) :: .mpd .str .str :: .mpd .str .str :: .vec .str :: .vec (.int .i64) :: .vec QeZ :: []⟩⟩]
def QT.sem (k : Nat) : QS := Q17 QT.T QT.os fun x => QT k x.1 x.2.1 x.2.2.1 x.2.2.2.1 x.2.2.2.2.1 x.2.2.2.2.2.1 x.2.2.2.2.2.2.1
noncomputable def QT.ctx (k : Nat) : Ctx := ⟨Try.prog, gam [(58, (QH.sem k)), (7, (Q09.sem k)), (60, (Q0d.sem k)), (59, (Qr.sem k)), (28, (Qm.rsem k))]⟩
theorem QT.gok (k : Nat) : ∀ f, Qu Try.prog f ((QT.ctx k).Γ f) := (Qf (QH.sem_ok k) (Qf (Q09.sem_ok k) (Qf (Q0d.sem_ok k) (Qf (Qr.sem_ok k) (Qf (Qm.rsem_ok k) Q0e)))))
def QT.ann (k : Nat) : Ann := .nil
theorem QT.body (k : Nat) : Q18 (QT.ctx k) Try.f18 (Func.code Try.f18) (QT.ann k) QT.T QT.os (fun x K => QT.c k x.1 x.2.1 x.2.2.1 x.2.2.2.1 x.2.2.2.2.1 x.2.2.2.2.2.1 x.2.2.2.2.2.2.1 K) := by
 intro ρ x K; kernel_rfl
theorem QT.sem_ok (k : Nat) : Qu Try.prog 18 (QT.sem k) :=
 Q0u (C := QT.ctx k) (QT.gok k) Try.mix (c := Func.code Try.f18) (ann := QT.ann k) (T := QT.T) (os := QT.os) (fun x K => QT.c k x.1 x.2.1 x.2.2.1 x.2.2.2.1 x.2.2.2.2.1 x.2.2.2.2.2.1 x.2.2.2.2.2.2.1 K) Try.func18 (by kernel_rfl) (by kernel_rfl) Q2.nil (QT.body k) (by kernel_rfl) (by kernel_rfl) (by kernel_rfl)
abbrev QU.τ : Type := QeM ⊕ QeK 
def QU.c (k : Nat) {ρ : Type} (s : ByteArray) (b0 : Qf0) (b1 : Qf4) (b2 : Qf8) (b3 : Qf8) (b4 : (List ByteArray)) (b5 : (List Int)) (K : QU.τ → Option ρ) : Option ρ :=
  (QI k ((), (b0.2.1, (b0.2.2.1, ((), ((), (b0.2.2.2.2.2.1, (b0.2.2.2.2.2.2.1, ()))))))) ((), ((), ((), (b1.2.2.2.1, ((), (b1.2.2.2.2.2.1, ())))))) b2 b3 b4 b5).bind fun t0 => bif (t0.1 != (0 : Int)) then (K (.inl (t0.1, (((), (t0.2.1.2.1, (t0.2.1.2.2.1, ((), ((), (t0.2.1.2.2.2.2.2.1, (t0.2.1.2.2.2.2.2.2.1, ()))))))), (((), ((), ((), (t0.2.2.1.2.2.2.1, ((), (t0.2.2.1.2.2.2.2.2.1, ())))))), (t0.2.2.2.1, (t0.2.2.2.2.1, (t0.2.2.2.2.2.1, (t0.2.2.2.2.2.2.1, ()))))))))) else (let v1 : Int := t0.2.1.2.2.1
  let v2 : Int := (((List.length t0.2.2.2.2.2.1) : Nat) : Int)
  (Q09 k v1 (IntKind.wrap IntKind.u64 v2) s).bind fun t3 => let v4 : ByteArray := t3.1
  let v5 : Int := t3.2.1
  bif (v5 != (0 : Int)) then (K (.inl (v5, (((), (t0.2.1.2.1, (t0.2.1.2.2.1, ((), ((), (t0.2.1.2.2.2.2.2.1, (t0.2.1.2.2.2.2.2.2.1, ()))))))), (((), ((), ((), (t0.2.2.1.2.2.2.1, ((), (t0.2.2.1.2.2.2.2.2.1, ())))))), (t0.2.2.2.1, (t0.2.2.2.2.1, (t0.2.2.2.2.2.1, (t0.2.2.2.2.2.2.1, ()))))))))) else (let v6 : ByteArray := t0.2.1.2.1
  (Q0r k v6 v4 ((), ((), ((), (t0.2.2.1.2.2.2.1, ((), (t0.2.2.1.2.2.2.2.2.1, ())))))) t0.2.2.2.1 t0.2.2.2.2.1).bind fun t7 => (match t7 with
 | .inl t8 => ((Qs k t8.1 ((), (t0.2.1.2.1, (t0.2.1.2.2.1, ((), ((), (t0.2.1.2.2.2.2.2.1, (t0.2.1.2.2.2.2.2.2.1, ()))))))) ((), ((), ((), (t8.2.1.2.2.2.1, ((), (t8.2.1.2.2.2.2.2.1, ())))))) t8.2.2.1 t8.2.2.2.1 t0.2.2.2.2.2.1 t0.2.2.2.2.2.2.1).bind fun t9 => bif (t9.1 != (0 : Int)) then (K (.inl (t9.1, (((), (t9.2.1.2.1, (t9.2.1.2.2.1, ((), ((), (t9.2.1.2.2.2.2.2.1, (t9.2.1.2.2.2.2.2.2.1, ()))))))), (((), ((), ((), (t9.2.2.1.2.2.2.1, ((), (t9.2.2.1.2.2.2.2.2.1, ())))))), (t9.2.2.2.1, (t9.2.2.2.2.1, (t9.2.2.2.2.2.1, (t9.2.2.2.2.2.2.1, ()))))))))) else (bif (Nat.ble (((List.length t9.2.2.2.2.2.1) + (List.length (List.set (List.replicate 1 ByteArray.empty) 0 s))) * 16) 140737488355328) then (none) else (none)))
 | .inr (t10) => ((Qt k t10.1 ((), (t0.2.1.2.1, (t0.2.1.2.2.1, ((), ((), (t0.2.1.2.2.2.2.2.1, (t0.2.1.2.2.2.2.2.2.1, ()))))))) ((), ((), ((), (t10.2.1.2.2.2.1, ((), (t10.2.1.2.2.2.2.2.1, ())))))) t10.2.2.1 t10.2.2.2.1 t10.2.2.2.2.1 t0.2.2.2.2.2.1 t0.2.2.2.2.2.2.1).bind fun t11 => bif (t11.1 != (0 : Int)) then (K (.inr (t11.1, (((), (t11.2.1.2.1, (t11.2.1.2.2.1, ((), ((), (t11.2.1.2.2.2.2.2.1, (t11.2.1.2.2.2.2.2.2.1, ()))))))), (((), ((), ((), (t11.2.2.1.2.2.2.1, ((), (t11.2.2.1.2.2.2.2.2.1, ())))))), (t11.2.2.2.1, (t11.2.2.2.2.1, (t11.2.2.2.2.2.1, (t11.2.2.2.2.2.2.1, (t11.2.2.2.2.2.2.2.1, ())))))))))) else (bif (Nat.ble (((List.length t11.2.2.2.2.2.1) + (List.length (List.set (List.replicate 1 ByteArray.empty) 0 s))) * 16) 140737488355328) then (none) else (none))))))
def QU (k : Nat) (s : ByteArray) (b0 : Qf0) (b1 : Qf4) (b2 : Qf8) (b3 : Qf8) (b4 : (List ByteArray)) (b5 : (List Int)) : Option QU.τ := QU.c k s b0 b1 b2 b3 b4 b5 some
def QU.T : Q15 := ⟨[.ptr 0 [], .dat .str], [.pair (.ptr 1 []) (.pair (.dat .str) (.pair (.dat (.int .u64)) (.pair (.vsl 4) (.pair (.vsl 5) (.dat Qf6))))), .pair (.mp 2) (.pair (.mp 3) (.pair (.nils) (.pair (.dat (.int .i64)) (.pair (.nils) (.dat Qf9))))), .mpd .str .str, .mpd .str .str, .vec .str, .vec (.int .i64)], 4⟩
def QU.os : List Out := [⟨.ret, [.freeze (.slot 0), .auto 4], ⟨[.dat (.int .i64)], .pair (.ptr 1 []) (.pair (.dat .str) (.pair (.dat (.int .u64)) (.pair (.vsl 4) (.pair (.vsl 5) (.dat Qf6))))) :: .pair (.mp 2) (.pair (.mp 3) (.pair (.nils) (.pair (.dat (.int .i64)) (.pair (.nils) (.dat Qf9))))) :: .mpd .str .str :: .mpd .str .str :: .vec .str :: .vec (.int .i64) :: []⟩⟩, ⟨.ret, [.freeze (.slot 0), .auto 4], ⟨[.dat (.int .i64)], .pair (.ptr 1 []) (.pair (.dat .str) (.pair (.dat (.int .u64)) (.pair (.vsl 4) (.pair (.vsl 5) (.dat Qf6))))) :: .pair (.mp 2) (.pair (.mp 3) (.pair (.vsl 6) (.pair (.dat (.int .i64)) (.pair (.nils) (.dat Qf9))))) :: .mpd .str .str :: .mpd .str .str :: .vec .str :: .vec (.int .i64) :: .vec QeZ :: []⟩⟩]
def QU.sem (k : Nat) : QS := Q17 QU.T QU.os fun x => QU k x.1 x.2.1 x.2.2.1 x.2.2.2.1 x.2.2.2.2.1 x.2.2.2.2.2.1 x.2.2.2.2.2.2.1
noncomputable def QU.ctx (k : Nat) : Ctx := ⟨Try.prog, gam [(58, (QI.sem k)), (7, (Q09.sem k)), (60, (Q0r.sem k)), (59, (Q2c (Q2l Qs.T) (Qs.sem k) (Qt.sem k)))]⟩
theorem QU.gok (k : Nat) : ∀ f, Qu Try.prog f ((QU.ctx k).Γ f) := (Qf (QI.sem_ok k) (Qf (Q09.sem_ok k) (Qf (Q0r.sem_ok k) (Qf (Q1t (Qs.sem_ok k) (Qt.sem_ok k)) Q0e))))
def QU.ann (k : Nat) : Ann := .nil
theorem QU.body (k : Nat) : Q18 (QU.ctx k) Try.f18 (Func.code Try.f18) (QU.ann k) QU.T QU.os (fun x K => QU.c k x.1 x.2.1 x.2.2.1 x.2.2.2.1 x.2.2.2.2.1 x.2.2.2.2.2.1 x.2.2.2.2.2.2.1 K) := by
 intro ρ x K; kernel_rfl
theorem QU.sem_ok (k : Nat) : Qu Try.prog 18 (QU.sem k) :=
 Q0u (C := QU.ctx k) (QU.gok k) Try.mix (c := Func.code Try.f18) (ann := QU.ann k) (T := QU.T) (os := QU.os) (fun x K => QU.c k x.1 x.2.1 x.2.2.1 x.2.2.2.1 x.2.2.2.2.1 x.2.2.2.2.2.1 x.2.2.2.2.2.2.1 K) Try.func18 (by kernel_rfl) (by kernel_rfl) Q2.nil (QU.body k) (by kernel_rfl) (by kernel_rfl) (by kernel_rfl)
abbrev QY.τ : Type := QeK 
def QY.c (k : Nat) {ρ : Type} (s : ByteArray) (b0 : Qf0) (b1 : Qf4) (b2 : Qf8) (b3 : Qf8) (b4 : Qf1) (b5 : (List ByteArray)) (b6 : (List Int)) (K : QY.τ → Option ρ) : Option ρ :=
 (QK k ((), (b0.2.1, (b0.2.2.1, ((), ((), (b0.2.2.2.2.2.1, (b0.2.2.2.2.2.2.1, ()))))))) ((), ((), ((), (b1.2.2.2.1, ((), (b1.2.2.2.2.2.1, ())))))) b2 b3 b4 b5 b6).bind fun t0 => bif (t0.1 != (0 : Int)) then (K (t0.1, (((), (t0.2.1.2.1, (t0.2.1.2.2.1, ((), ((), (t0.2.1.2.2.2.2.2.1, (t0.2.1.2.2.2.2.2.2.1, ()))))))), (((), ((), ((), (t0.2.2.1.2.2.2.1, ((), (t0.2.2.1.2.2.2.2.2.1, ())))))), (t0.2.2.2.1, (t0.2.2.2.2.1, (t0.2.2.2.2.2.1, (t0.2.2.2.2.2.2.1, (t0.2.2.2.2.2.2.2.1, ()))))))))) else (let v1 : Int := t0.2.1.2.2.1
 let v2 : Int := (((List.length t0.2.2.2.2.2.1) : Nat) : Int)
 (Q09 k v1 (IntKind.wrap IntKind.u64 v2) s).bind fun t3 => let v4 : ByteArray := t3.1
 let v5 : Int := t3.2.1
 bif (v5 != (0 : Int)) then (K (v5, (((), (t0.2.1.2.1, (t0.2.1.2.2.1, ((), ((), (t0.2.1.2.2.2.2.2.1, (t0.2.1.2.2.2.2.2.2.1, ()))))))), (((), ((), ((), (t0.2.2.1.2.2.2.1, ((), (t0.2.2.1.2.2.2.2.2.1, ())))))), (t0.2.2.2.1, (t0.2.2.2.2.1, (t0.2.2.2.2.2.1, (t0.2.2.2.2.2.2.1, (t0.2.2.2.2.2.2.2.1, ()))))))))) else (let v6 : ByteArray := t0.2.1.2.1
 (Q0d k v6 v4 ((), ((), ((), (t0.2.2.1.2.2.2.1, ((), (t0.2.2.1.2.2.2.2.2.1, ())))))) t0.2.2.2.1 t0.2.2.2.2.1 t0.2.2.2.2.2.2.2.1).bind fun t7 => (Qt k t7.1 ((), (t0.2.1.2.1, (t0.2.1.2.2.1, ((), ((), (t0.2.1.2.2.2.2.2.1, (t0.2.1.2.2.2.2.2.2.1, ()))))))) ((), ((), ((), (t7.2.1.2.2.2.1, ((), (t7.2.1.2.2.2.2.2.1, ())))))) t7.2.2.1 t7.2.2.2.1 t7.2.2.2.2.1 t0.2.2.2.2.2.1 t0.2.2.2.2.2.2.1).bind fun t8 => bif (t8.1 != (0 : Int)) then (K (t8.1, (((), (t8.2.1.2.1, (t8.2.1.2.2.1, ((), ((), (t8.2.1.2.2.2.2.2.1, (t8.2.1.2.2.2.2.2.2.1, ()))))))), (((), ((), ((), (t8.2.2.1.2.2.2.1, ((), (t8.2.2.1.2.2.2.2.2.1, ())))))), (t8.2.2.2.1, (t8.2.2.2.2.1, (t8.2.2.2.2.2.1, (t8.2.2.2.2.2.2.1, (t8.2.2.2.2.2.2.2.1, ()))))))))) else (bif (Nat.ble (((List.length t8.2.2.2.2.2.1) + (List.length (List.set (List.replicate 1 ByteArray.empty) 0 s))) * 16) 140737488355328) then (none) else (none))))
def QY (k : Nat) (s : ByteArray) (b0 : Qf0) (b1 : Qf4) (b2 : Qf8) (b3 : Qf8) (b4 : Qf1) (b5 : (List ByteArray)) (b6 : (List Int)) : Option QY.τ := QY.c k s b0 b1 b2 b3 b4 b5 b6 some
def QY.T : Q15 := ⟨[.ptr 0 [], .dat .str], [.pair (.ptr 1 []) (.pair (.dat .str) (.pair (.dat (.int .u64)) (.pair (.vsl 5) (.pair (.vsl 6) (.dat Qf6))))), .pair (.mp 2) (.pair (.mp 3) (.pair (.vsl 4) (.pair (.dat (.int .i64)) (.pair (.nils) (.dat Qf9))))), .mpd .str .str, .mpd .str .str, .vec QeZ, .vec .str, .vec (.int .i64)], 4⟩
def QY.os : List Out := [⟨.ret, [.freeze (.slot 0), .auto 4], ⟨[.dat (.int .i64)], .pair (.ptr 1 []) (.pair (.dat .str) (.pair (.dat (.int .u64)) (.pair (.vsl 4) (.pair (.vsl 5) (.dat Qf6))))) :: .pair (.mp 2) (.pair (.mp 3) (.pair (.vsl 6) (.pair (.dat (.int .i64)) (.pair (.nils) (.dat Qf9))))) :: .mpd .str .str :: .mpd .str .str :: .vec .str :: .vec (.int .i64) :: .vec QeZ :: []⟩⟩]
def QY.sem (k : Nat) : QS := Q17 QY.T QY.os fun x => QY k x.1 x.2.1 x.2.2.1 x.2.2.2.1 x.2.2.2.2.1 x.2.2.2.2.2.1 x.2.2.2.2.2.2.1 x.2.2.2.2.2.2.2.1
noncomputable def QY.ctx (k : Nat) : Ctx := ⟨Try.prog, gam [(58, (QK.sem k)), (7, (Q09.sem k)), (60, (Q0d.sem k)), (59, (Qt.sem k))]⟩
theorem QY.gok (k : Nat) : ∀ f, Qu Try.prog f ((QY.ctx k).Γ f) := (Qf (QK.sem_ok k) (Qf (Q09.sem_ok k) (Qf (Q0d.sem_ok k) (Qf (Qt.sem_ok k) Q0e))))
def QY.ann (k : Nat) : Ann := .nil
theorem QY.body (k : Nat) : Q18 (QY.ctx k) Try.f18 (Func.code Try.f18) (QY.ann k) QY.T QY.os (fun x K => QY.c k x.1 x.2.1 x.2.2.1 x.2.2.2.1 x.2.2.2.2.1 x.2.2.2.2.2.1 x.2.2.2.2.2.2.1 x.2.2.2.2.2.2.2.1 K) := by
 intro ρ x K; kernel_rfl
theorem QY.sem_ok (k : Nat) : Qu Try.prog 18 (QY.sem k) :=
 Q0u (C := QY.ctx k) (QY.gok k) Try.mix (c := Func.code Try.f18) (ann := QY.ann k) (T := QY.T) (os := QY.os) (fun x K => QY.c k x.1 x.2.1 x.2.2.1 x.2.2.2.1 x.2.2.2.2.1 x.2.2.2.2.2.1 x.2.2.2.2.2.2.1 x.2.2.2.2.2.2.2.1 K) Try.func18 (by kernel_rfl) (by kernel_rfl) Q2.nil (QY.body k) (by kernel_rfl) (by kernel_rfl) (by kernel_rfl)
def Q03.c (k : Nat) {ρ : Type}  (K : Bool × Unit → Option ρ) : Option ρ :=
  (Q1c k ).bind fun t0 => (Q5 k (⟨(List.toArray [106])⟩ : ByteArray) ((), ((), ((), (t0.1.2.2.2.1, ((), (t0.1.2.2.2.2.2.1, ())))))) t0.2.1 t0.2.2.1).bind fun t1 => (match t1 with
 | .inl t2 => (let v3 : Int := t2.1
  bif (v3 != (0 : Int)) then (K (false, ())) else (K (false, ())))
 | .inr (.inl t4) => (let v5 : Int := t4.1
  bif (v5 != (0 : Int)) then (K (false, ())) else ((Q0b k (⟨(List.toArray [97, 98, 99])⟩ : ByteArray) ((), (t4.2.2.2.2.1.2.1, (t4.2.2.2.2.1.2.2.1, ((), ((), (t4.2.2.2.2.1.2.2.2.2.2.1, (t4.2.2.2.2.1.2.2.2.2.2.2.1, ()))))))) ((), ((), ((), (t4.2.1.2.2.2.1, ((), (t4.2.1.2.2.2.2.2.1, ())))))) t4.2.2.1 t4.2.2.2.1 t4.2.2.2.2.2.1).bind fun t6 => (match t6 with
 | .inl t7 => (bif (t7.1 != (0 : Int)) then (K (false, ())) else ((Q0c k (0 : Int) ((), (t7.2.1.2.1, (t7.2.1.2.2.1, ((), ((), (t7.2.1.2.2.2.2.2.1, (t7.2.1.2.2.2.2.2.2.1, ()))))))) ((), ((), ((), (t7.2.2.1.2.2.2.1, ((), (t7.2.2.1.2.2.2.2.2.1, ())))))) t7.2.2.2.1 t7.2.2.2.2.1 t7.2.2.2.2.2.1).bind fun t8 => let v9 : ByteArray := t8.1
  bif (Q1M v9 (⟨(List.toArray [97, 98, 99])⟩ : ByteArray)) then (bif t8.2.1 then ((QX k ((), (t8.2.2.1.2.1, (t8.2.2.1.2.2.1, ((), ((), (t8.2.2.1.2.2.2.2.2.1, (t8.2.2.1.2.2.2.2.2.2.1, ()))))))) ((), ((), ((), (t8.2.2.2.1.2.2.2.1, ((), (t8.2.2.2.1.2.2.2.2.2.1, ())))))) t8.2.2.2.2.1 t8.2.2.2.2.2.1 t8.2.2.2.2.2.2.1).bind fun t10 => bif (t10.1 == (1 : Int)) then ((QV k ((), (t10.2.1.2.1, (t10.2.1.2.2.1, ((), ((), (t10.2.1.2.2.2.2.2.1, (t10.2.1.2.2.2.2.2.2.1, ()))))))) ((), ((), ((), (t10.2.2.1.2.2.2.1, ((), (t10.2.2.1.2.2.2.2.2.1, ())))))) t10.2.2.2.1 t10.2.2.2.2.1 t10.2.2.2.2.2.1).bind fun t11 => K ((t11.1 == (0 : Int)), ())) else (K (false, ()))) else (K (false, ()))) else (K (false, ()))))
 | .inr (.inl t12) => (bif (t12.1 != (0 : Int)) then (K (false, ())) else ((QO k (0 : Int) ((), (t12.2.1.2.1, (t12.2.1.2.2.1, ((), ((), (t12.2.1.2.2.2.2.2.1, (t12.2.1.2.2.2.2.2.2.1, ()))))))) ((), ((), ((), (t12.2.2.1.2.2.2.1, ((), (t12.2.2.1.2.2.2.2.2.1, ())))))) t12.2.2.2.1 t12.2.2.2.2.1 t12.2.2.2.2.2.1 t12.2.2.2.2.2.2.1).bind fun t13 => let v14 : ByteArray := t13.1
  bif (Q1M v14 (⟨(List.toArray [97, 98, 99])⟩ : ByteArray)) then (bif t13.2.1 then ((QC k ((), (t13.2.2.1.2.1, (t13.2.2.1.2.2.1, ((), ((), (t13.2.2.1.2.2.2.2.2.1, (t13.2.2.1.2.2.2.2.2.2.1, ()))))))) ((), ((), ((), (t13.2.2.2.1.2.2.2.1, ((), (t13.2.2.2.1.2.2.2.2.2.1, ())))))) t13.2.2.2.2.1 t13.2.2.2.2.2.1 t13.2.2.2.2.2.2.1 t13.2.2.2.2.2.2.2.1).bind fun t15 => bif (t15.1 == (1 : Int)) then ((QB k ((), (t15.2.1.2.1, (t15.2.1.2.2.1, ((), ((), (t15.2.1.2.2.2.2.2.1, (t15.2.1.2.2.2.2.2.2.1, ()))))))) ((), ((), ((), (t15.2.2.1.2.2.2.1, ((), (t15.2.2.1.2.2.2.2.2.1, ())))))) t15.2.2.2.1 t15.2.2.2.2.1 t15.2.2.2.2.2.1 t15.2.2.2.2.2.2.1).bind fun t16 => K ((t16.1 == (0 : Int)), ())) else (K (false, ()))) else (K (false, ()))) else (K (false, ()))))
 | .inr (.inr (.inl t17)) => (bif (t17.1 != (0 : Int)) then (K (false, ())) else ((QN k (0 : Int) ((), (t17.2.1.2.1, (t17.2.1.2.2.1, ((), ((), (t17.2.1.2.2.2.2.2.1, (t17.2.1.2.2.2.2.2.2.1, ()))))))) ((), ((), ((), (t17.2.2.1.2.2.2.1, ((), (t17.2.2.1.2.2.2.2.2.1, ())))))) t17.2.2.2.1 t17.2.2.2.2.1 t17.2.2.2.2.2.2.1 t17.2.2.2.2.2.1).bind fun t18 => let v19 : ByteArray := t18.1
  bif (Q1M v19 (⟨(List.toArray [97, 98, 99])⟩ : ByteArray)) then (bif t18.2.1 then ((QD k ((), (t18.2.2.1.2.1, (t18.2.2.1.2.2.1, ((), ((), (t18.2.2.1.2.2.2.2.2.1, (t18.2.2.1.2.2.2.2.2.2.1, ()))))))) ((), ((), ((), (t18.2.2.2.1.2.2.2.1, ((), (t18.2.2.2.1.2.2.2.2.2.1, ())))))) t18.2.2.2.2.1 t18.2.2.2.2.2.1 t18.2.2.2.2.2.2.2.1 t18.2.2.2.2.2.2.1).bind fun t20 => bif (t20.1 == (1 : Int)) then ((QA k ((), (t20.2.1.2.1, (t20.2.1.2.2.1, ((), ((), (t20.2.1.2.2.2.2.2.1, (t20.2.1.2.2.2.2.2.2.1, ()))))))) ((), ((), ((), (t20.2.2.1.2.2.2.1, ((), (t20.2.2.1.2.2.2.2.2.1, ())))))) t20.2.2.2.1 t20.2.2.2.2.1 t20.2.2.2.2.2.2.1 t20.2.2.2.2.2.1).bind fun t21 => (match t21 with
 | .inl t22 => (K ((t22.1 == (0 : Int)), ()))
 | .inr (t23) => (K ((t23.1 == (0 : Int)), ())))) else (K (false, ()))) else (K (false, ()))) else (K (false, ()))))
 | .inr (.inr (.inr (t24))) => (bif (t24.1 != (0 : Int)) then (K (false, ())) else ((QJ k (0 : Int) ((), (t24.2.1.2.1, (t24.2.1.2.2.1, ((), ((), (t24.2.1.2.2.2.2.2.1, (t24.2.1.2.2.2.2.2.2.1, ()))))))) ((), ((), ((), (t24.2.2.1.2.2.2.1, ((), (t24.2.2.1.2.2.2.2.2.1, ())))))) t24.2.2.2.1 t24.2.2.2.2.1 t24.2.2.2.2.2.2.2.1 t24.2.2.2.2.2.1 t24.2.2.2.2.2.2.1).bind fun t25 => let v26 : ByteArray := t25.1
  bif (Q1M v26 (⟨(List.toArray [97, 98, 99])⟩ : ByteArray)) then (bif t25.2.1 then ((Qz k ((), (t25.2.2.1.2.1, (t25.2.2.1.2.2.1, ((), ((), (t25.2.2.1.2.2.2.2.2.1, (t25.2.2.1.2.2.2.2.2.2.1, ()))))))) ((), ((), ((), (t25.2.2.2.1.2.2.2.1, ((), (t25.2.2.2.1.2.2.2.2.2.1, ())))))) t25.2.2.2.2.1 t25.2.2.2.2.2.1 t25.2.2.2.2.2.2.2.2.1 t25.2.2.2.2.2.2.1 t25.2.2.2.2.2.2.2.1).bind fun t27 => bif (t27.1 == (1 : Int)) then ((Qy k ((), (t27.2.1.2.1, (t27.2.1.2.2.1, ((), ((), (t27.2.1.2.2.2.2.2.1, (t27.2.1.2.2.2.2.2.2.1, ()))))))) ((), ((), ((), (t27.2.2.1.2.2.2.1, ((), (t27.2.2.1.2.2.2.2.2.1, ())))))) t27.2.2.2.1 t27.2.2.2.2.1 t27.2.2.2.2.2.2.2.1 t27.2.2.2.2.2.1 t27.2.2.2.2.2.2.1).bind fun t28 => (match t28 with
 | .inl t29 => (K ((t29.1 == (0 : Int)), ()))
 | .inr (t30) => (K ((t30.1 == (0 : Int)), ())))) else (K (false, ()))) else (K (false, ()))) else (K (false, ())))))))
 | .inr (.inr (.inl t31)) => (let v32 : Int := t31.1
  bif (v32 != (0 : Int)) then (K (false, ())) else (K (false, ())))
 | .inr (.inr (.inr (.inl t33))) => (let v34 : Int := t33.1
  bif (v34 != (0 : Int)) then (K (false, ())) else ((QT k (⟨(List.toArray [97, 98, 99])⟩ : ByteArray) ((), (t33.2.2.2.2.2.1.2.1, (t33.2.2.2.2.2.1.2.2.1, ((), ((), (t33.2.2.2.2.2.1.2.2.2.2.2.1, (t33.2.2.2.2.2.1.2.2.2.2.2.2.1, ()))))))) ((), ((), ((), (t33.2.1.2.2.2.1, ((), (t33.2.1.2.2.2.2.2.1, ())))))) t33.2.2.1 t33.2.2.2.1 t33.2.2.2.2.1 t33.2.2.2.2.2.2.1).bind fun t35 => (match t35 with
 | .inl t36 => (bif (t36.1 != (0 : Int)) then (K (false, ())) else ((QN k (0 : Int) ((), (t36.2.1.2.1, (t36.2.1.2.2.1, ((), ((), (t36.2.1.2.2.2.2.2.1, (t36.2.1.2.2.2.2.2.2.1, ()))))))) ((), ((), ((), (t36.2.2.1.2.2.2.1, ((), (t36.2.2.1.2.2.2.2.2.1, ())))))) t36.2.2.2.1 t36.2.2.2.2.1 t36.2.2.2.2.2.2.1 t36.2.2.2.2.2.1).bind fun t37 => let v38 : ByteArray := t37.1
  bif (Q1M v38 (⟨(List.toArray [97, 98, 99])⟩ : ByteArray)) then (bif t37.2.1 then ((QD k ((), (t37.2.2.1.2.1, (t37.2.2.1.2.2.1, ((), ((), (t37.2.2.1.2.2.2.2.2.1, (t37.2.2.1.2.2.2.2.2.2.1, ()))))))) ((), ((), ((), (t37.2.2.2.1.2.2.2.1, ((), (t37.2.2.2.1.2.2.2.2.2.1, ())))))) t37.2.2.2.2.1 t37.2.2.2.2.2.1 t37.2.2.2.2.2.2.2.1 t37.2.2.2.2.2.2.1).bind fun t39 => bif (t39.1 == (1 : Int)) then ((QA k ((), (t39.2.1.2.1, (t39.2.1.2.2.1, ((), ((), (t39.2.1.2.2.2.2.2.1, (t39.2.1.2.2.2.2.2.2.1, ()))))))) ((), ((), ((), (t39.2.2.1.2.2.2.1, ((), (t39.2.2.1.2.2.2.2.2.1, ())))))) t39.2.2.2.1 t39.2.2.2.2.1 t39.2.2.2.2.2.2.1 t39.2.2.2.2.2.1).bind fun t40 => (match t40 with
 | .inl t41 => (K ((t41.1 == (0 : Int)), ()))
 | .inr (t42) => (K ((t42.1 == (0 : Int)), ())))) else (K (false, ()))) else (K (false, ()))) else (K (false, ()))))
 | .inr (t43) => (bif (t43.1 != (0 : Int)) then (K (false, ())) else ((QJ k (0 : Int) ((), (t43.2.1.2.1, (t43.2.1.2.2.1, ((), ((), (t43.2.1.2.2.2.2.2.1, (t43.2.1.2.2.2.2.2.2.1, ()))))))) ((), ((), ((), (t43.2.2.1.2.2.2.1, ((), (t43.2.2.1.2.2.2.2.2.1, ())))))) t43.2.2.2.1 t43.2.2.2.2.1 t43.2.2.2.2.2.2.2.1 t43.2.2.2.2.2.1 t43.2.2.2.2.2.2.1).bind fun t44 => let v45 : ByteArray := t44.1
  bif (Q1M v45 (⟨(List.toArray [97, 98, 99])⟩ : ByteArray)) then (bif t44.2.1 then ((Qz k ((), (t44.2.2.1.2.1, (t44.2.2.1.2.2.1, ((), ((), (t44.2.2.1.2.2.2.2.2.1, (t44.2.2.1.2.2.2.2.2.2.1, ()))))))) ((), ((), ((), (t44.2.2.2.1.2.2.2.1, ((), (t44.2.2.2.1.2.2.2.2.2.1, ())))))) t44.2.2.2.2.1 t44.2.2.2.2.2.1 t44.2.2.2.2.2.2.2.2.1 t44.2.2.2.2.2.2.1 t44.2.2.2.2.2.2.2.1).bind fun t46 => bif (t46.1 == (1 : Int)) then ((Qy k ((), (t46.2.1.2.1, (t46.2.1.2.2.1, ((), ((), (t46.2.1.2.2.2.2.2.1, (t46.2.1.2.2.2.2.2.2.1, ()))))))) ((), ((), ((), (t46.2.2.1.2.2.2.1, ((), (t46.2.2.1.2.2.2.2.2.1, ())))))) t46.2.2.2.1 t46.2.2.2.2.1 t46.2.2.2.2.2.2.2.1 t46.2.2.2.2.2.1 t46.2.2.2.2.2.2.1).bind fun t47 => (match t47 with
 | .inl t48 => (K ((t48.1 == (0 : Int)), ()))
 | .inr (t49) => (K ((t49.1 == (0 : Int)), ())))) else (K (false, ()))) else (K (false, ()))) else (K (false, ())))))))
 | .inr (.inr (.inr (.inr (.inl t50)))) => (let v51 : Int := t50.1
  bif (v51 != (0 : Int)) then (K (false, ())) else ((QU k (⟨(List.toArray [97, 98, 99])⟩ : ByteArray) ((), (t50.2.2.2.2.1.2.1, (t50.2.2.2.2.1.2.2.1, ((), ((), (t50.2.2.2.2.1.2.2.2.2.2.1, (t50.2.2.2.2.1.2.2.2.2.2.2.1, ()))))))) ((), ((), ((), (t50.2.1.2.2.2.1, ((), (t50.2.1.2.2.2.2.2.1, ())))))) t50.2.2.1 t50.2.2.2.1 t50.2.2.2.2.2.1 t50.2.2.2.2.2.2.1).bind fun t52 => (match t52 with
 | .inl t53 => (bif (t53.1 != (0 : Int)) then (K (false, ())) else ((QO k (0 : Int) ((), (t53.2.1.2.1, (t53.2.1.2.2.1, ((), ((), (t53.2.1.2.2.2.2.2.1, (t53.2.1.2.2.2.2.2.2.1, ()))))))) ((), ((), ((), (t53.2.2.1.2.2.2.1, ((), (t53.2.2.1.2.2.2.2.2.1, ())))))) t53.2.2.2.1 t53.2.2.2.2.1 t53.2.2.2.2.2.1 t53.2.2.2.2.2.2.1).bind fun t54 => let v55 : ByteArray := t54.1
  bif (Q1M v55 (⟨(List.toArray [97, 98, 99])⟩ : ByteArray)) then (bif t54.2.1 then ((QC k ((), (t54.2.2.1.2.1, (t54.2.2.1.2.2.1, ((), ((), (t54.2.2.1.2.2.2.2.2.1, (t54.2.2.1.2.2.2.2.2.2.1, ()))))))) ((), ((), ((), (t54.2.2.2.1.2.2.2.1, ((), (t54.2.2.2.1.2.2.2.2.2.1, ())))))) t54.2.2.2.2.1 t54.2.2.2.2.2.1 t54.2.2.2.2.2.2.1 t54.2.2.2.2.2.2.2.1).bind fun t56 => bif (t56.1 == (1 : Int)) then ((QB k ((), (t56.2.1.2.1, (t56.2.1.2.2.1, ((), ((), (t56.2.1.2.2.2.2.2.1, (t56.2.1.2.2.2.2.2.2.1, ()))))))) ((), ((), ((), (t56.2.2.1.2.2.2.1, ((), (t56.2.2.1.2.2.2.2.2.1, ())))))) t56.2.2.2.1 t56.2.2.2.2.1 t56.2.2.2.2.2.1 t56.2.2.2.2.2.2.1).bind fun t57 => K ((t57.1 == (0 : Int)), ())) else (K (false, ()))) else (K (false, ()))) else (K (false, ()))))
 | .inr (t58) => (bif (t58.1 != (0 : Int)) then (K (false, ())) else ((QJ k (0 : Int) ((), (t58.2.1.2.1, (t58.2.1.2.2.1, ((), ((), (t58.2.1.2.2.2.2.2.1, (t58.2.1.2.2.2.2.2.2.1, ()))))))) ((), ((), ((), (t58.2.2.1.2.2.2.1, ((), (t58.2.2.1.2.2.2.2.2.1, ())))))) t58.2.2.2.1 t58.2.2.2.2.1 t58.2.2.2.2.2.2.2.1 t58.2.2.2.2.2.1 t58.2.2.2.2.2.2.1).bind fun t59 => let v60 : ByteArray := t59.1
  bif (Q1M v60 (⟨(List.toArray [97, 98, 99])⟩ : ByteArray)) then (bif t59.2.1 then ((Qz k ((), (t59.2.2.1.2.1, (t59.2.2.1.2.2.1, ((), ((), (t59.2.2.1.2.2.2.2.2.1, (t59.2.2.1.2.2.2.2.2.2.1, ()))))))) ((), ((), ((), (t59.2.2.2.1.2.2.2.1, ((), (t59.2.2.2.1.2.2.2.2.2.1, ())))))) t59.2.2.2.2.1 t59.2.2.2.2.2.1 t59.2.2.2.2.2.2.2.2.1 t59.2.2.2.2.2.2.1 t59.2.2.2.2.2.2.2.1).bind fun t61 => bif (t61.1 == (1 : Int)) then ((Qy k ((), (t61.2.1.2.1, (t61.2.1.2.2.1, ((), ((), (t61.2.1.2.2.2.2.2.1, (t61.2.1.2.2.2.2.2.2.1, ()))))))) ((), ((), ((), (t61.2.2.1.2.2.2.1, ((), (t61.2.2.1.2.2.2.2.2.1, ())))))) t61.2.2.2.1 t61.2.2.2.2.1 t61.2.2.2.2.2.2.2.1 t61.2.2.2.2.2.1 t61.2.2.2.2.2.2.1).bind fun t62 => (match t62 with
 | .inl t63 => (K ((t63.1 == (0 : Int)), ()))
 | .inr (t64) => (K ((t64.1 == (0 : Int)), ())))) else (K (false, ()))) else (K (false, ()))) else (K (false, ())))))))
 | .inr (.inr (.inr (.inr (.inr (t65))))) => (let v66 : Int := t65.1
  bif (v66 != (0 : Int)) then (K (false, ())) else ((QY k (⟨(List.toArray [97, 98, 99])⟩ : ByteArray) ((), (t65.2.2.2.2.2.1.2.1, (t65.2.2.2.2.2.1.2.2.1, ((), ((), (t65.2.2.2.2.2.1.2.2.2.2.2.1, (t65.2.2.2.2.2.1.2.2.2.2.2.2.1, ()))))))) ((), ((), ((), (t65.2.1.2.2.2.1, ((), (t65.2.1.2.2.2.2.2.1, ())))))) t65.2.2.1 t65.2.2.2.1 t65.2.2.2.2.1 t65.2.2.2.2.2.2.1 t65.2.2.2.2.2.2.2.1).bind fun t67 => bif (t67.1 != (0 : Int)) then (K (false, ())) else ((QJ k (0 : Int) ((), (t67.2.1.2.1, (t67.2.1.2.2.1, ((), ((), (t67.2.1.2.2.2.2.2.1, (t67.2.1.2.2.2.2.2.2.1, ()))))))) ((), ((), ((), (t67.2.2.1.2.2.2.1, ((), (t67.2.2.1.2.2.2.2.2.1, ())))))) t67.2.2.2.1 t67.2.2.2.2.1 t67.2.2.2.2.2.2.2.1 t67.2.2.2.2.2.1 t67.2.2.2.2.2.2.1).bind fun t68 => let v69 : ByteArray := t68.1
  bif (Q1M v69 (⟨(List.toArray [97, 98, 99])⟩ : ByteArray)) then (bif t68.2.1 then ((Qz k ((), (t68.2.2.1.2.1, (t68.2.2.1.2.2.1, ((), ((), (t68.2.2.1.2.2.2.2.2.1, (t68.2.2.1.2.2.2.2.2.2.1, ()))))))) ((), ((), ((), (t68.2.2.2.1.2.2.2.1, ((), (t68.2.2.2.1.2.2.2.2.2.1, ())))))) t68.2.2.2.2.1 t68.2.2.2.2.2.1 t68.2.2.2.2.2.2.2.2.1 t68.2.2.2.2.2.2.1 t68.2.2.2.2.2.2.2.1).bind fun t70 => bif (t70.1 == (1 : Int)) then ((Qy k ((), (t70.2.1.2.1, (t70.2.1.2.2.1, ((), ((), (t70.2.1.2.2.2.2.2.1, (t70.2.1.2.2.2.2.2.2.1, ()))))))) ((), ((), ((), (t70.2.2.1.2.2.2.1, ((), (t70.2.2.1.2.2.2.2.2.1, ())))))) t70.2.2.2.1 t70.2.2.2.2.1 t70.2.2.2.2.2.2.2.1 t70.2.2.2.2.2.1 t70.2.2.2.2.2.2.1).bind fun t71 => (match t71 with
 | .inl t72 => (K ((t72.1 == (0 : Int)), ()))
 | .inr (t73) => (K ((t73.1 == (0 : Int)), ())))) else (K (false, ()))) else (K (false, ()))) else (K (false, ()))))))
def Q03 (k : Nat)  : Option (Bool × Unit) := Q03.c k  some
def Q03.tin : List Ty := []
def Q03.tout : List Ty := [.bool]
def Q03.sem (k : Nat) : QS := Q16 Q03.tin Q03.tout fun x => Q03 k 
noncomputable def Q03.ctx (k : Nat) : Ctx := ⟨Try.prog, gam [(15, (Q1c.sem k)), (16, (Q5.sem k)), (18, (Q2c (Q2l Q0b.T) (Q0b.sem k) (Q2c (Q2l QT.T) (QT.sem k) (Q2c (Q2l QU.T) (QU.sem k) (QY.sem k))))), (22, (Q2c (Q2l Q0c.T) (Q0c.sem k) (Q2c (Q2l QO.T) (QO.sem k) (Q2c (Q2l QN.T) (QN.sem k) (QJ.sem k))))), (25, (Q2c (Q2l QX.T) (QX.sem k) (Q2c (Q2l QC.T) (QC.sem k) (Q2c (Q2l QD.T) (QD.sem k) (Qz.sem k))))), (19, (Q2c (Q2l QV.T) (QV.sem k) (Q2c (Q2l QB.T) (QB.sem k) (Q2c (Q2l QA.T) (QA.sem k) (Qy.sem k)))))]⟩
theorem Q03.gok (k : Nat) : ∀ f, Qu Try.prog f ((Q03.ctx k).Γ f) := (Qf (Q1c.sem_ok k) (Qf (Q5.sem_ok k) (Qf (Q1t (Q0b.sem_ok k) (Q1t (QT.sem_ok k) (Q1t (QU.sem_ok k) (QY.sem_ok k)))) (Qf (Q1t (Q0c.sem_ok k) (Q1t (QO.sem_ok k) (Q1t (QN.sem_ok k) (QJ.sem_ok k)))) (Qf (Q1t (QX.sem_ok k) (Q1t (QC.sem_ok k) (Q1t (QD.sem_ok k) (Qz.sem_ok k)))) (Qf (Q1t (QV.sem_ok k) (Q1t (QB.sem_ok k) (Q1t (QA.sem_ok k) (Qy.sem_ok k)))) Q0e))))))
def Q03.ann (k : Nat) : Ann := .nil
theorem Q03.body (k : Nat) : Q1p (Q03.ctx k) Try.f8 (Func.code Try.f8) (Q03.ann k) Q03.tin Q03.tout (fun x K => Q03.c k  K) := by
 intro ρ x K; kernel_rfl
theorem Q03.sem_ok (k : Nat) : Qu Try.prog 8 (Q03.sem k) :=
 Q12 (C := Q03.ctx k) (Q03.gok k) Try.mix (c := Func.code Try.f8) (ann := Q03.ann k) (tin := Q03.tin) (tout := Q03.tout) (fun x K => Q03.c k  K) Try.func8 (by kernel_rfl) (by kernel_rfl) Q2.nil (Q03.body k)
end Go.Am
