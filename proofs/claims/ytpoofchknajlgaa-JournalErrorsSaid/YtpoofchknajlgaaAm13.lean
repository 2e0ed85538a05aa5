/- A part of a proof: a machine of abstract values that tells what functions of the program compute, and the plain facts on them. -/
import Derived.Test.YtpoofchknajlgaaAm12
import Derived.Test.YtpoofchknajlgaaAm7
import Derived.KernelRfl
set_option linter.unusedVariables false
set_option linter.unusedSimpArgs false
set_option linter.unnecessarySimpa false
set_option linter.unusedSectionVars false
namespace Go.Am
abbrev Qg5 : Ty := (.pair .bool .unit)
abbrev Qg4 : Type := (List (ByteArray × ByteArray))
abbrev Qg3 : Type := (ByteArray × (Int × (Int × Unit)))
abbrev Qg2 : Ty := (.pair (.int .i64)  Qg5 )
abbrev Qg1 : Type := (Int ×  Qg3  × Unit)
abbrev Qg0 : Type := (Unit × (Unit × (Unit × (Int × (Unit × (Bool × Unit))))))
abbrev QfZ : Ty := (.pair .str (.pair (.int .i64) (.pair (.int .i64) .unit)))
abbrev QfY : Type := (Int × (ByteArray × (ByteArray × (Int × (ByteArray × Unit)))))
abbrev QfX : Type := (List  QfY )
abbrev QfW : Type := (Unit × (ByteArray × (Int × (Unit × (Unit × (Int × (Bool × Unit)))))))
abbrev QfV : Ty := (.pair (.int .i64) (.pair .str (.pair .str (.pair (.int .i64) (.pair .str .unit)))))
abbrev QfU : Type := ( Qg0  ×  Qg4  ×  Qg4  × Unit)
abbrev QfT : Type := (Int ×  Qg0  ×  Qg4  ×  Qg4  × Unit)
abbrev QfS : Type := (Bool ×  Qg0  ×  Qg4  ×  Qg4  × Unit)
abbrev QfR : Type := (ByteArray ×  Qg0  ×  Qg4  ×  Qg4  × Unit)
abbrev QfQ : Type := (Int × Int ×  Qg0  ×  Qg4  ×  Qg4  × Unit)
abbrev QfP : Type := (ByteArray × Int ×  Qg0  ×  Qg4  ×  Qg4  × Unit)
abbrev QfO : Type := (ByteArray × ByteArray ×  Qg0  ×  Qg4  ×  Qg4  × Unit)
abbrev QfN : Type := ( Qg0  ×  Qg4  ×  Qg4  ×  Qg4  × Unit)
abbrev QfM : Type := ( Qg0  ×  Qg4  ×  Qg4  ×  QfX  × Unit)
abbrev QfL : Type := (Int ×  Qg0  ×  Qg4  ×  Qg4  ×  QfX  × Unit)
abbrev QfK : Type := (Bool ×  Qg0  ×  Qg4  ×  Qg4  ×  QfX  × Unit)
abbrev QfJ : Type := (ByteArray ×  Qg0  ×  Qg4  ×  Qg4  ×  QfX  × Unit)
abbrev QfI : Type := (ByteArray × Int ×  Qg0  ×  Qg4  ×  Qg4  ×  QfX  × Unit)
abbrev QfH : Type := (Int ×  QfW  ×  Qg0  ×  Qg4  ×  Qg4  × (List Int) × Unit)
abbrev QfG : Type := (Int ×  QfW  ×  Qg0  ×  Qg4  ×  Qg4  × (List ByteArray) × (List Int) × Unit)
abbrev QfF : Type := (Int ×  QfW  ×  Qg0  ×  Qg4  ×  Qg4  × (List Int) ×  QfX  × Unit)
end Go.Am
namespace Go.Am
open Go Go.Proofs
set_option maxRecDepth 100000
abbrev Q1u.τ : Type := QfU 
def Q1u.c (k : Nat) {ρ : Type}  (K : Q1u.τ → Option ρ) : Option ρ :=
 K (((), ((), ((), ((0 : Int), ((), (false, ())))))), ([], ([], ())))
def Q1u (k : Nat)  : Option Q1u.τ := Q1u.c k  some
def Q1u.T : Q1g := ⟨[], [], 0⟩
def Q1u.os : List Out := [⟨.ret, [.auto 0], ⟨[.ptr 0 []], [.pair (.mp 1) (.pair (.mp 2) (.pair (.nils) (.pair (.dat (.int .i64)) (.pair (.nils) (.dat Qg5))))), .mpd .str .str, .mpd .str .str]⟩⟩]
def Q1u.sem (k : Nat) : QS := Q1i Q1u.T Q1u.os fun x => Q1u k 
noncomputable def Q1u.ctx (k : Nat) : Ctx := ⟨Try.prog, gam []⟩
theorem Q1u.gok (k : Nat) : ∀ f, Qz Try.prog f ((Q1u.ctx k).Γ f) := Q0f
def Q1u.ann (k : Nat) : Ann := .nil
theorem Q1u.body (k : Nat) : Q1j (Q1u.ctx k) Try.f15 (Func.code Try.f15) (Q1u.ann k) Q1u.T Q1u.os (fun x K => Q1u.c k  K) := by
 intro ρ x K; kernel_rfl
theorem Q1u.sem_ok (k : Nat) : Qz Try.prog 15 (Q1u.sem k) :=
 Q0q (C := Q1u.ctx k) (Q1u.gok k) Try.mix (c := Func.code Try.f15) (ann := Q1u.ann k) (T := Q1u.T) (os := Q1u.os) (fun x K => Q1u.c k  K) Try.func15 (by kernel_rfl) (by kernel_rfl) Q1.nil (Q1u.body k) (by kernel_rfl) (by kernel_rfl) (by kernel_rfl)
abbrev Q0V.τ : Type := (Int × Unit)
def Q0V.c (k : Nat) {ρ : Type} (name : ByteArray) (K : Q0V.τ → Option ρ) : Option ρ :=
 K ((1 : Int), ())
def Q0V (k : Nat) (name : ByteArray) : Option Q0V.τ := Q0V.c k name some
def Q0V.T : Q1g := ⟨[.nilp, .dat .str], [], 0⟩
def Q0V.os : List Out := [⟨.ret, [.freeze (.slot 1), .auto 0], ⟨[.nilp, .dat (.int .i64)], []⟩⟩]
def Q0V.sem (k : Nat) : QS := Q1i Q0V.T Q0V.os fun x => Q0V k x.1
noncomputable def Q0V.ctx (k : Nat) : Ctx := ⟨Try.prog, gam []⟩
theorem Q0V.gok (k : Nat) : ∀ f, Qz Try.prog f ((Q0V.ctx k).Γ f) := Q0f
def Q0V.ann (k : Nat) : Ann := .nil
theorem Q0V.body (k : Nat) : Q1j (Q0V.ctx k) Try.f16 (Func.code Try.f16) (Q0V.ann k) Q0V.T Q0V.os (fun x K => Q0V.c k x.1 K) := by
 intro ρ x K; kernel_rfl
theorem Q0V.sem_ok (k : Nat) : Qz Try.prog 16 (Q0V.sem k) :=
 Q0q (C := Q0V.ctx k) (Q0V.gok k) Try.mix (c := Func.code Try.f16) (ann := Q0V.ann k) (T := Q0V.T) (os := Q0V.os) (fun x K => Q0V.c k x.1 K) Try.func16 (by kernel_rfl) (by kernel_rfl) Q1.nil (Q0V.body k) (by kernel_rfl) (by kernel_rfl) (by kernel_rfl)
abbrev Q0P.τ : Type := QfS 
def Q0P.c (k : Nat) {ρ : Type} (b0 : Qg0) (b1 : Qg4) (b2 : Qg4) (K : Q0P.τ → Option ρ) : Option ρ :=
 K (b0.2.2.2.2.2.1, (((), ((), ((), (b0.2.2.2.1, ((), (b0.2.2.2.2.2.1, ())))))), (b1, (b2, ()))))
def Q0P (k : Nat) (b0 : Qg0) (b1 : Qg4) (b2 : Qg4) : Option Q0P.τ := Q0P.c k b0 b1 b2 some
def Q0P.T : Q1g := ⟨[.ptr 0 []], [.pair (.mp 1) (.pair (.mp 2) (.pair (.nils) (.pair (.dat (.int .i64)) (.pair (.nils) (.dat Qg5))))), .mpd .str .str, .mpd .str .str], 3⟩
def Q0P.os : List Out := [⟨.ret, [.freeze (.slot 0), .auto 3], ⟨[.dat .bool], [.pair (.mp 1) (.pair (.mp 2) (.pair (.nils) (.pair (.dat (.int .i64)) (.pair (.nils) (.dat Qg5))))), .mpd .str .str, .mpd .str .str]⟩⟩]
def Q0P.sem (k : Nat) : QS := Q1i Q0P.T Q0P.os fun x => Q0P k x.1 x.2.1 x.2.2.1
noncomputable def Q0P.ctx (k : Nat) : Ctx := ⟨Try.prog, gam []⟩
theorem Q0P.gok (k : Nat) : ∀ f, Qz Try.prog f ((Q0P.ctx k).Γ f) := Q0f
def Q0P.ann (k : Nat) : Ann := .nil
theorem Q0P.body (k : Nat) : Q1j (Q0P.ctx k) Try.f30 (Func.code Try.f30) (Q0P.ann k) Q0P.T Q0P.os (fun x K => Q0P.c k x.1 x.2.1 x.2.2.1 K) := by
 intro ρ x K; kernel_rfl
theorem Q0P.sem_ok (k : Nat) : Qz Try.prog 30 (Q0P.sem k) :=
 Q0q (C := Q0P.ctx k) (Q0P.gok k) Try.mix (c := Func.code Try.f30) (ann := Q0P.ann k) (T := Q0P.T) (os := Q0P.os) (fun x K => Q0P.c k x.1 x.2.1 x.2.2.1 K) Try.func30 (by kernel_rfl) (by kernel_rfl) Q1.nil (Q0P.body k) (by kernel_rfl) (by kernel_rfl) (by kernel_rfl)
abbrev Ql.p1.σ : Type := ByteArray × (List ByteArray) × Int × Int × Unit
abbrev Ql.p1.τ : Type := (Int × Unit) ⊕ (ByteArray × (List ByteArray) × Int × Int × Unit)
def Ql.p1.r (k : Nat) {ρ : Type} (x : Ql.p1.σ) (K : Ql.p1.τ → Option ρ) : Option ρ :=
 let v1 : Int := (((ByteArray.size x.1) : Nat) : Int)
 bif (decide (v1 < (1 : Int))) then (K (.inl ((70 : Int), ()))) else (let v2 : Int := (((ByteArray.size x.1) : Nat) : Int)
 bif (decide (v2 > (32 : Int))) then (K (.inl ((70 : Int), ()))) else (K (.inr (x.1, (x.2.1, (x.2.2.1, (x.2.2.2.1, ())))))))
def Ql.p1 (k : Nat) (x : Ql.p1.σ) : Option Ql.p1.τ := Ql.p1.r k x some
def Ql.p1.T : StT := ⟨us 4 ++ .dat .str :: us 2 ++ .dat (.sl .str) :: .dat (.int .i64) :: .dat (.int .i64) :: us 43, []⟩
def Ql.p1.os : List Out := [⟨.ret, [.mask [2], .auto 0], ⟨us 2 ++ .dat (.int .i64) :: us 50, []⟩⟩, ⟨.normal, [.mask [4, 7, 8, 9], .auto 0], ⟨us 4 ++ .dat .str :: us 2 ++ .dat (.sl .str) :: .dat (.int .i64) :: .dat (.int .i64) :: us 43, []⟩⟩]
abbrev Ql.l2.σ : Type := ByteArray × (List ByteArray) × Int × Int × Int × Int × Unit
abbrev Ql.l2.τ : Type := (Int × Unit) ⊕ ((List ByteArray) × Int × Int × Unit)
def Ql.l2.r (k : Nat) {ρ : Type} (x : Ql.l2.σ) (kn : Ql.l2.σ → Option ρ) (ke : Ql.l2.τ → Option ρ) : Option ρ :=
 bif (decide (x.2.2.2.2.2.1 < x.2.2.2.2.1)) then (bif (decide (((0 : Int) ≤ x.2.2.2.2.2.1) ∧ (x.2.2.2.2.2.1 < (((ByteArray.size x.1) : Nat) : Int)))) then (let v7 : Int := (Q1I x.1 (Int.toNat x.2.2.2.2.2.1))
 bif (decide (v7 < (97 : Int))) then (bif (decide (v7 < (48 : Int))) then (bif (v7 != (46 : Int)) then (bif (v7 != (45 : Int)) then (ke (.inl ((70 : Int), ()))) else (let v8 : Int := (IntKind.wrap IntKind.i64 (x.2.2.2.2.2.1 + (1 : Int)))
 kn (x.1, (x.2.1, (x.2.2.1, (x.2.2.2.1, (x.2.2.2.2.1, (v8, ())))))))) else (let v9 : Int := (IntKind.wrap IntKind.i64 (x.2.2.2.2.2.1 + (1 : Int)))
 kn (x.1, (x.2.1, (x.2.2.1, (x.2.2.2.1, (x.2.2.2.2.1, (v9, ())))))))) else (bif (decide (v7 > (57 : Int))) then (bif (v7 != (46 : Int)) then (bif (v7 != (45 : Int)) then (ke (.inl ((70 : Int), ()))) else (let v10 : Int := (IntKind.wrap IntKind.i64 (x.2.2.2.2.2.1 + (1 : Int)))
 kn (x.1, (x.2.1, (x.2.2.1, (x.2.2.2.1, (x.2.2.2.2.1, (v10, ())))))))) else (let v11 : Int := (IntKind.wrap IntKind.i64 (x.2.2.2.2.2.1 + (1 : Int)))
 kn (x.1, (x.2.1, (x.2.2.1, (x.2.2.2.1, (x.2.2.2.2.1, (v11, ())))))))) else (let v12 : Int := (IntKind.wrap IntKind.i64 (x.2.2.2.2.2.1 + (1 : Int)))
 kn (x.1, (x.2.1, (x.2.2.1, (x.2.2.2.1, (x.2.2.2.2.1, (v12, ()))))))))) else (bif (decide (v7 > (122 : Int))) then (bif (decide (v7 < (48 : Int))) then (bif (v7 != (46 : Int)) then (bif (v7 != (45 : Int)) then (ke (.inl ((70 : Int), ()))) else (let v13 : Int := (IntKind.wrap IntKind.i64 (x.2.2.2.2.2.1 + (1 : Int)))
 kn (x.1, (x.2.1, (x.2.2.1, (x.2.2.2.1, (x.2.2.2.2.1, (v13, ())))))))) else (let v14 : Int := (IntKind.wrap IntKind.i64 (x.2.2.2.2.2.1 + (1 : Int)))
 kn (x.1, (x.2.1, (x.2.2.1, (x.2.2.2.1, (x.2.2.2.2.1, (v14, ())))))))) else (bif (decide (v7 > (57 : Int))) then (bif (v7 != (46 : Int)) then (bif (v7 != (45 : Int)) then (ke (.inl ((70 : Int), ()))) else (let v15 : Int := (IntKind.wrap IntKind.i64 (x.2.2.2.2.2.1 + (1 : Int)))
 kn (x.1, (x.2.1, (x.2.2.1, (x.2.2.2.1, (x.2.2.2.2.1, (v15, ())))))))) else (let v16 : Int := (IntKind.wrap IntKind.i64 (x.2.2.2.2.2.1 + (1 : Int)))
 kn (x.1, (x.2.1, (x.2.2.1, (x.2.2.2.1, (x.2.2.2.2.1, (v16, ())))))))) else (let v17 : Int := (IntKind.wrap IntKind.i64 (x.2.2.2.2.2.1 + (1 : Int)))
 kn (x.1, (x.2.1, (x.2.2.1, (x.2.2.2.1, (x.2.2.2.2.1, (v17, ()))))))))) else (let v18 : Int := (IntKind.wrap IntKind.i64 (x.2.2.2.2.2.1 + (1 : Int)))
 kn (x.1, (x.2.1, (x.2.2.1, (x.2.2.2.1, (x.2.2.2.2.1, (v18, ()))))))))) else (none)) else (ke (.inr (x.2.1, (x.2.2.1, (x.2.2.2.1, ())))))
def Ql.l2 (k : Nat) : Nat → Ql.l2.σ → Option Ql.l2.τ := Q1p (Ql.l2.r k)
def Ql.l2.T : StT := ⟨us 4 ++ .dat .str :: us 2 ++ .dat (.sl .str) :: .dat (.int .i64) :: .dat (.int .i64) :: us 12 ++ .dat (.int .i64) :: .dat (.int .i64) :: us 29, []⟩
def Ql.l2.os : List Out := [⟨.ret, [.mask [2], .auto 0], ⟨us 2 ++ .dat (.int .i64) :: us 50, []⟩⟩, ⟨(.exit 2), [.mask [7, 8, 9], .auto 0], ⟨us 7 ++ .dat (.sl .str) :: .dat (.int .i64) :: .dat (.int .i64) :: us 43, []⟩⟩]
abbrev Ql.l0.σ : Type := (List ByteArray) × Int × Int × Unit
abbrev Ql.l0.τ : Type := (Int × Unit) ⊕ (Unit)
def Ql.l0.r (k : Nat) {ρ : Type} (x : Ql.l0.σ) (kn : Ql.l0.σ → Option ρ) (ke : Ql.l0.τ → Option ρ) : Option ρ :=
  bif (decide (x.2.2.1 < x.2.1)) then (bif (decide (((0 : Int) ≤ x.2.2.1) ∧ (x.2.2.1 < (((List.length x.1) : Nat) : Int)))) then (let v0 : ByteArray := (List.getD x.1 (Int.toNat x.2.2.1) ByteArray.empty)
  (Ql.p1 k (v0, (x.1, (x.2.1, (x.2.2.1, ()))))).bind fun t3 => (match t3 with
 | .inl t4 => (ke (.inl (t4.1, ())))
 | .inr (t5) => (let v6 : Int := (((ByteArray.size t5.1) : Nat) : Int)
  (Ql.l2 k k (t5.1, (t5.2.1, (t5.2.2.1, (t5.2.2.2.1, (v6, ((0 : Int), ()))))))).bind fun t19 => (match t19 with
 | .inl t20 => (ke (.inl (t20.1, ())))
 | .inr (t21) => (let v22 : Int := (IntKind.wrap IntKind.i64 (t21.2.2.1 + (1 : Int)))
  kn (t21.1, (t21.2.1, (v22, ())))))))) else (none)) else (ke (.inr ()))
def Ql.l0 (k : Nat) : Nat → Ql.l0.σ → Option Ql.l0.τ := Q1p (Ql.l0.r k)
def Ql.l0.T : StT := ⟨us 7 ++ .dat (.sl .str) :: .dat (.int .i64) :: .dat (.int .i64) :: us 43, []⟩
def Ql.l0.os : List Out := [⟨.ret, [.mask [2], .auto 0], ⟨us 2 ++ .dat (.int .i64) :: us 50, []⟩⟩, ⟨(.exit 0), [.mask [], .auto 0], ⟨us 53, []⟩⟩]
def Ql.c (k : Nat) {ρ : Type} (names : (List ByteArray)) (K : Int × Unit → Option ρ) : Option ρ :=
  (Ql.l0 k k (names, ((((List.length names) : Nat) : Int), ((0 : Int), ())))).bind fun t23 => (match t23 with
 | .inl t24 => (K (t24.1, ()))
 | .inr (t25) => (K ((0 : Int), ())))
def Ql (k : Nat) (names : (List ByteArray)) : Option (Int × Unit) := Ql.c k names some
def Ql.tin : List Ty := [(.sl .str)]
def Ql.tout : List Ty := [(.int .i64)]
def Ql.sem (k : Nat) : QS := Q1l Ql.tin Ql.tout fun x => Ql k x.1
noncomputable def Ql.ctx (k : Nat) : Ctx := ⟨Try.prog, gam []⟩
theorem Ql.gok (k : Nat) : ∀ f, Qz Try.prog f ((Ql.ctx k).Γ f) := Q0f
theorem Ql.l2.round (k : Nat) : Q1n (Ql.ctx k) (QV (Func.code Try.f89) [1, 0, 1, 0, 0, 1, 1, 0, 0, 1, 1, 1, 0, 0]) (.nil) Ql.l2.T [.mask [4, 7, 8, 9, 22, 23], .auto 0] Ql.l2.os (Ql.l2.r k) := by
 intro ρ x kn ke; kernel_rfl
theorem Ql.l2.ok (k : Nat) : StOK 0 Try.prog (.loop (QV (Func.code Try.f89) [1, 0, 1, 0, 0, 1, 1, 0, 0, 1, 1, 1, 0, 0])) (Qf Ql.l2.T Ql.l2.os (Ql.l2 k k)) :=
 Q1o (C := Ql.ctx k) (Ql.gok k) Try.mix Q1.nil (by kernel_rfl) (by kernel_rfl) (by kernel_rfl) (Ql.l2.round k) k
theorem Ql.p1.is (k : Nat) : Q1t (Ql.ctx k) (QV (Func.code Try.f89) [1, 0, 1, 0, 0, 1, 1, 0, 0, 1, 0]) (.nil) Ql.p1.T Ql.p1.os (Ql.p1.r k) := by
 intro ρ x K; kernel_rfl
theorem Ql.p1.ok (k : Nat) : StOK 0 Try.prog (QV (Func.code Try.f89) [1, 0, 1, 0, 0, 1, 1, 0, 0, 1, 0]) (Qf Ql.p1.T Ql.p1.os (Ql.p1 k)) :=
 Q1m (C := Ql.ctx k) (T := Ql.p1.T) (os := Ql.p1.os) (Ql.gok k) Try.mix (fun x K => Ql.p1.r k x K) Q1.nil (by kernel_rfl) (by kernel_rfl) (Ql.p1.is k)
theorem Ql.l0.round (k : Nat) : Q1n (Ql.ctx k) (QV (Func.code Try.f89) [1, 0, 1, 0, 0]) (.node [] none (.nil) (.node [] none (.nil) (.node [] none (.node [] none (.node [] none (.nil) (.node [] none (.node [] (some (Qf Ql.p1.T Ql.p1.os (Ql.p1 k))) .nil .nil) (.node [] none (.nil) (.node [] none (.node [] (some (Qf Ql.l2.T Ql.l2.os (Ql.l2 k k))) .nil .nil) (.nil))))) (.nil)) (.nil)))) Ql.l0.T [.mask [7, 8, 9], .auto 0] Ql.l0.os (Ql.l0.r k) := by
 intro ρ x kn ke; kernel_rfl
theorem Ql.l0.ok (k : Nat) : StOK 0 Try.prog (.loop (QV (Func.code Try.f89) [1, 0, 1, 0, 0])) (Qf Ql.l0.T Ql.l0.os (Ql.l0 k k)) :=
 Q1o (C := Ql.ctx k) (Ql.gok k) Try.mix (Q1.seq Q1.nil (Q1.seq Q1.nil (Q1.seq (Q1.block (Q1.seq Q1.nil (Q1.seq (Q1.loop (by kernel_rfl) (Ql.p1.ok k)) (Q1.seq Q1.nil (Q1.block (Q1.loop (by kernel_rfl) (Ql.l2.ok k))))))) Q1.nil))) (by kernel_rfl) (by kernel_rfl) (by kernel_rfl) (Ql.l0.round k) k
def Ql.ann (k : Nat) : Ann := .node [] none (.nil) (.node [] none (.node [] none (.nil) (.node [] none (.node [] (some (Qf Ql.l0.T Ql.l0.os (Ql.l0 k k))) .nil .nil) (.nil))) (.nil))
theorem Ql.body (k : Nat) : Q1M (Ql.ctx k) Try.f89 (Func.code Try.f89) (Ql.ann k) Ql.tin Ql.tout (fun x K => Ql.c k x.1 K) := by
 intro ρ x K; kernel_rfl
theorem Ql.sem_ok (k : Nat) : Qz Try.prog 89 (Ql.sem k) :=
 Q1k (C := Ql.ctx k) (Ql.gok k) Try.mix (c := Func.code Try.f89) (ann := Ql.ann k) (tin := Ql.tin) (tout := Ql.tout) (fun x K => Ql.c k x.1 K) Try.func89 (by kernel_rfl) (by kernel_rfl) (Q1.seq Q1.nil (Q1.seq (Q1.seq Q1.nil (Q1.block (Q1.loop (by kernel_rfl) (Ql.l0.ok k)))) Q1.nil)) (Ql.body k)
abbrev Q0G.τ : Type := QfT 
def Q0G.c (k : Nat) {ρ : Type} (names : (List ByteArray)) (b0 : Qg0) (b1 : Qg4) (b2 : Qg4) (K : Q0G.τ → Option ρ) : Option ρ :=
 (Q0P k ((), ((), ((), (b0.2.2.2.1, ((), (b0.2.2.2.2.2.1, ())))))) b1 b2).bind fun t0 => bif t0.1 then (K ((7 : Int), (((), ((), ((), (t0.2.1.2.2.2.1, ((), (t0.2.1.2.2.2.2.2.1, ())))))), (t0.2.2.1, (t0.2.2.2.1, ()))))) else ((Ql k names).bind fun t1 => K (t1.1, (((), ((), ((), (t0.2.1.2.2.2.1, ((), (t0.2.1.2.2.2.2.2.1, ())))))), (t0.2.2.1, (t0.2.2.2.1, ())))))
def Q0G (k : Nat) (names : (List ByteArray)) (b0 : Qg0) (b1 : Qg4) (b2 : Qg4) : Option Q0G.τ := Q0G.c k names b0 b1 b2 some
def Q0G.T : Q1g := ⟨[.ptr 0 [], .dat (.sl .str)], [.pair (.mp 1) (.pair (.mp 2) (.pair (.nils) (.pair (.dat (.int .i64)) (.pair (.nils) (.dat Qg5))))), .mpd .str .str, .mpd .str .str], 3⟩
def Q0G.os : List Out := [⟨.ret, [.freeze (.slot 0), .auto 3], ⟨[.dat (.int .i64)], [.pair (.mp 1) (.pair (.mp 2) (.pair (.nils) (.pair (.dat (.int .i64)) (.pair (.nils) (.dat Qg5))))), .mpd .str .str, .mpd .str .str]⟩⟩]
def Q0G.sem (k : Nat) : QS := Q1i Q0G.T Q0G.os fun x => Q0G k x.1 x.2.1 x.2.2.1 x.2.2.2.1
noncomputable def Q0G.ctx (k : Nat) : Ctx := ⟨Try.prog, gam [(30, (Q0P.sem k)), (89, (Ql.sem k))]⟩
theorem Q0G.gok (k : Nat) : ∀ f, Qz Try.prog f ((Q0G.ctx k).Γ f) := (Qk (Q0P.sem_ok k) (Qk (Ql.sem_ok k) Q0f))
def Q0G.ann (k : Nat) : Ann := .nil
theorem Q0G.body (k : Nat) : Q1j (Q0G.ctx k) Try.f79 (Func.code Try.f79) (Q0G.ann k) Q0G.T Q0G.os (fun x K => Q0G.c k x.1 x.2.1 x.2.2.1 x.2.2.2.1 K) := by
 intro ρ x K; kernel_rfl
theorem Q0G.sem_ok (k : Nat) : Qz Try.prog 79 (Q0G.sem k) :=
 Q0q (C := Q0G.ctx k) (Q0G.gok k) Try.mix (c := Func.code Try.f79) (ann := Q0G.ann k) (T := Q0G.T) (os := Q0G.os) (fun x K => Q0G.c k x.1 x.2.1 x.2.2.1 x.2.2.2.1 K) Try.func79 (by kernel_rfl) (by kernel_rfl) Q1.nil (Q0G.body k) (by kernel_rfl) (by kernel_rfl) (by kernel_rfl)
abbrev Qv.l0.σ : Type := Bool × Int × Int × Qg0 × Qg4 × Qg4 × Unit
abbrev Qv.l0.τ : Type := QfU 
def Qv.l0.r (k : Nat) {ρ : Type} (x : Qv.l0.σ) (kn : Qv.l0.σ → Option ρ) (ke : Qv.l0.τ → Option ρ) : Option ρ :=
 bif (decide (x.2.2.1 < x.2.1)) then (none) else (ke (((), ((), ((), (x.2.2.2.1.2.2.2.1, ((), (x.2.2.2.1.2.2.2.2.2.1, ())))))), (x.2.2.2.2.1, (x.2.2.2.2.2.1, ()))))
def Qv.l0 (k : Nat) : Nat → Qv.l0.σ → Option Qv.l0.τ := Q1p (Qv.l0.r k)
def Qv.l0.T : StT := ⟨.ptr 0 [] :: .dat .bool :: us 8 ++ .nils :: .dat (.int .i64) :: .dat (.int .i64) :: us 36, [.pair (.mp 1) (.pair (.mp 2) (.pair (.nils) (.pair (.dat (.int .i64)) (.pair (.nils) (.dat Qg5))))), .mpd .str .str, .mpd .str .str]⟩
def Qv.l0.os : List Out := [⟨(.exit 0), [.mask [], .auto 3], ⟨us 49, [.pair (.mp 1) (.pair (.mp 2) (.pair (.nils) (.pair (.dat (.int .i64)) (.pair (.nils) (.dat Qg5))))), .mpd .str .str, .mpd .str .str]⟩⟩]
abbrev Qv.τ : Type := QfS 
def Qv.c (k : Nat) {ρ : Type} (sync : Bool) (b0 : Qg0) (b1 : Qg4) (b2 : Qg4) (K : Qv.τ → Option ρ) : Option ρ :=
 (Qv.l0 k k (sync, ((0 : Int), ((0 : Int), (((), ((), ((), (b0.2.2.2.1, ((), (b0.2.2.2.2.2.1, ())))))), (b1, (b2, ()))))))).bind fun t0 => K (false, (((), ((), ((), (t0.1.2.2.2.1, ((), (t0.1.2.2.2.2.2.1, ())))))), (t0.2.1, (t0.2.2.1, ()))))
def Qv (k : Nat) (sync : Bool) (b0 : Qg0) (b1 : Qg4) (b2 : Qg4) : Option Qv.τ := Qv.c k sync b0 b1 b2 some
def Qv.T : Q1g := ⟨[.ptr 0 [], .dat .bool], [.pair (.mp 1) (.pair (.mp 2) (.pair (.nils) (.pair (.dat (.int .i64)) (.pair (.nils) (.dat Qg5))))), .mpd .str .str, .mpd .str .str], 3⟩
def Qv.os : List Out := [⟨.ret, [.freeze (.slot 0), .auto 3], ⟨[.dat .bool], [.pair (.mp 1) (.pair (.mp 2) (.pair (.nils) (.pair (.dat (.int .i64)) (.pair (.nils) (.dat Qg5))))), .mpd .str .str, .mpd .str .str]⟩⟩]
def Qv.sem (k : Nat) : QS := Q1i Qv.T Qv.os fun x => Qv k x.1 x.2.1 x.2.2.1 x.2.2.2.1
noncomputable def Qv.ctx (k : Nat) : Ctx := ⟨Try.prog, gam []⟩
theorem Qv.gok (k : Nat) : ∀ f, Qz Try.prog f ((Qv.ctx k).Γ f) := Q0f
theorem Qv.l0.round (k : Nat) : Q1n (Qv.ctx k) (QV (Func.code Try.f76) [1, 0, 1, 0, 0]) (.nil) Qv.l0.T [] Qv.l0.os (Qv.l0.r k) := by
 intro ρ x kn ke; kernel_rfl
theorem Qv.l0.ok (k : Nat) : StOK 3 Try.prog (.loop (QV (Func.code Try.f76) [1, 0, 1, 0, 0])) (Qf Qv.l0.T Qv.l0.os (Qv.l0 k k)) :=
 Q1o (C := Qv.ctx k) (Qv.gok k) Try.mix Q1.nil (by kernel_rfl) (by kernel_rfl) (by kernel_rfl) (Qv.l0.round k) k
def Qv.ann (k : Nat) : Ann := .node [] none (.nil) (.node [] none (.node [] none (.nil) (.node [] none (.node [.mask [0, 1, 10, 11, 12], .auto 3] (some (Qf Qv.l0.T Qv.l0.os (Qv.l0 k k))) .nil .nil) (.nil))) (.nil))
theorem Qv.body (k : Nat) : Q1j (Qv.ctx k) Try.f76 (Func.code Try.f76) (Qv.ann k) Qv.T Qv.os (fun x K => Qv.c k x.1 x.2.1 x.2.2.1 x.2.2.2.1 K) := by
 intro ρ x K; kernel_rfl
theorem Qv.sem_ok (k : Nat) : Qz Try.prog 76 (Qv.sem k) :=
 Q0q (C := Qv.ctx k) (Qv.gok k) Try.mix (c := Func.code Try.f76) (ann := Qv.ann k) (T := Qv.T) (os := Qv.os) (fun x K => Qv.c k x.1 x.2.1 x.2.2.1 x.2.2.2.1 K) Try.func76 (by kernel_rfl) (by kernel_rfl) (Q1.seq Q1.nil (Q1.seq (Q1.seq Q1.nil (Q1.block (Q1.loop (by kernel_rfl) (Qv.l0.ok k)))) Q1.nil)) (Qv.body k) (by kernel_rfl) (by kernel_rfl) (by kernel_rfl)
abbrev Q0N.τ : Type := (Qg4 × Unit)
def Q0N.c (k : Nat) {ρ : Type} (c : QfY) (b0 : Qg4) (K : Q0N.τ → Option ρ) : Option ρ :=
 let v0 : Int := c.1
 bif (v0 == (0 : Int)) then (let v1 : ByteArray := c.2.1
 let v2 : ByteArray := (Option.getD (mget Ty.str v1 b0) ByteArray.empty)
 let v3 : ByteArray := c.2.1
 let v4 : Int := c.2.2.2.1
 bif (decide (((0 : Int) ≤ (0 : Int)) ∧ (((0 : Int) ≤ v4) ∧ (v4 ≤ (((ByteArray.size v2) : Nat) : Int))))) then (let v5 : ByteArray := c.2.2.2.2.1
 bif (Nat.ble ((ByteArray.size (ByteArray.extract v2 0 (Int.toNat v4))) + (ByteArray.size v5)) 9223372036854775807) then (let v6 : ByteArray := ((ByteArray.extract v2 0 (Int.toNat v4)) ++ v5)
 let v7 : Int := c.2.2.2.1
 let v8 : ByteArray := c.2.2.2.2.1
 let v9 : Int := (IntKind.wrap IntKind.i64 (v7 + (((ByteArray.size v8) : Nat) : Int)))
 let v10 : Int := (if (v9 < (((ByteArray.size v2) : Nat) : Int)) then v9 else (((ByteArray.size v2) : Nat) : Int))
 bif (decide (((0 : Int) ≤ v10) ∧ ((v10 ≤ (((ByteArray.size v2) : Nat) : Int)) ∧ ((((ByteArray.size v2) : Nat) : Int) ≤ (((ByteArray.size v2) : Nat) : Int))))) then (let v11 : ByteArray := (ByteArray.extract v2 (Int.toNat v10) (Int.toNat (((ByteArray.size v2) : Nat) : Int)))
 bif (Nat.ble ((ByteArray.size v6) + (ByteArray.size v11)) 9223372036854775807) then (let v12 : ByteArray := (v6 ++ v11)
 K ((mset Ty.str v3 v12 b0), ())) else (none)) else (none)) else (none)) else (none)) else (bif (v0 == (1 : Int)) then (let v13 : ByteArray := c.2.1
 let v14 : ByteArray := c.2.1
 let v15 : ByteArray := (Option.getD (mget Ty.str v14 b0) ByteArray.empty)
 let v16 : Int := c.2.2.2.1
 bif (decide (((0 : Int) ≤ (0 : Int)) ∧ (((0 : Int) ≤ v16) ∧ (v16 ≤ (((ByteArray.size v15) : Nat) : Int))))) then (K ((mset Ty.str v13 (ByteArray.extract v15 0 (Int.toNat v16)) b0), ())) else (none)) else (bif (v0 == (2 : Int)) then (let v17 : ByteArray := c.2.1
 let v18 : ByteArray := (Option.getD (mget Ty.str v17 b0) ByteArray.empty)
 let v19 : ByteArray := c.2.1
 let v20 : ByteArray := c.2.2.1
 K ((mset Ty.str v20 v18 (mdel Ty.str v19 b0)), ())) else (bif (v0 == (3 : Int)) then (let v21 : ByteArray := c.2.1
 K ((mdel Ty.str v21 b0), ())) else (K (b0, ())))))
def Q0N (k : Nat) (c : QfY) (b0 : Qg4) : Option Q0N.τ := Q0N.c k c b0 some
def Q0N.T : Q1g := ⟨[.mp 0, .dat QfV], [.mpd .str .str], 1⟩
def Q0N.os : List Out := [⟨.ret, [.auto 1], ⟨[], [.mpd .str .str]⟩⟩]
def Q0N.sem (k : Nat) : QS := Q1i Q0N.T Q0N.os fun x => Q0N k x.1 x.2.1
noncomputable def Q0N.ctx (k : Nat) : Ctx := ⟨Try.prog, gam []⟩
theorem Q0N.gok (k : Nat) : ∀ f, Qz Try.prog f ((Q0N.ctx k).Γ f) := Q0f
def Q0N.ann (k : Nat) : Ann := .nil
theorem Q0N.body (k : Nat) : Q1j (Q0N.ctx k) Try.f77 (Func.code Try.f77) (Q0N.ann k) Q0N.T Q0N.os (fun x K => Q0N.c k x.1 x.2.1 K) := by
 intro ρ x K; kernel_rfl
theorem Q0N.sem_ok (k : Nat) : Qz Try.prog 77 (Q0N.sem k) :=
 Q0q (C := Q0N.ctx k) (Q0N.gok k) Try.mix (c := Func.code Try.f77) (ann := Q0N.ann k) (T := Q0N.T) (os := Q0N.os) (fun x K => Q0N.c k x.1 x.2.1 K) Try.func77 (by kernel_rfl) (by kernel_rfl) Q1.nil (Q0N.body k) (by kernel_rfl) (by kernel_rfl) (by kernel_rfl)
abbrev Q0M.τ : Type := QfT ⊕ QfL 
def Q0M.c (k : Nat) {ρ : Type} (c : QfY) (b0 : Qg0) (b1 : Qg4) (b2 : Qg4) (K : Q0M.τ → Option ρ) : Option ρ :=
 (Qv k false ((), ((), ((), (b0.2.2.2.1, ((), (b0.2.2.2.2.2.1, ())))))) b1 b2).bind fun t0 => bif t0.1 then (K (.inl ((7 : Int), (((), ((), ((), (t0.2.1.2.2.2.1, ((), (t0.2.1.2.2.2.2.2.1, ())))))), (t0.2.2.1, (t0.2.2.2.1, ())))))) else ((Q0N k (c.1, (c.2.1, (c.2.2.1, (c.2.2.2.1, (c.2.2.2.2.1, ()))))) t0.2.2.2.1).bind fun t1 => bif (Nat.ble ((List.length (List.set (List.replicate 1 ((0 : Int), (ByteArray.empty, (ByteArray.empty, ((0 : Int), (ByteArray.empty, ())))))) 0 (c.1, (c.2.1, (c.2.2.1, (c.2.2.2.1, (c.2.2.2.2.1, ()))))))) * 64) 140737488355328) then (let v2 : Int := t0.2.1.2.2.2.1
 let v3 : Int := (IntKind.wrap IntKind.i64 (v2 + (1 : Int)))
 K (.inr ((0 : Int), (((), ((), ((), (v3, ((), (t0.2.1.2.2.2.2.2.1, ())))))), (t0.2.2.1, (t1.1, ((List.set (List.replicate 1 ((0 : Int), (ByteArray.empty, (ByteArray.empty, ((0 : Int), (ByteArray.empty, ())))))) 0 (c.1, (c.2.1, (c.2.2.1, (c.2.2.2.1, (c.2.2.2.2.1, ())))))), ()))))))) else (none))
def Q0M (k : Nat) (c : QfY) (b0 : Qg0) (b1 : Qg4) (b2 : Qg4) : Option Q0M.τ := Q0M.c k c b0 b1 b2 some
def Q0M.T : Q1g := ⟨[.ptr 0 [], .dat QfV], [.pair (.mp 1) (.pair (.mp 2) (.pair (.nils) (.pair (.dat (.int .i64)) (.pair (.nils) (.dat Qg5))))), .mpd .str .str, .mpd .str .str], 3⟩
def Q0M.os : List Out := [⟨.ret, [.freeze (.slot 0), .auto 3], ⟨[.dat (.int .i64)], [.pair (.mp 1) (.pair (.mp 2) (.pair (.nils) (.pair (.dat (.int .i64)) (.pair (.nils) (.dat Qg5))))), .mpd .str .str, .mpd .str .str]⟩⟩, ⟨.ret, [.freeze (.slot 0), .auto 3], ⟨[.dat (.int .i64)], [.pair (.mp 1) (.pair (.mp 2) (.pair (.vsl 3) (.pair (.dat (.int .i64)) (.pair (.nils) (.dat Qg5))))), .mpd .str .str, .mpd .str .str, .vec QfV]⟩⟩]
def Q0M.sem (k : Nat) : QS := Q1i Q0M.T Q0M.os fun x => Q0M k x.1 x.2.1 x.2.2.1 x.2.2.2.1
noncomputable def Q0M.ctx (k : Nat) : Ctx := ⟨Try.prog, gam [(76, (Qv.sem k)), (77, (Q0N.sem k))]⟩
theorem Q0M.gok (k : Nat) : ∀ f, Qz Try.prog f ((Q0M.ctx k).Γ f) := (Qk (Qv.sem_ok k) (Qk (Q0N.sem_ok k) Q0f))
def Q0M.ann (k : Nat) : Ann := .nil
theorem Q0M.body (k : Nat) : Q1j (Q0M.ctx k) Try.f74 (Func.code Try.f74) (Q0M.ann k) Q0M.T Q0M.os (fun x K => Q0M.c k x.1 x.2.1 x.2.2.1 x.2.2.2.1 K) := by
 intro ρ x K; kernel_rfl
theorem Q0M.sem_ok (k : Nat) : Qz Try.prog 74 (Q0M.sem k) :=
 Q0q (C := Q0M.ctx k) (Q0M.gok k) Try.mix (c := Func.code Try.f74) (ann := Q0M.ann k) (T := Q0M.T) (os := Q0M.os) (fun x K => Q0M.c k x.1 x.2.1 x.2.2.1 x.2.2.2.1 K) Try.func74 (by kernel_rfl) (by kernel_rfl) Q1.nil (Q0M.body k) (by kernel_rfl) (by kernel_rfl) (by kernel_rfl)
abbrev Q0a.τ : Type := QfT ⊕ QfL 
def Q0a.c (k : Nat) {ρ : Type} (name : ByteArray) (at_2 : Int) (s : ByteArray) (b0 : Qg0) (b1 : Qg4) (b2 : Qg4) (K : Q0a.τ → Option ρ) : Option ρ :=
  (Q0G k (List.set (List.replicate 1 ByteArray.empty) 0 name) ((), ((), ((), (b0.2.2.2.1, ((), (b0.2.2.2.2.2.1, ())))))) b1 b2).bind fun t0 => bif (t0.1 != (0 : Int)) then (K (.inl (t0.1, (((), ((), ((), (t0.2.1.2.2.2.1, ((), (t0.2.1.2.2.2.2.2.1, ())))))), (t0.2.2.1, (t0.2.2.2.1, ())))))) else (let v1 : ByteArray := (Option.getD (mget Ty.str name t0.2.2.2.1) ByteArray.empty)
  bif (decide (at_2 < (0 : Int))) then (K (.inl ((1 : Int), (((), ((), ((), (t0.2.1.2.2.2.1, ((), (t0.2.1.2.2.2.2.2.1, ())))))), (t0.2.2.1, (t0.2.2.2.1, ())))))) else (bif (decide (at_2 > (((ByteArray.size v1) : Nat) : Int))) then (K (.inl ((1 : Int), (((), ((), ((), (t0.2.1.2.2.2.1, ((), (t0.2.1.2.2.2.2.2.1, ())))))), (t0.2.2.1, (t0.2.2.2.1, ())))))) else (let v2 : Int := (IntKind.wrap IntKind.i64 ((16777216 : Int) - at_2))
  bif (decide ((((ByteArray.size s) : Nat) : Int) > v2)) then (K (.inl ((71 : Int), (((), ((), ((), (t0.2.1.2.2.2.1, ((), (t0.2.1.2.2.2.2.2.1, ())))))), (t0.2.2.1, (t0.2.2.2.1, ())))))) else (bif (!(Option.isSome (mget Ty.str name t0.2.2.2.1))) then (let v3 : Int := (((List.length t0.2.2.2.1) : Nat) : Int)
  bif (decide (v3 ≥ (64 : Int))) then (K (.inl ((71 : Int), (((), ((), ((), (t0.2.1.2.2.2.1, ((), (t0.2.1.2.2.2.2.2.1, ())))))), (t0.2.2.1, (t0.2.2.2.1, ())))))) else ((Q0M k ((0 : Int), (name, ((⟨(List.toArray [])⟩ : ByteArray), (at_2, (s, ()))))) ((), ((), ((), (t0.2.1.2.2.2.1, ((), (t0.2.1.2.2.2.2.2.1, ())))))) t0.2.2.1 t0.2.2.2.1).bind fun t4 => (match t4 with
 | .inl t5 => (K (.inl (t5.1, (((), ((), ((), (t5.2.1.2.2.2.1, ((), (t5.2.1.2.2.2.2.2.1, ())))))), (t5.2.2.1, (t5.2.2.2.1, ()))))))
 | .inr (t6) => (K (.inr (t6.1, (((), ((), ((), (t6.2.1.2.2.2.1, ((), (t6.2.1.2.2.2.2.2.1, ())))))), (t6.2.2.1, (t6.2.2.2.1, (t6.2.2.2.2.1, ())))))))))) else ((Q0M k ((0 : Int), (name, ((⟨(List.toArray [])⟩ : ByteArray), (at_2, (s, ()))))) ((), ((), ((), (t0.2.1.2.2.2.1, ((), (t0.2.1.2.2.2.2.2.1, ())))))) t0.2.2.1 t0.2.2.2.1).bind fun t7 => (match t7 with
 | .inl t8 => (K (.inl (t8.1, (((), ((), ((), (t8.2.1.2.2.2.1, ((), (t8.2.1.2.2.2.2.2.1, ())))))), (t8.2.2.1, (t8.2.2.2.1, ()))))))
 | .inr (t9) => (K (.inr (t9.1, (((), ((), ((), (t9.2.1.2.2.2.1, ((), (t9.2.1.2.2.2.2.2.1, ())))))), (t9.2.2.1, (t9.2.2.2.1, (t9.2.2.2.2.1, ())))))))))))))
def Q0a (k : Nat) (name : ByteArray) (at_2 : Int) (s : ByteArray) (b0 : Qg0) (b1 : Qg4) (b2 : Qg4) : Option Q0a.τ := Q0a.c k name at_2 s b0 b1 b2 some
def Q0a.T : Q1g := ⟨[.ptr 0 [], .dat .str, .dat (.int .i64), .dat .str], [.pair (.mp 1) (.pair (.mp 2) (.pair (.nils) (.pair (.dat (.int .i64)) (.pair (.nils) (.dat Qg5))))), .mpd .str .str, .mpd .str .str], 3⟩
def Q0a.os : List Out := [⟨.ret, [.freeze (.slot 0), .auto 3], ⟨[.dat (.int .i64)], [.pair (.mp 1) (.pair (.mp 2) (.pair (.nils) (.pair (.dat (.int .i64)) (.pair (.nils) (.dat Qg5))))), .mpd .str .str, .mpd .str .str]⟩⟩, ⟨.ret, [.freeze (.slot 0), .auto 3], ⟨[.dat (.int .i64)], [.pair (.mp 1) (.pair (.mp 2) (.pair (.vsl 3) (.pair (.dat (.int .i64)) (.pair (.nils) (.dat Qg5))))), .mpd .str .str, .mpd .str .str, .vec QfV]⟩⟩]
def Q0a.sem (k : Nat) : QS := Q1i Q0a.T Q0a.os fun x => Q0a k x.1 x.2.1 x.2.2.1 x.2.2.2.1 x.2.2.2.2.1 x.2.2.2.2.2.1
noncomputable def Q0a.ctx (k : Nat) : Ctx := ⟨Try.prog, gam [(79, (Q0G.sem k)), (74, (Q0M.sem k))]⟩
theorem Q0a.gok (k : Nat) : ∀ f, Qz Try.prog f ((Q0a.ctx k).Γ f) := (Qk (Q0G.sem_ok k) (Qk (Q0M.sem_ok k) Q0f))
def Q0a.ann (k : Nat) : Ann := .nil
theorem Q0a.body (k : Nat) : Q1j (Q0a.ctx k) Try.f72 (Func.code Try.f72) (Q0a.ann k) Q0a.T Q0a.os (fun x K => Q0a.c k x.1 x.2.1 x.2.2.1 x.2.2.2.1 x.2.2.2.2.1 x.2.2.2.2.2.1 K) := by
 intro ρ x K; kernel_rfl
theorem Q0a.sem_ok (k : Nat) : Qz Try.prog 72 (Q0a.sem k) :=
 Q0q (C := Q0a.ctx k) (Q0a.gok k) Try.mix (c := Func.code Try.f72) (ann := Q0a.ann k) (T := Q0a.T) (os := Q0a.os) (fun x K => Q0a.c k x.1 x.2.1 x.2.2.1 x.2.2.2.1 x.2.2.2.2.1 x.2.2.2.2.2.1 K) Try.func72 (by kernel_rfl) (by kernel_rfl) Q1.nil (Q0a.body k) (by kernel_rfl) (by kernel_rfl) (by kernel_rfl)
def Q19.c (k : Nat) {ρ : Type} (name : ByteArray) (K : Bool × Unit → Option ρ) : Option ρ :=
  (Q1u k ).bind fun t0 => (Q0a k name (0 : Int) (⟨(List.toArray [])⟩ : ByteArray) ((), ((), ((), (t0.1.2.2.2.1, ((), (t0.1.2.2.2.2.2.1, ())))))) t0.2.1 t0.2.2.1).bind fun t1 => (match t1 with
 | .inl t2 => (K ((t2.1 == (0 : Int)), ()))
 | .inr (t3) => (K ((t3.1 == (0 : Int)), ())))
def Q19 (k : Nat) (name : ByteArray) : Option (Bool × Unit) := Q19.c k name some
def Q19.tin : List Ty := [.str]
def Q19.tout : List Ty := [.bool]
def Q19.sem (k : Nat) : QS := Q1l Q19.tin Q19.tout fun x => Q19 k x.1
noncomputable def Q19.ctx (k : Nat) : Ctx := ⟨Try.prog, gam [(15, (Q1u.sem k)), (72, (Q0a.sem k))]⟩
theorem Q19.gok (k : Nat) : ∀ f, Qz Try.prog f ((Q19.ctx k).Γ f) := (Qk (Q1u.sem_ok k) (Qk (Q0a.sem_ok k) Q0f))
def Q19.ann (k : Nat) : Ann := .nil
theorem Q19.body (k : Nat) : Q1M (Q19.ctx k) Try.f50 (Func.code Try.f50) (Q19.ann k) Q19.tin Q19.tout (fun x K => Q19.c k x.1 K) := by
 intro ρ x K; kernel_rfl
theorem Q19.sem_ok (k : Nat) : Qz Try.prog 50 (Q19.sem k) :=
 Q1k (C := Q19.ctx k) (Q19.gok k) Try.mix (c := Func.code Try.f50) (ann := Q19.ann k) (tin := Q19.tin) (tout := Q19.tout) (fun x K => Q19.c k x.1 K) Try.func50 (by kernel_rfl) (by kernel_rfl) Q1.nil (Q19.body k)
abbrev Q0k.τ : Type := QfP 
def Q0k.c (k : Nat) {ρ : Type} (name : ByteArray) (b0 : Qg0) (b1 : Qg4) (b2 : Qg4) (K : Q0k.τ → Option ρ) : Option ρ :=
 (Q0G k (List.set (List.replicate 1 ByteArray.empty) 0 name) ((), ((), ((), (b0.2.2.2.1, ((), (b0.2.2.2.2.2.1, ())))))) b1 b2).bind fun t0 => bif (t0.1 != (0 : Int)) then (K ((⟨(List.toArray [])⟩ : ByteArray), (t0.1, (((), ((), ((), (t0.2.1.2.2.2.1, ((), (t0.2.1.2.2.2.2.2.1, ())))))), (t0.2.2.1, (t0.2.2.2.1, ())))))) else (let v1 : ByteArray := (Option.getD (mget Ty.str name t0.2.2.2.1) ByteArray.empty)
 bif (!(Option.isSome (mget Ty.str name t0.2.2.2.1))) then (K ((⟨(List.toArray [])⟩ : ByteArray), ((2 : Int), (((), ((), ((), (t0.2.1.2.2.2.1, ((), (t0.2.1.2.2.2.2.2.1, ())))))), (t0.2.2.1, (t0.2.2.2.1, ())))))) else (K (v1, ((0 : Int), (((), ((), ((), (t0.2.1.2.2.2.1, ((), (t0.2.1.2.2.2.2.2.1, ())))))), (t0.2.2.1, (t0.2.2.2.1, ())))))))
def Q0k (k : Nat) (name : ByteArray) (b0 : Qg0) (b1 : Qg4) (b2 : Qg4) : Option Q0k.τ := Q0k.c k name b0 b1 b2 some
def Q0k.T : Q1g := ⟨[.ptr 0 [], .dat .str], [.pair (.mp 1) (.pair (.mp 2) (.pair (.nils) (.pair (.dat (.int .i64)) (.pair (.nils) (.dat Qg5))))), .mpd .str .str, .mpd .str .str], 3⟩
def Q0k.os : List Out := [⟨.ret, [.freeze (.slot 0), .freeze (.slot 1), .auto 3], ⟨[.dat .str, .dat (.int .i64)], [.pair (.mp 1) (.pair (.mp 2) (.pair (.nils) (.pair (.dat (.int .i64)) (.pair (.nils) (.dat Qg5))))), .mpd .str .str, .mpd .str .str]⟩⟩]
def Q0k.sem (k : Nat) : QS := Q1i Q0k.T Q0k.os fun x => Q0k k x.1 x.2.1 x.2.2.1 x.2.2.2.1
noncomputable def Q0k.ctx (k : Nat) : Ctx := ⟨Try.prog, gam [(79, (Q0G.sem k))]⟩
theorem Q0k.gok (k : Nat) : ∀ f, Qz Try.prog f ((Q0k.ctx k).Γ f) := (Qk (Q0G.sem_ok k) Q0f)
def Q0k.ann (k : Nat) : Ann := .nil
theorem Q0k.body (k : Nat) : Q1j (Q0k.ctx k) Try.f73 (Func.code Try.f73) (Q0k.ann k) Q0k.T Q0k.os (fun x K => Q0k.c k x.1 x.2.1 x.2.2.1 x.2.2.2.1 K) := by
 intro ρ x K; kernel_rfl
theorem Q0k.sem_ok (k : Nat) : Qz Try.prog 73 (Q0k.sem k) :=
 Q0q (C := Q0k.ctx k) (Q0k.gok k) Try.mix (c := Func.code Try.f73) (ann := Q0k.ann k) (T := Q0k.T) (os := Q0k.os) (fun x K => Q0k.c k x.1 x.2.1 x.2.2.1 x.2.2.2.1 K) Try.func73 (by kernel_rfl) (by kernel_rfl) Q1.nil (Q0k.body k) (by kernel_rfl) (by kernel_rfl) (by kernel_rfl)
abbrev Q0K.τ : Type := QfP 
def Q0K.c (k : Nat) {ρ : Type} (name : ByteArray) (b0 : Qg0) (b1 : Qg4) (b2 : Qg4) (K : Q0K.τ → Option ρ) : Option ρ :=
 (Q0k k name ((), ((), ((), (b0.2.2.2.1, ((), (b0.2.2.2.2.2.1, ())))))) b1 b2).bind fun t0 => let v1 : ByteArray := t0.1
 let v2 : Int := t0.2.1
 K (v1, (v2, (((), ((), ((), (t0.2.2.1.2.2.2.1, ((), (t0.2.2.1.2.2.2.2.2.1, ())))))), (t0.2.2.2.1, (t0.2.2.2.2.1, ())))))
def Q0K (k : Nat) (name : ByteArray) (b0 : Qg0) (b1 : Qg4) (b2 : Qg4) : Option Q0K.τ := Q0K.c k name b0 b1 b2 some
def Q0K.T : Q1g := ⟨[.ptr 0 [], .dat .str], [.pair (.mp 1) (.pair (.mp 2) (.pair (.nils) (.pair (.dat (.int .i64)) (.pair (.nils) (.dat Qg5))))), .mpd .str .str, .mpd .str .str], 3⟩
def Q0K.os : List Out := [⟨.ret, [.freeze (.slot 0), .freeze (.slot 1), .auto 3], ⟨[.dat .str, .dat (.int .i64)], [.pair (.mp 1) (.pair (.mp 2) (.pair (.nils) (.pair (.dat (.int .i64)) (.pair (.nils) (.dat Qg5))))), .mpd .str .str, .mpd .str .str]⟩⟩]
def Q0K.sem (k : Nat) : QS := Q1i Q0K.T Q0K.os fun x => Q0K k x.1 x.2.1 x.2.2.1 x.2.2.2.1
noncomputable def Q0K.ctx (k : Nat) : Ctx := ⟨Try.prog, gam [(73, (Q0k.sem k))]⟩
theorem Q0K.gok (k : Nat) : ∀ f, Qz Try.prog f ((Q0K.ctx k).Γ f) := (Qk (Q0k.sem_ok k) Q0f)
def Q0K.ann (k : Nat) : Ann := .nil
theorem Q0K.body (k : Nat) : Q1j (Q0K.ctx k) Try.f51 (Func.code Try.f51) (Q0K.ann k) Q0K.T Q0K.os (fun x K => Q0K.c k x.1 x.2.1 x.2.2.1 x.2.2.2.1 K) := by
 intro ρ x K; kernel_rfl
theorem Q0K.sem_ok (k : Nat) : Qz Try.prog 51 (Q0K.sem k) :=
 Q0q (C := Q0K.ctx k) (Q0K.gok k) Try.mix (c := Func.code Try.f51) (ann := Q0K.ann k) (T := Q0K.T) (os := Q0K.os) (fun x K => Q0K.c k x.1 x.2.1 x.2.2.1 x.2.2.2.1 K) Try.func51 (by kernel_rfl) (by kernel_rfl) Q1.nil (Q0K.body k) (by kernel_rfl) (by kernel_rfl) (by kernel_rfl)
abbrev Q12.τ : Type := (Qg3 × Unit)
def Q12.c (k : Nat) {ρ : Type} (s : ByteArray) (K : Q12.τ → Option ρ) : Option ρ :=
 K ((s, ((0 : Int), ((0 : Int), ()))), ())
def Q12 (k : Nat) (s : ByteArray) : Option Q12.τ := Q12.c k s some
def Q12.T : Q1g := ⟨[.dat .str], [], 0⟩
def Q12.os : List Out := [⟨.ret, [.auto 0], ⟨[.ptr 0 []], [.dat QfZ]⟩⟩]
def Q12.sem (k : Nat) : QS := Q1i Q12.T Q12.os fun x => Q12 k x.1
noncomputable def Q12.ctx (k : Nat) : Ctx := ⟨Try.prog, gam []⟩
theorem Q12.gok (k : Nat) : ∀ f, Qz Try.prog f ((Q12.ctx k).Γ f) := Q0f
def Q12.ann (k : Nat) : Ann := .nil
theorem Q12.body (k : Nat) : Q1j (Q12.ctx k) Try.f43 (Func.code Try.f43) (Q12.ann k) Q12.T Q12.os (fun x K => Q12.c k x.1 K) := by
 intro ρ x K; kernel_rfl
theorem Q12.sem_ok (k : Nat) : Qz Try.prog 43 (Q12.sem k) :=
 Q0q (C := Q12.ctx k) (Q12.gok k) Try.mix (c := Func.code Try.f43) (ann := Q12.ann k) (T := Q12.T) (os := Q12.os) (fun x K => Q12.c k x.1 K) Try.func43 (by kernel_rfl) (by kernel_rfl) Q1.nil (Q12.body k) (by kernel_rfl) (by kernel_rfl) (by kernel_rfl)
abbrev Q0S.τ : Type := Qg1 
def Q0S.c (k : Nat) {ρ : Type} (b0 : Qg3) (K : Q0S.τ → Option ρ) : Option ρ :=
 let v0 : Int := b0.2.2.1
 K (v0, ((b0.1, (b0.2.1, (b0.2.2.1, ()))), ()))
def Q0S (k : Nat) (b0 : Qg3) : Option Q0S.τ := Q0S.c k b0 some
def Q0S.T : Q1g := ⟨[.ptr 0 []], [.dat QfZ], 1⟩
def Q0S.os : List Out := [⟨.ret, [.freeze (.slot 0), .auto 1], ⟨[.dat (.int .i64)], [.dat QfZ]⟩⟩]
def Q0S.sem (k : Nat) : QS := Q1i Q0S.T Q0S.os fun x => Q0S k x.1
noncomputable def Q0S.ctx (k : Nat) : Ctx := ⟨Try.prog, gam []⟩
theorem Q0S.gok (k : Nat) : ∀ f, Qz Try.prog f ((Q0S.ctx k).Γ f) := Q0f
def Q0S.ann (k : Nat) : Ann := .nil
theorem Q0S.body (k : Nat) : Q1j (Q0S.ctx k) Try.f47 (Func.code Try.f47) (Q0S.ann k) Q0S.T Q0S.os (fun x K => Q0S.c k x.1 K) := by
 intro ρ x K; kernel_rfl
theorem Q0S.sem_ok (k : Nat) : Qz Try.prog 47 (Q0S.sem k) :=
 Q0q (C := Q0S.ctx k) (Q0S.gok k) Try.mix (c := Func.code Try.f47) (ann := Q0S.ann k) (T := Q0S.T) (os := Q0S.os) (fun x K => Q0S.c k x.1 K) Try.func47 (by kernel_rfl) (by kernel_rfl) Q1.nil (Q0S.body k) (by kernel_rfl) (by kernel_rfl) (by kernel_rfl)
abbrev Q0U.τ : Type := Qg1 
def Q0U.c (k : Nat) {ρ : Type} (b0 : Qg3) (K : Q0U.τ → Option ρ) : Option ρ :=
 let v0 : ByteArray := b0.1
 let v1 : Int := b0.2.1
 let v2 : Int := (IntKind.wrap IntKind.i64 ((((ByteArray.size v0) : Nat) : Int) - v1))
 K (v2, ((b0.1, (b0.2.1, (b0.2.2.1, ()))), ()))
def Q0U (k : Nat) (b0 : Qg3) : Option Q0U.τ := Q0U.c k b0 some
def Q0U.T : Q1g := ⟨[.ptr 0 []], [.dat QfZ], 1⟩
def Q0U.os : List Out := [⟨.ret, [.freeze (.slot 0), .auto 1], ⟨[.dat (.int .i64)], [.dat QfZ]⟩⟩]
def Q0U.sem (k : Nat) : QS := Q1i Q0U.T Q0U.os fun x => Q0U k x.1
noncomputable def Q0U.ctx (k : Nat) : Ctx := ⟨Try.prog, gam []⟩
theorem Q0U.gok (k : Nat) : ∀ f, Qz Try.prog f ((Q0U.ctx k).Γ f) := Q0f
def Q0U.ann (k : Nat) : Ann := .nil
theorem Q0U.body (k : Nat) : Q1j (Q0U.ctx k) Try.f71 (Func.code Try.f71) (Q0U.ann k) Q0U.T Q0U.os (fun x K => Q0U.c k x.1 K) := by
 intro ρ x K; kernel_rfl
theorem Q0U.sem_ok (k : Nat) : Qz Try.prog 71 (Q0U.sem k) :=
 Q0q (C := Q0U.ctx k) (Q0U.gok k) Try.mix (c := Func.code Try.f71) (ann := Q0U.ann k) (T := Q0U.T) (os := Q0U.os) (fun x K => Q0U.c k x.1 K) Try.func71 (by kernel_rfl) (by kernel_rfl) Q1.nil (Q0U.body k) (by kernel_rfl) (by kernel_rfl) (by kernel_rfl)
abbrev Q0n.τ : Type := (ByteArray × Qg3 × Unit)
def Q0n.c (k : Nat) {ρ : Type} (n : Int) (b0 : Qg3) (K : Q0n.τ → Option ρ) : Option ρ :=
 (Q0S k (b0.1, (b0.2.1, (b0.2.2.1, ())))).bind fun t0 => bif (t0.1 != (0 : Int)) then (K ((⟨(List.toArray [])⟩ : ByteArray), ((t0.2.1.1, (t0.2.1.2.1, (t0.2.1.2.2.1, ()))), ()))) else (bif (decide (n < (0 : Int))) then (K ((⟨(List.toArray [])⟩ : ByteArray), ((t0.2.1.1, (t0.2.1.2.1, ((1 : Int), ()))), ()))) else ((Q0U k (t0.2.1.1, (t0.2.1.2.1, (t0.2.1.2.2.1, ())))).bind fun t1 => bif (decide (n > t1.1)) then (K ((⟨(List.toArray [])⟩ : ByteArray), ((t1.2.1.1, (t1.2.1.2.1, ((4 : Int), ()))), ()))) else (let v2 : Int := t1.2.1.2.1
 let v3 : Int := (IntKind.wrap IntKind.i64 (v2 + n))
 let v4 : ByteArray := t1.2.1.1
 let v5 : Int := (IntKind.wrap IntKind.i64 (v3 - n))
 bif (decide (((0 : Int) ≤ v5) ∧ ((v5 ≤ v3) ∧ (v3 ≤ (((ByteArray.size v4) : Nat) : Int))))) then (K ((ByteArray.extract v4 (Int.toNat v5) (Int.toNat v3)), ((t1.2.1.1, (v3, (t1.2.1.2.2.1, ()))), ()))) else (none))))
def Q0n (k : Nat) (n : Int) (b0 : Qg3) : Option Q0n.τ := Q0n.c k n b0 some
def Q0n.T : Q1g := ⟨[.ptr 0 [], .dat (.int .i64)], [.dat QfZ], 1⟩
def Q0n.os : List Out := [⟨.ret, [.freeze (.slot 0), .auto 1], ⟨[.dat .str], [.dat QfZ]⟩⟩]
def Q0n.sem (k : Nat) : QS := Q1i Q0n.T Q0n.os fun x => Q0n k x.1 x.2.1
noncomputable def Q0n.ctx (k : Nat) : Ctx := ⟨Try.prog, gam [(47, (Q0S.sem k)), (71, (Q0U.sem k))]⟩
theorem Q0n.gok (k : Nat) : ∀ f, Qz Try.prog f ((Q0n.ctx k).Γ f) := (Qk (Q0S.sem_ok k) (Qk (Q0U.sem_ok k) Q0f))
def Q0n.ann (k : Nat) : Ann := .nil
theorem Q0n.body (k : Nat) : Q1j (Q0n.ctx k) Try.f46 (Func.code Try.f46) (Q0n.ann k) Q0n.T Q0n.os (fun x K => Q0n.c k x.1 x.2.1 K) := by
 intro ρ x K; kernel_rfl
theorem Q0n.sem_ok (k : Nat) : Qz Try.prog 46 (Q0n.sem k) :=
 Q0q (C := Q0n.ctx k) (Q0n.gok k) Try.mix (c := Func.code Try.f46) (ann := Q0n.ann k) (T := Q0n.T) (os := Q0n.os) (fun x K => Q0n.c k x.1 x.2.1 K) Try.func46 (by kernel_rfl) (by kernel_rfl) Q1.nil (Q0n.body k) (by kernel_rfl) (by kernel_rfl) (by kernel_rfl)
abbrev Q15.l0.σ : Type := ByteArray × Int × Int × Int × Unit
abbrev Q15.l0.τ : Type := (Int × Unit)
def Q15.l0.r (k : Nat) {ρ : Type} (x : Q15.l0.σ) (kn : Q15.l0.σ → Option ρ) (ke : Q15.l0.τ → Option ρ) : Option ρ :=
 bif (decide (x.2.2.2.1 < x.2.2.1)) then (bif (decide (((0 : Int) ≤ x.2.2.2.1) ∧ (x.2.2.2.1 < (((ByteArray.size x.1) : Nat) : Int)))) then (let v0 : Int := (Q1I x.1 (Int.toNat x.2.2.2.1))
 let v1 : Int := (IntKind.wrap IntKind.i64 ((8 : Int) * x.2.2.2.1))
 bif (decide ((0 : Int) ≤ v1)) then (let v2 : Int := (Q1f BinOp.or IntKind.u64 x.2.1 (Q3l IntKind.u64 (IntKind.wrap IntKind.u64 v0) v1))
 let v3 : Int := (IntKind.wrap IntKind.i64 (x.2.2.2.1 + (1 : Int)))
 kn (x.1, (v2, (x.2.2.1, (v3, ()))))) else (none)) else (none)) else (ke (x.2.1, ()))
def Q15.l0 (k : Nat) : Nat → Q15.l0.σ → Option Q15.l0.τ := Q1p (Q15.l0.r k)
def Q15.l0.T : StT := ⟨.dat .str :: us 2 ++ .dat (.int .u64) :: us 2 ++ .dat (.int .i64) :: .dat (.int .i64) :: us 13, []⟩
def Q15.l0.os : List Out := [⟨(.exit 0), [.mask [3], .auto 0], ⟨us 3 ++ .dat (.int .u64) :: us 17, []⟩⟩]
def Q15.c (k : Nat) {ρ : Type} (s : ByteArray) (K : Int × Unit → Option ρ) : Option ρ :=
 (Q15.l0 k k (s, ((0 : Int), ((((ByteArray.size s) : Nat) : Int), ((0 : Int), ()))))).bind fun t4 => K (t4.1, ())
def Q15 (k : Nat) (s : ByteArray) : Option (Int × Unit) := Q15.c k s some
def Q15.tin : List Ty := [.str]
def Q15.tout : List Ty := [(.int .u64)]
def Q15.sem (k : Nat) : QS := Q1l Q15.tin Q15.tout fun x => Q15 k x.1
noncomputable def Q15.ctx (k : Nat) : Ctx := ⟨Try.prog, gam []⟩
theorem Q15.gok (k : Nat) : ∀ f, Qz Try.prog f ((Q15.ctx k).Γ f) := Q0f
theorem Q15.l0.round (k : Nat) : Q1n (Q15.ctx k) (QV (Func.code Try.f70) [1, 1, 0, 1, 0, 0]) (.nil) Q15.l0.T [.mask [0, 3, 6, 7], .auto 0] Q15.l0.os (Q15.l0.r k) := by
 intro ρ x kn ke; kernel_rfl
theorem Q15.l0.ok (k : Nat) : StOK 0 Try.prog (.loop (QV (Func.code Try.f70) [1, 1, 0, 1, 0, 0])) (Qf Q15.l0.T Q15.l0.os (Q15.l0 k k)) :=
 Q1o (C := Q15.ctx k) (Q15.gok k) Try.mix Q1.nil (by kernel_rfl) (by kernel_rfl) (by kernel_rfl) (Q15.l0.round k) k
def Q15.ann (k : Nat) : Ann := .node [] none (.nil) (.node [] none (.nil) (.node [] none (.node [] none (.nil) (.node [] none (.node [] (some (Qf Q15.l0.T Q15.l0.os (Q15.l0 k k))) .nil .nil) (.nil))) (.nil)))
theorem Q15.body (k : Nat) : Q1M (Q15.ctx k) Try.f70 (Func.code Try.f70) (Q15.ann k) Q15.tin Q15.tout (fun x K => Q15.c k x.1 K) := by
 intro ρ x K; kernel_rfl
theorem Q15.sem_ok (k : Nat) : Qz Try.prog 70 (Q15.sem k) :=
 Q1k (C := Q15.ctx k) (Q15.gok k) Try.mix (c := Func.code Try.f70) (ann := Q15.ann k) (tin := Q15.tin) (tout := Q15.tout) (fun x K => Q15.c k x.1 K) Try.func70 (by kernel_rfl) (by kernel_rfl) (Q1.seq Q1.nil (Q1.seq Q1.nil (Q1.seq (Q1.seq Q1.nil (Q1.block (Q1.loop (by kernel_rfl) (Q15.l0.ok k)))) Q1.nil))) (Q15.body k)
abbrev Q0W.τ : Type := Qg1 
def Q0W.c (k : Nat) {ρ : Type} (b0 : Qg3) (K : Q0W.τ → Option ρ) : Option ρ :=
 (Q0n k (8 : Int) (b0.1, (b0.2.1, (b0.2.2.1, ())))).bind fun t0 => (Q15 k t0.1).bind fun t1 => K (t1.1, ((t0.2.1.1, (t0.2.1.2.1, (t0.2.1.2.2.1, ()))), ()))
def Q0W (k : Nat) (b0 : Qg3) : Option Q0W.τ := Q0W.c k b0 some
def Q0W.T : Q1g := ⟨[.ptr 0 []], [.dat QfZ], 1⟩
def Q0W.os : List Out := [⟨.ret, [.freeze (.slot 0), .auto 1], ⟨[.dat (.int .u64)], [.dat QfZ]⟩⟩]
def Q0W.sem (k : Nat) : QS := Q1i Q0W.T Q0W.os fun x => Q0W k x.1
noncomputable def Q0W.ctx (k : Nat) : Ctx := ⟨Try.prog, gam [(46, (Q0n.sem k)), (70, (Q15.sem k))]⟩
theorem Q0W.gok (k : Nat) : ∀ f, Qz Try.prog f ((Q0W.ctx k).Γ f) := (Qk (Q0n.sem_ok k) (Qk (Q15.sem_ok k) Q0f))
def Q0W.ann (k : Nat) : Ann := .nil
theorem Q0W.body (k : Nat) : Q1j (Q0W.ctx k) Try.f44 (Func.code Try.f44) (Q0W.ann k) Q0W.T Q0W.os (fun x K => Q0W.c k x.1 K) := by
 intro ρ x K; kernel_rfl
theorem Q0W.sem_ok (k : Nat) : Qz Try.prog 44 (Q0W.sem k) :=
 Q0q (C := Q0W.ctx k) (Q0W.gok k) Try.mix (c := Func.code Try.f44) (ann := Q0W.ann k) (T := Q0W.T) (os := Q0W.os) (fun x K => Q0W.c k x.1 K) Try.func44 (by kernel_rfl) (by kernel_rfl) Q1.nil (Q0W.body k) (by kernel_rfl) (by kernel_rfl) (by kernel_rfl)
abbrev Q0Y.τ : Type := Qg1 
def Q0Y.c (k : Nat) {ρ : Type} (b0 : Qg3) (K : Q0Y.τ → Option ρ) : Option ρ :=
 (Q0n k (4 : Int) (b0.1, (b0.2.1, (b0.2.2.1, ())))).bind fun t0 => (Q15 k t0.1).bind fun t1 => let v2 : Int := (IntKind.wrap IntKind.u32 t1.1)
 K (v2, ((t0.2.1.1, (t0.2.1.2.1, (t0.2.1.2.2.1, ()))), ()))
def Q0Y (k : Nat) (b0 : Qg3) : Option Q0Y.τ := Q0Y.c k b0 some
def Q0Y.T : Q1g := ⟨[.ptr 0 []], [.dat QfZ], 1⟩
def Q0Y.os : List Out := [⟨.ret, [.freeze (.slot 0), .auto 1], ⟨[.dat (.int .u32)], [.dat QfZ]⟩⟩]
def Q0Y.sem (k : Nat) : QS := Q1i Q0Y.T Q0Y.os fun x => Q0Y k x.1
noncomputable def Q0Y.ctx (k : Nat) : Ctx := ⟨Try.prog, gam [(46, (Q0n.sem k)), (70, (Q15.sem k))]⟩
theorem Q0Y.gok (k : Nat) : ∀ f, Qz Try.prog f ((Q0Y.ctx k).Γ f) := (Qk (Q0n.sem_ok k) (Qk (Q15.sem_ok k) Q0f))
def Q0Y.ann (k : Nat) : Ann := .nil
theorem Q0Y.body (k : Nat) : Q1j (Q0Y.ctx k) Try.f45 (Func.code Try.f45) (Q0Y.ann k) Q0Y.T Q0Y.os (fun x K => Q0Y.c k x.1 K) := by
 intro ρ x K; kernel_rfl
theorem Q0Y.sem_ok (k : Nat) : Qz Try.prog 45 (Q0Y.sem k) :=
 Q0q (C := Q0Y.ctx k) (Q0Y.gok k) Try.mix (c := Func.code Try.f45) (ann := Q0Y.ann k) (T := Q0Y.T) (os := Q0Y.os) (fun x K => Q0Y.c k x.1 K) Try.func45 (by kernel_rfl) (by kernel_rfl) Q1.nil (Q0Y.body k) (by kernel_rfl) (by kernel_rfl) (by kernel_rfl)
abbrev Q10.τ : Type := Qg1 
def Q10.c (k : Nat) {ρ : Type} (b0 : Qg3) (K : Q10.τ → Option ρ) : Option ρ :=
 let v0 : Int := b0.2.1
 K (v0, ((b0.1, (b0.2.1, (b0.2.2.1, ()))), ()))
def Q10 (k : Nat) (b0 : Qg3) : Option Q10.τ := Q10.c k b0 some
def Q10.T : Q1g := ⟨[.ptr 0 []], [.dat QfZ], 1⟩
def Q10.os : List Out := [⟨.ret, [.freeze (.slot 0), .auto 1], ⟨[.dat (.int .i64)], [.dat QfZ]⟩⟩]
def Q10.sem (k : Nat) : QS := Q1i Q10.T Q10.os fun x => Q10 k x.1
noncomputable def Q10.ctx (k : Nat) : Ctx := ⟨Try.prog, gam []⟩
theorem Q10.gok (k : Nat) : ∀ f, Qz Try.prog f ((Q10.ctx k).Γ f) := Q0f
def Q10.ann (k : Nat) : Ann := .nil
theorem Q10.body (k : Nat) : Q1j (Q10.ctx k) Try.f48 (Func.code Try.f48) (Q10.ann k) Q10.T Q10.os (fun x K => Q10.c k x.1 K) := by
 intro ρ x K; kernel_rfl
theorem Q10.sem_ok (k : Nat) : Qz Try.prog 48 (Q10.sem k) :=
 Q0q (C := Q10.ctx k) (Q10.gok k) Try.mix (c := Func.code Try.f48) (ann := Q10.ann k) (T := Q10.T) (os := Q10.os) (fun x K => Q10.c k x.1 K) Try.func48 (by kernel_rfl) (by kernel_rfl) Q1.nil (Q10.body k) (by kernel_rfl) (by kernel_rfl) (by kernel_rfl)
abbrev Qm.p0.σ : Type := ByteArray × Int × Int × Unit
abbrev Qm.p0.τ : Type := (ByteArray × Int × Int × Unit) ⊕ (ByteArray × Int × Int × (List ByteArray) × Unit)
def Qm.p0.r (k : Nat) {ρ : Type} (x : Qm.p0.σ) (K : Qm.p0.τ → Option ρ) : Option ρ :=
 bif (decide (((0 : Int) ≤ x.2.2.1) ∧ ((x.2.2.1 ≤ (((ByteArray.size x.1) : Nat) : Int)) ∧ ((((ByteArray.size x.1) : Nat) : Int) ≤ (((ByteArray.size x.1) : Nat) : Int))))) then (let v3 : ByteArray := (ByteArray.extract x.1 (Int.toNat x.2.2.1) (Int.toNat (((ByteArray.size x.1) : Nat) : Int)))
 (Q12 k v3).bind fun t4 => (Q0Y k (t4.1.1, (t4.1.2.1, (t4.1.2.2.1, ())))).bind fun t5 => let v6 : Int := (IntKind.wrap IntKind.i64 t5.1)
 (Q0W k (t5.2.1.1, (t5.2.1.2.1, (t5.2.1.2.2.1, ())))).bind fun t7 => (Q0n k v6 (t7.2.1.1, (t7.2.1.2.1, (t7.2.1.2.2.1, ())))).bind fun t8 => (Q0n k (4 : Int) (t8.2.1.1, (t8.2.1.2.1, (t8.2.1.2.2.1, ())))).bind fun t9 => (Q0S k (t9.2.1.1, (t9.2.1.2.1, (t9.2.1.2.2.1, ())))).bind fun t10 => bif (t10.1 != (0 : Int)) then (K (.inl (x.1, (x.2.1, (x.2.2.1, ()))))) else ((Q05 k x.2.1 (IntKind.wrap IntKind.u64 (0 : Int)) t8.1).bind fun t11 => let v12 : ByteArray := t11.1
 let v13 : Int := t11.2.1
 bif (v13 != (0 : Int)) then (K (.inl (x.1, (x.2.1, (x.2.2.1, ()))))) else ((Q10 k (t10.2.1.1, (t10.2.1.2.1, (t10.2.1.2.2.1, ())))).bind fun t14 => let v15 : Int := (IntKind.wrap IntKind.i64 (x.2.2.1 + t14.1))
 bif (decide (((0 : Int) ≤ x.2.2.1) ∧ ((x.2.2.1 ≤ v15) ∧ (v15 ≤ (((ByteArray.size x.1) : Nat) : Int))))) then (let v16 : ByteArray := (ByteArray.extract x.1 (Int.toNat x.2.2.1) (Int.toNat v15))
 bif (!(Q1Q v16 v12)) then (K (.inl (x.1, (x.2.1, (x.2.2.1, ()))))) else (bif (Nat.ble ((List.length (List.set (List.replicate 1 ByteArray.empty) 0 t8.1)) * 16) 140737488355328) then ((Q10 k (t14.2.1.1, (t14.2.1.2.1, (t14.2.1.2.2.1, ())))).bind fun t17 => let v18 : Int := (IntKind.wrap IntKind.i64 (x.2.2.1 + t17.1))
 K (.inr (x.1, (x.2.1, (v18, ((List.set (List.replicate 1 ByteArray.empty) 0 t8.1), ())))))) else (none))) else (none)))) else (none)
def Qm.p0 (k : Nat) (x : Qm.p0.σ) : Option Qm.p0.τ := Qm.p0.r k x some
def Qm.p0.T : StT := ⟨.dat .str :: us 5 ++ .dat (.int .u64) :: .nils :: .dat (.int .i64) :: us 70, []⟩
def Qm.p0.os : List Out := [⟨(.exit 0), [.mask [0, 6, 7, 8], .auto 0], ⟨.dat .str :: us 5 ++ .dat (.int .u64) :: .nils :: .dat (.int .i64) :: us 70, []⟩⟩, ⟨.normal, [.mask [0, 6, 7, 8], .auto 0], ⟨.dat .str :: us 5 ++ .dat (.int .u64) :: .vsl 0 :: .dat (.int .i64) :: us 70, [.vec .str]⟩⟩]
abbrev Qm.l1.σ : Type := ByteArray × Int × Int × (List ByteArray) × Unit
abbrev Qm.l1.τ : Type := (ByteArray × Int × Int × (List ByteArray) × Unit)
def Qm.l1.r (k : Nat) {ρ : Type} (x : Qm.l1.σ) (kn : Qm.l1.σ → Option ρ) (ke : Qm.l1.τ → Option ρ) : Option ρ :=
 bif (decide (((0 : Int) ≤ x.2.2.1) ∧ ((x.2.2.1 ≤ (((ByteArray.size x.1) : Nat) : Int)) ∧ ((((ByteArray.size x.1) : Nat) : Int) ≤ (((ByteArray.size x.1) : Nat) : Int))))) then (let v24 : ByteArray := (ByteArray.extract x.1 (Int.toNat x.2.2.1) (Int.toNat (((ByteArray.size x.1) : Nat) : Int)))
 (Q12 k v24).bind fun t25 => (Q0Y k (t25.1.1, (t25.1.2.1, (t25.1.2.2.1, ())))).bind fun t26 => let v27 : Int := (IntKind.wrap IntKind.i64 t26.1)
 (Q0W k (t26.2.1.1, (t26.2.1.2.1, (t26.2.1.2.2.1, ())))).bind fun t28 => (Q0n k v27 (t28.2.1.1, (t28.2.1.2.1, (t28.2.1.2.2.1, ())))).bind fun t29 => (Q0n k (4 : Int) (t29.2.1.1, (t29.2.1.2.1, (t29.2.1.2.2.1, ())))).bind fun t30 => (Q0S k (t30.2.1.1, (t30.2.1.2.1, (t30.2.1.2.2.1, ())))).bind fun t31 => bif (t31.1 != (0 : Int)) then (ke (x.1, (x.2.1, (x.2.2.1, (x.2.2.2.1, ()))))) else (let v32 : Int := (((List.length x.2.2.2.1) : Nat) : Int)
 (Q05 k x.2.1 (IntKind.wrap IntKind.u64 v32) t29.1).bind fun t33 => let v34 : ByteArray := t33.1
 let v35 : Int := t33.2.1
 bif (v35 != (0 : Int)) then (ke (x.1, (x.2.1, (x.2.2.1, (x.2.2.2.1, ()))))) else ((Q10 k (t31.2.1.1, (t31.2.1.2.1, (t31.2.1.2.2.1, ())))).bind fun t36 => let v37 : Int := (IntKind.wrap IntKind.i64 (x.2.2.1 + t36.1))
 bif (decide (((0 : Int) ≤ x.2.2.1) ∧ ((x.2.2.1 ≤ v37) ∧ (v37 ≤ (((ByteArray.size x.1) : Nat) : Int))))) then (let v38 : ByteArray := (ByteArray.extract x.1 (Int.toNat x.2.2.1) (Int.toNat v37))
 bif (!(Q1Q v38 v34)) then (ke (x.1, (x.2.1, (x.2.2.1, (x.2.2.2.1, ()))))) else (bif (Nat.ble (((List.length x.2.2.2.1) + (List.length (List.set (List.replicate 1 ByteArray.empty) 0 t29.1))) * 16) 140737488355328) then ((Q10 k (t36.2.1.1, (t36.2.1.2.1, (t36.2.1.2.2.1, ())))).bind fun t39 => let v40 : Int := (IntKind.wrap IntKind.i64 (x.2.2.1 + t39.1))
 kn (x.1, (x.2.1, (v40, ((x.2.2.2.1 ++ (List.set (List.replicate 1 ByteArray.empty) 0 t29.1)), ()))))) else (none))) else (none)))) else (none)
def Qm.l1 (k : Nat) : Nat → Qm.l1.σ → Option Qm.l1.τ := Q1p (Qm.l1.r k)
def Qm.l1.T : StT := ⟨.dat .str :: us 5 ++ .dat (.int .u64) :: .vsl 0 :: .dat (.int .i64) :: us 70, [.vec .str]⟩
def Qm.l1.os : List Out := [⟨(.exit 0), [.mask [0, 6, 7, 8], .auto 0], ⟨.dat .str :: us 5 ++ .dat (.int .u64) :: .vsl 0 :: .dat (.int .i64) :: us 70, [.vec .str]⟩⟩]
abbrev Qm.τ : Type := (Int × Int × Int × Unit) ⊕ (Int × Int × Int × (List ByteArray) × Unit)
def Qm.c (k : Nat) {ρ : Type} (s : ByteArray) (K : Qm.τ → Option ρ) : Option ρ :=
  bif (decide ((((ByteArray.size s) : Nat) : Int) < (20 : Int))) then (K (.inl ((0 : Int), ((0 : Int), ((120 : Int), ()))))) else (bif (decide (((0 : Int) ≤ (8 : Int)) ∧ (((8 : Int) ≤ (20 : Int)) ∧ ((20 : Int) ≤ (((ByteArray.size s) : Nat) : Int))))) then ((Q12 k (ByteArray.extract s 8 20)).bind fun t0 => (Q0W k (t0.1.1, (t0.1.2.1, (t0.1.2.2.1, ())))).bind fun t1 => bif (decide (((0 : Int) ≤ (0 : Int)) ∧ (((0 : Int) ≤ (20 : Int)) ∧ ((20 : Int) ≤ (((ByteArray.size s) : Nat) : Int))))) then ((Q08 k t1.1).bind fun t2 => bif (!(Q1Q (ByteArray.extract s 0 20) t2.1)) then (K (.inl ((0 : Int), ((0 : Int), ((120 : Int), ()))))) else ((Qm.p0 k (s, (t1.1, ((20 : Int), ())))).bind fun t19 => (match t19 with
 | .inl t20 => (let v21 : Int := (((ByteArray.size t20.1) : Nat) : Int)
  let v22 : Int := (IntKind.wrap IntKind.i64 (v21 - t20.2.2.1))
  K (.inl (t20.2.1, (v22, ((0 : Int), ())))))
 | .inr (t23) => ((Qm.l1 k k (t23.1, (t23.2.1, (t23.2.2.1, (t23.2.2.2.1, ()))))).bind fun t41 => let v42 : Int := (((ByteArray.size t41.1) : Nat) : Int)
  let v43 : Int := (IntKind.wrap IntKind.i64 (v42 - t41.2.2.1))
  K (.inr (t41.2.1, (v43, ((0 : Int), (t41.2.2.2.1, ()))))))))) else (none)) else (none))
def Qm (k : Nat) (s : ByteArray) : Option Qm.τ := Qm.c k s some
def Qm.T : Q1g := ⟨[.dat .str], [], 0⟩
def Qm.os : List Out := [⟨.ret, [.auto 0], ⟨[.dat (.int .u64), .nils, .dat (.int .i64), .dat (.int .i64)], []⟩⟩, ⟨.ret, [.auto 0], ⟨[.dat (.int .u64), .vsl 0, .dat (.int .i64), .dat (.int .i64)], [.vec .str]⟩⟩]
def Qm.sem (k : Nat) : QS := Q1i Qm.T Qm.os fun x => Qm k x.1
noncomputable def Qm.ctx (k : Nat) : Ctx := ⟨Try.prog, gam [(43, (Q12.sem k)), (44, (Q0W.sem k)), (9, (Q08.sem k)), (45, (Q0Y.sem k)), (46, (Q0n.sem k)), (47, (Q0S.sem k)), (7, (Q05.sem k)), (48, (Q10.sem k))]⟩
theorem Qm.gok (k : Nat) : ∀ f, Qz Try.prog f ((Qm.ctx k).Γ f) := (Qk (Q12.sem_ok k) (Qk (Q0W.sem_ok k) (Qk (Q08.sem_ok k) (Qk (Q0Y.sem_ok k) (Qk (Q0n.sem_ok k) (Qk (Q0S.sem_ok k) (Qk (Q05.sem_ok k) (Qk (Q10.sem_ok k) Q0f))))))))
theorem Qm.p0.is (k : Nat) : Q1t (Qm.ctx k) (QV (Func.code Try.f12) [1, 1, 1, 1, 1, 1, 0, 0, 0]) (.nil) Qm.p0.T Qm.p0.os (Qm.p0.r k) := by
 intro ρ x K; kernel_rfl
theorem Qm.p0.ok (k : Nat) : StOK 0 Try.prog (QV (Func.code Try.f12) [1, 1, 1, 1, 1, 1, 0, 0, 0]) (Qf Qm.p0.T Qm.p0.os (Qm.p0 k)) :=
 Q1m (C := Qm.ctx k) (T := Qm.p0.T) (os := Qm.p0.os) (Qm.gok k) Try.mix (fun x K => Qm.p0.r k x K) Q1.nil (by kernel_rfl) (by kernel_rfl) (Qm.p0.is k)
theorem Qm.l1.round (k : Nat) : Q1n (Qm.ctx k) (QV (Func.code Try.f12) [1, 1, 1, 1, 1, 1, 0, 0, 0]) (.nil) Qm.l1.T [.mask [0, 6, 7, 8], .auto 0] Qm.l1.os (Qm.l1.r k) := by
 intro ρ x kn ke; kernel_rfl
theorem Qm.l1.ok (k : Nat) : StOK 0 Try.prog (.loop (QV (Func.code Try.f12) [1, 1, 1, 1, 1, 1, 0, 0, 0])) (Qf Qm.l1.T Qm.l1.os (Qm.l1 k k)) :=
 Q1o (C := Qm.ctx k) (Qm.gok k) Try.mix Q1.nil (by kernel_rfl) (by kernel_rfl) (by kernel_rfl) (Qm.l1.round k) k
theorem Qm.l1.pok (k : Nat) : StOK 0 Try.prog (.loop (QV (Func.code Try.f12) [1, 1, 1, 1, 1, 1, 0, 0, 0])) (Q7O (Qf Qm.p0.T Qm.p0.os (Qm.p0 k)) [.mask [0, 6, 7, 8], .auto 0] (Qf Qm.l1.T Qm.l1.os (Qm.l1 k k))) :=
 Qec (C := Qm.ctx k) (Qm.gok k) Try.mix (Qm.p0.ok k) (by kernel_rfl) Q1.nil (by kernel_rfl) (by kernel_rfl) (by kernel_rfl) (Qm.l1.round k) k
def Qm.ann (k : Nat) : Ann := .node [] none (.nil) (.node [] none (.nil) (.node [] none (.nil) (.node [] none (.nil) (.node [] none (.nil) (.node [] none (.nil) (.node [] none (.node [] none (.node [.mask [0, 6, 7, 8], .auto 0] (some (Q7O (Qf Qm.p0.T Qm.p0.os (Qm.p0 k)) [.mask [0, 6, 7, 8], .auto 0] (Qf Qm.l1.T Qm.l1.os (Qm.l1 k k)))) .nil .nil) (.nil)) (.nil)))))))
theorem Qm.body (k : Nat) : Q1j (Qm.ctx k) Try.f12 (Func.code Try.f12) (Qm.ann k) Qm.T Qm.os (fun x K => Qm.c k x.1 K) := by
 intro ρ x K; kernel_rfl
theorem Qm.sem_ok (k : Nat) : Qz Try.prog 12 (Qm.sem k) :=
 Q0q (C := Qm.ctx k) (Qm.gok k) Try.mix (c := Func.code Try.f12) (ann := Qm.ann k) (T := Qm.T) (os := Qm.os) (fun x K => Qm.c k x.1 K) Try.func12 (by kernel_rfl) (by kernel_rfl) (Q1.seq Q1.nil (Q1.seq Q1.nil (Q1.seq Q1.nil (Q1.seq Q1.nil (Q1.seq Q1.nil (Q1.seq Q1.nil (Q1.seq (Q1.block (Q1.loop (by kernel_rfl) (Qm.l1.pok k))) Q1.nil))))))) (Qm.body k) (by kernel_rfl) (by kernel_rfl) (by kernel_rfl)
abbrev Q0B.τ : Type := QfT ⊕ QfL 
def Q0B.c (k : Nat) {ρ : Type} (name : ByteArray) (b0 : Qg0) (b1 : Qg4) (b2 : Qg4) (K : Q0B.τ → Option ρ) : Option ρ :=
  (Q0k k name ((), ((), ((), (b0.2.2.2.1, ((), (b0.2.2.2.2.2.1, ())))))) b1 b2).bind fun t0 => let v1 : ByteArray := t0.1
  let v2 : Int := t0.2.1
  bif (v2 != (0 : Int)) then (K (.inl (v2, (((), ((), ((), (t0.2.2.1.2.2.2.1, ((), (t0.2.2.1.2.2.2.2.2.1, ())))))), (t0.2.2.2.1, (t0.2.2.2.2.1, ())))))) else ((Q0M k ((3 : Int), (name, ((⟨(List.toArray [])⟩ : ByteArray), ((0 : Int), ((⟨(List.toArray [])⟩ : ByteArray), ()))))) ((), ((), ((), (t0.2.2.1.2.2.2.1, ((), (t0.2.2.1.2.2.2.2.2.1, ())))))) t0.2.2.2.1 t0.2.2.2.2.1).bind fun t3 => (match t3 with
 | .inl t4 => (K (.inl (t4.1, (((), ((), ((), (t4.2.1.2.2.2.1, ((), (t4.2.1.2.2.2.2.2.1, ())))))), (t4.2.2.1, (t4.2.2.2.1, ()))))))
 | .inr (t5) => (K (.inr (t5.1, (((), ((), ((), (t5.2.1.2.2.2.1, ((), (t5.2.1.2.2.2.2.2.1, ())))))), (t5.2.2.1, (t5.2.2.2.1, (t5.2.2.2.2.1, ())))))))))
def Q0B (k : Nat) (name : ByteArray) (b0 : Qg0) (b1 : Qg4) (b2 : Qg4) : Option Q0B.τ := Q0B.c k name b0 b1 b2 some
def Q0B.T : Q1g := ⟨[.ptr 0 [], .dat .str], [.pair (.mp 1) (.pair (.mp 2) (.pair (.nils) (.pair (.dat (.int .i64)) (.pair (.nils) (.dat Qg5))))), .mpd .str .str, .mpd .str .str], 3⟩
def Q0B.os : List Out := [⟨.ret, [.freeze (.slot 0), .auto 3], ⟨[.dat (.int .i64)], [.pair (.mp 1) (.pair (.mp 2) (.pair (.nils) (.pair (.dat (.int .i64)) (.pair (.nils) (.dat Qg5))))), .mpd .str .str, .mpd .str .str]⟩⟩, ⟨.ret, [.freeze (.slot 0), .auto 3], ⟨[.dat (.int .i64)], [.pair (.mp 1) (.pair (.mp 2) (.pair (.vsl 3) (.pair (.dat (.int .i64)) (.pair (.nils) (.dat Qg5))))), .mpd .str .str, .mpd .str .str, .vec QfV]⟩⟩]
def Q0B.sem (k : Nat) : QS := Q1i Q0B.T Q0B.os fun x => Q0B k x.1 x.2.1 x.2.2.1 x.2.2.2.1
noncomputable def Q0B.ctx (k : Nat) : Ctx := ⟨Try.prog, gam [(73, (Q0k.sem k)), (74, (Q0M.sem k))]⟩
theorem Q0B.gok (k : Nat) : ∀ f, Qz Try.prog f ((Q0B.ctx k).Γ f) := (Qk (Q0k.sem_ok k) (Qk (Q0M.sem_ok k) Q0f))
def Q0B.ann (k : Nat) : Ann := .nil
theorem Q0B.body (k : Nat) : Q1j (Q0B.ctx k) Try.f52 (Func.code Try.f52) (Q0B.ann k) Q0B.T Q0B.os (fun x K => Q0B.c k x.1 x.2.1 x.2.2.1 x.2.2.2.1 K) := by
 intro ρ x K; kernel_rfl
theorem Q0B.sem_ok (k : Nat) : Qz Try.prog 52 (Q0B.sem k) :=
 Q0q (C := Q0B.ctx k) (Q0B.gok k) Try.mix (c := Func.code Try.f52) (ann := Q0B.ann k) (T := Q0B.T) (os := Q0B.os) (fun x K => Q0B.c k x.1 x.2.1 x.2.2.1 x.2.2.2.1 K) Try.func52 (by kernel_rfl) (by kernel_rfl) Q1.nil (Q0B.body k) (by kernel_rfl) (by kernel_rfl) (by kernel_rfl)
abbrev Q0R.τ : Type := QfQ 
def Q0R.c (k : Nat) {ρ : Type} (name : ByteArray) (b0 : Qg0) (b1 : Qg4) (b2 : Qg4) (K : Q0R.τ → Option ρ) : Option ρ :=
 (Q0k k name ((), ((), ((), (b0.2.2.2.1, ((), (b0.2.2.2.2.2.1, ())))))) b1 b2).bind fun t0 => let v1 : ByteArray := t0.1
 let v2 : Int := t0.2.1
 K ((((ByteArray.size v1) : Nat) : Int), (v2, (((), ((), ((), (t0.2.2.1.2.2.2.1, ((), (t0.2.2.1.2.2.2.2.2.1, ())))))), (t0.2.2.2.1, (t0.2.2.2.2.1, ())))))
def Q0R (k : Nat) (name : ByteArray) (b0 : Qg0) (b1 : Qg4) (b2 : Qg4) : Option Q0R.τ := Q0R.c k name b0 b1 b2 some
def Q0R.T : Q1g := ⟨[.ptr 0 [], .dat .str], [.pair (.mp 1) (.pair (.mp 2) (.pair (.nils) (.pair (.dat (.int .i64)) (.pair (.nils) (.dat Qg5))))), .mpd .str .str, .mpd .str .str], 3⟩
def Q0R.os : List Out := [⟨.ret, [.freeze (.slot 0), .freeze (.slot 1), .auto 3], ⟨[.dat (.int .i64), .dat (.int .i64)], [.pair (.mp 1) (.pair (.mp 2) (.pair (.nils) (.pair (.dat (.int .i64)) (.pair (.nils) (.dat Qg5))))), .mpd .str .str, .mpd .str .str]⟩⟩]
def Q0R.sem (k : Nat) : QS := Q1i Q0R.T Q0R.os fun x => Q0R k x.1 x.2.1 x.2.2.1 x.2.2.2.1
noncomputable def Q0R.ctx (k : Nat) : Ctx := ⟨Try.prog, gam [(73, (Q0k.sem k))]⟩
theorem Q0R.gok (k : Nat) : ∀ f, Qz Try.prog f ((Q0R.ctx k).Γ f) := (Qk (Q0k.sem_ok k) Q0f)
def Q0R.ann (k : Nat) : Ann := .nil
theorem Q0R.body (k : Nat) : Q1j (Q0R.ctx k) Try.f86 (Func.code Try.f86) (Q0R.ann k) Q0R.T Q0R.os (fun x K => Q0R.c k x.1 x.2.1 x.2.2.1 x.2.2.2.1 K) := by
 intro ρ x K; kernel_rfl
theorem Q0R.sem_ok (k : Nat) : Qz Try.prog 86 (Q0R.sem k) :=
 Q0q (C := Q0R.ctx k) (Q0R.gok k) Try.mix (c := Func.code Try.f86) (ann := Q0R.ann k) (T := Q0R.T) (os := Q0R.os) (fun x K => Q0R.c k x.1 x.2.1 x.2.2.1 x.2.2.2.1 K) Try.func86 (by kernel_rfl) (by kernel_rfl) Q1.nil (Q0R.body k) (by kernel_rfl) (by kernel_rfl) (by kernel_rfl)
abbrev Q0L.τ : Type := QfT ⊕ QfL 
def Q0L.c (k : Nat) {ρ : Type} (name : ByteArray) (n : Int) (b0 : Qg0) (b1 : Qg4) (b2 : Qg4) (K : Q0L.τ → Option ρ) : Option ρ :=
  (Q0k k name ((), ((), ((), (b0.2.2.2.1, ((), (b0.2.2.2.2.2.1, ())))))) b1 b2).bind fun t0 => let v1 : ByteArray := t0.1
  let v2 : Int := t0.2.1
  bif (v2 != (0 : Int)) then (K (.inl (v2, (((), ((), ((), (t0.2.2.1.2.2.2.1, ((), (t0.2.2.1.2.2.2.2.2.1, ())))))), (t0.2.2.2.1, (t0.2.2.2.2.1, ())))))) else (bif (decide (n < (0 : Int))) then (K (.inl ((1 : Int), (((), ((), ((), (t0.2.2.1.2.2.2.1, ((), (t0.2.2.1.2.2.2.2.2.1, ())))))), (t0.2.2.2.1, (t0.2.2.2.2.1, ())))))) else (bif (decide (n > (((ByteArray.size v1) : Nat) : Int))) then (K (.inl ((1 : Int), (((), ((), ((), (t0.2.2.1.2.2.2.1, ((), (t0.2.2.1.2.2.2.2.2.1, ())))))), (t0.2.2.2.1, (t0.2.2.2.2.1, ())))))) else ((Q0M k ((1 : Int), (name, ((⟨(List.toArray [])⟩ : ByteArray), (n, ((⟨(List.toArray [])⟩ : ByteArray), ()))))) ((), ((), ((), (t0.2.2.1.2.2.2.1, ((), (t0.2.2.1.2.2.2.2.2.1, ())))))) t0.2.2.2.1 t0.2.2.2.2.1).bind fun t3 => (match t3 with
 | .inl t4 => (K (.inl (t4.1, (((), ((), ((), (t4.2.1.2.2.2.1, ((), (t4.2.1.2.2.2.2.2.1, ())))))), (t4.2.2.1, (t4.2.2.2.1, ()))))))
 | .inr (t5) => (K (.inr (t5.1, (((), ((), ((), (t5.2.1.2.2.2.1, ((), (t5.2.1.2.2.2.2.2.1, ())))))), (t5.2.2.1, (t5.2.2.2.1, (t5.2.2.2.2.1, ())))))))))))
def Q0L (k : Nat) (name : ByteArray) (n : Int) (b0 : Qg0) (b1 : Qg4) (b2 : Qg4) : Option Q0L.τ := Q0L.c k name n b0 b1 b2 some
def Q0L.T : Q1g := ⟨[.ptr 0 [], .dat .str, .dat (.int .i64)], [.pair (.mp 1) (.pair (.mp 2) (.pair (.nils) (.pair (.dat (.int .i64)) (.pair (.nils) (.dat Qg5))))), .mpd .str .str, .mpd .str .str], 3⟩
def Q0L.os : List Out := [⟨.ret, [.freeze (.slot 0), .auto 3], ⟨[.dat (.int .i64)], [.pair (.mp 1) (.pair (.mp 2) (.pair (.nils) (.pair (.dat (.int .i64)) (.pair (.nils) (.dat Qg5))))), .mpd .str .str, .mpd .str .str]⟩⟩, ⟨.ret, [.freeze (.slot 0), .auto 3], ⟨[.dat (.int .i64)], [.pair (.mp 1) (.pair (.mp 2) (.pair (.vsl 3) (.pair (.dat (.int .i64)) (.pair (.nils) (.dat Qg5))))), .mpd .str .str, .mpd .str .str, .vec QfV]⟩⟩]
def Q0L.sem (k : Nat) : QS := Q1i Q0L.T Q0L.os fun x => Q0L k x.1 x.2.1 x.2.2.1 x.2.2.2.1 x.2.2.2.2.1
noncomputable def Q0L.ctx (k : Nat) : Ctx := ⟨Try.prog, gam [(73, (Q0k.sem k)), (74, (Q0M.sem k))]⟩
theorem Q0L.gok (k : Nat) : ∀ f, Qz Try.prog f ((Q0L.ctx k).Γ f) := (Qk (Q0k.sem_ok k) (Qk (Q0M.sem_ok k) Q0f))
def Q0L.ann (k : Nat) : Ann := .nil
theorem Q0L.body (k : Nat) : Q1j (Q0L.ctx k) Try.f55 (Func.code Try.f55) (Q0L.ann k) Q0L.T Q0L.os (fun x K => Q0L.c k x.1 x.2.1 x.2.2.1 x.2.2.2.1 x.2.2.2.2.1 K) := by
 intro ρ x K; kernel_rfl
theorem Q0L.sem_ok (k : Nat) : Qz Try.prog 55 (Q0L.sem k) :=
 Q0q (C := Q0L.ctx k) (Q0L.gok k) Try.mix (c := Func.code Try.f55) (ann := Q0L.ann k) (T := Q0L.T) (os := Q0L.os) (fun x K => Q0L.c k x.1 x.2.1 x.2.2.1 x.2.2.2.1 x.2.2.2.2.1 K) Try.func55 (by kernel_rfl) (by kernel_rfl) Q1.nil (Q0L.body k) (by kernel_rfl) (by kernel_rfl) (by kernel_rfl)
abbrev Qg.p0.σ : Type := Qg0 × Qg4 × Qg4 × Unit
abbrev Qg.p0.τ : Type := QfT ⊕ QfU 
def Qg.p0.r (k : Nat) {ρ : Type} (x : Qg.p0.σ) (K : Qg.p0.τ → Option ρ) : Option ρ :=
 (Q0P k ((), ((), ((), (x.1.2.2.2.1, ((), (x.1.2.2.2.2.2.1, ())))))) x.2.1 x.2.2.1).bind fun t0 => bif t0.1 then (K (.inl ((7 : Int), (((), ((), ((), (t0.2.1.2.2.2.1, ((), (t0.2.1.2.2.2.2.2.1, ())))))), (t0.2.2.1, (t0.2.2.2.1, ())))))) else ((Qv k true ((), ((), ((), (t0.2.1.2.2.2.1, ((), (t0.2.1.2.2.2.2.2.1, ())))))) t0.2.2.1 t0.2.2.2.1).bind fun t1 => bif t1.1 then (K (.inl ((7 : Int), (((), ((), ((), (t1.2.1.2.2.2.1, ((), (t1.2.1.2.2.2.2.2.1, ())))))), (t1.2.2.1, (t1.2.2.2.1, ())))))) else (K (.inr (((), ((), ((), (t1.2.1.2.2.2.1, ((), (t1.2.1.2.2.2.2.2.1, ())))))), (t1.2.2.1, (t1.2.2.2.1, ()))))))
def Qg.p0 (k : Nat) (x : Qg.p0.σ) : Option Qg.p0.τ := Qg.p0.r k x some
def Qg.p0.T : StT := ⟨.ptr 0 [] :: us 29, [.pair (.mp 1) (.pair (.mp 2) (.pair (.nils) (.pair (.dat (.int .i64)) (.pair (.nils) (.dat Qg5))))), .mpd .str .str, .mpd .str .str]⟩
def Qg.p0.os : List Out := [⟨.ret, [.mask [2], .auto 3], ⟨us 2 ++ .dat (.int .i64) :: us 27, [.pair (.mp 1) (.pair (.mp 2) (.pair (.nils) (.pair (.dat (.int .i64)) (.pair (.nils) (.dat Qg5))))), .mpd .str .str, .mpd .str .str]⟩⟩, ⟨.normal, [.mask [0], .auto 3], ⟨.ptr 0 [] :: us 29, [.pair (.mp 1) (.pair (.mp 2) (.pair (.nils) (.pair (.dat (.int .i64)) (.pair (.nils) (.dat Qg5))))), .mpd .str .str, .mpd .str .str]⟩⟩]
abbrev Qg.l1.σ : Type := Int × Int × Qg0 × Qg4 × Qg4 × Unit
abbrev Qg.l1.τ : Type := QfU 
def Qg.l1.r (k : Nat) {ρ : Type} (x : Qg.l1.σ) (kn : Qg.l1.σ → Option ρ) (ke : Qg.l1.τ → Option ρ) : Option ρ :=
 bif (decide (x.2.1 < x.1)) then (none) else (ke (((), ((), ((), (x.2.2.1.2.2.2.1, ((), (x.2.2.1.2.2.2.2.2.1, ())))))), (x.2.2.2.1, (x.2.2.2.2.1, ()))))
def Qg.l1 (k : Nat) : Nat → Qg.l1.σ → Option Qg.l1.τ := Q1p (Qg.l1.r k)
def Qg.l1.T : StT := ⟨.ptr 0 [] :: us 13 ++ .nils :: .dat (.int .i64) :: .dat (.int .i64) :: us 13, [.pair (.mp 1) (.pair (.mp 2) (.pair (.nils) (.pair (.dat (.int .i64)) (.pair (.nils) (.dat Qg5))))), .mpd .str .str, .mpd .str .str]⟩
def Qg.l1.os : List Out := [⟨(.exit 0), [.mask [0], .auto 3], ⟨.ptr 0 [] :: us 29, [.pair (.mp 1) (.pair (.mp 2) (.pair (.nils) (.pair (.dat (.int .i64)) (.pair (.nils) (.dat Qg5))))), .mpd .str .str, .mpd .str .str]⟩⟩]
abbrev Qg.τ : Type := QfT 
def Qg.c (k : Nat) {ρ : Type} (b0 : Qg0) (b1 : Qg4) (b2 : Qg4) (K : Qg.τ → Option ρ) : Option ρ :=
  (Qg.p0 k (((), ((), ((), (b0.2.2.2.1, ((), (b0.2.2.2.2.2.1, ())))))), (b1, (b2, ())))).bind fun t2 => (match t2 with
 | .inl t3 => (K (t3.1, (((), ((), ((), (t3.2.1.2.2.2.1, ((), (t3.2.1.2.2.2.2.2.1, ())))))), (t3.2.2.1, (t3.2.2.2.1, ())))))
 | .inr (t4) => ((Qg.l1 k k ((0 : Int), ((0 : Int), (((), ((), ((), (t4.1.2.2.2.1, ((), (t4.1.2.2.2.2.2.1, ())))))), (t4.2.1, (t4.2.2.1, ())))))).bind fun t5 => K ((0 : Int), (((), ((), ((), (t5.1.2.2.2.1, ((), (t5.1.2.2.2.2.2.1, ())))))), (t5.2.1, (t5.2.2.1, ()))))))
def Qg (k : Nat) (b0 : Qg0) (b1 : Qg4) (b2 : Qg4) : Option Qg.τ := Qg.c k b0 b1 b2 some
def Qg.T : Q1g := ⟨[.ptr 0 []], [.pair (.mp 1) (.pair (.mp 2) (.pair (.nils) (.pair (.dat (.int .i64)) (.pair (.nils) (.dat Qg5))))), .mpd .str .str, .mpd .str .str], 3⟩
def Qg.os : List Out := [⟨.ret, [.freeze (.slot 0), .auto 3], ⟨[.dat (.int .i64)], [.pair (.mp 1) (.pair (.mp 2) (.pair (.nils) (.pair (.dat (.int .i64)) (.pair (.nils) (.dat Qg5))))), .mpd .str .str, .mpd .str .str]⟩⟩]
def Qg.sem (k : Nat) : QS := Q1i Qg.T Qg.os fun x => Qg k x.1 x.2.1 x.2.2.1
noncomputable def Qg.ctx (k : Nat) : Ctx := ⟨Try.prog, gam [(30, (Q0P.sem k)), (76, (Qv.sem k))]⟩
theorem Qg.gok (k : Nat) : ∀ f, Qz Try.prog f ((Qg.ctx k).Γ f) := (Qk (Q0P.sem_ok k) (Qk (Qv.sem_ok k) Q0f))
theorem Qg.l1.round (k : Nat) : Q1n (Qg.ctx k) (QV (Func.code Try.f56) [1, 1, 0, 1, 0, 0]) (.nil) Qg.l1.T [] Qg.l1.os (Qg.l1.r k) := by
 intro ρ x kn ke; kernel_rfl
theorem Qg.l1.ok (k : Nat) : StOK 3 Try.prog (.loop (QV (Func.code Try.f56) [1, 1, 0, 1, 0, 0])) (Qf Qg.l1.T Qg.l1.os (Qg.l1 k k)) :=
 Q1o (C := Qg.ctx k) (Qg.gok k) Try.mix Q1.nil (by kernel_rfl) (by kernel_rfl) (by kernel_rfl) (Qg.l1.round k) k
theorem Qg.p0.is (k : Nat) : Q1t (Qg.ctx k) (QV (Func.code Try.f56) [1, 0]) (.nil) Qg.p0.T Qg.p0.os (Qg.p0.r k) := by
 intro ρ x K; kernel_rfl
theorem Qg.p0.ok (k : Nat) : StOK 3 Try.prog (QV (Func.code Try.f56) [1, 0]) (Qf Qg.p0.T Qg.p0.os (Qg.p0 k)) :=
 Q1m (C := Qg.ctx k) (T := Qg.p0.T) (os := Qg.p0.os) (Qg.gok k) Try.mix (fun x K => Qg.p0.r k x K) Q1.nil (by kernel_rfl) (by kernel_rfl) (Qg.p0.is k)
def Qg.ann (k : Nat) : Ann := .node [] none (.nil) (.node [] none (.node [.mask [0], .auto 3] (some (Qf Qg.p0.T Qg.p0.os (Qg.p0 k))) .nil .nil) (.node [] none (.node [] none (.nil) (.node [] none (.node [.mask [0, 14, 15, 16], .auto 3] (some (Qf Qg.l1.T Qg.l1.os (Qg.l1 k k))) .nil .nil) (.nil))) (.nil)))
theorem Qg.body (k : Nat) : Q1j (Qg.ctx k) Try.f56 (Func.code Try.f56) (Qg.ann k) Qg.T Qg.os (fun x K => Qg.c k x.1 x.2.1 x.2.2.1 K) := by
 intro ρ x K; kernel_rfl
theorem Qg.sem_ok (k : Nat) : Qz Try.prog 56 (Qg.sem k) :=
 Q0q (C := Qg.ctx k) (Qg.gok k) Try.mix (c := Func.code Try.f56) (ann := Qg.ann k) (T := Qg.T) (os := Qg.os) (fun x K => Qg.c k x.1 x.2.1 x.2.2.1 K) Try.func56 (by kernel_rfl) (by kernel_rfl) (Q1.seq Q1.nil (Q1.seq (Q1.loop (by kernel_rfl) (Qg.p0.ok k)) (Q1.seq (Q1.seq Q1.nil (Q1.block (Q1.loop (by kernel_rfl) (Qg.l1.ok k)))) Q1.nil))) (Qg.body k) (by kernel_rfl) (by kernel_rfl) (by kernel_rfl)
abbrev Q0v.τ : Type := QfK 
def Q0v.c (k : Nat) {ρ : Type} (b0 : Qg0) (b1 : Qg4) (b2 : Qg4) (b3 : QfX) (K : Q0v.τ → Option ρ) : Option ρ :=
 K (b0.2.2.2.2.2.1, (((), ((), ((), (b0.2.2.2.1, ((), (b0.2.2.2.2.2.1, ())))))), (b1, (b2, (b3, ())))))
def Q0v (k : Nat) (b0 : Qg0) (b1 : Qg4) (b2 : Qg4) (b3 : QfX) : Option Q0v.τ := Q0v.c k b0 b1 b2 b3 some
def Q0v.T : Q1g := ⟨[.ptr 0 []], [.pair (.mp 1) (.pair (.mp 2) (.pair (.vsl 3) (.pair (.dat (.int .i64)) (.pair (.nils) (.dat Qg5))))), .mpd .str .str, .mpd .str .str, .vec QfV], 3⟩
def Q0v.os : List Out := [⟨.ret, [.freeze (.slot 0), .auto 3], ⟨[.dat .bool], [.pair (.mp 1) (.pair (.mp 2) (.pair (.vsl 3) (.pair (.dat (.int .i64)) (.pair (.nils) (.dat Qg5))))), .mpd .str .str, .mpd .str .str, .vec QfV]⟩⟩]
def Q0v.sem (k : Nat) : QS := Q1i Q0v.T Q0v.os fun x => Q0v k x.1 x.2.1 x.2.2.1 x.2.2.2.1
noncomputable def Q0v.ctx (k : Nat) : Ctx := ⟨Try.prog, gam []⟩
theorem Q0v.gok (k : Nat) : ∀ f, Qz Try.prog f ((Q0v.ctx k).Γ f) := Q0f
def Q0v.ann (k : Nat) : Ann := .nil
theorem Q0v.body (k : Nat) : Q1j (Q0v.ctx k) Try.f30 (Func.code Try.f30) (Q0v.ann k) Q0v.T Q0v.os (fun x K => Q0v.c k x.1 x.2.1 x.2.2.1 x.2.2.2.1 K) := by
 intro ρ x K; kernel_rfl
theorem Q0v.sem_ok (k : Nat) : Qz Try.prog 30 (Q0v.sem k) :=
 Q0q (C := Q0v.ctx k) (Q0v.gok k) Try.mix (c := Func.code Try.f30) (ann := Q0v.ann k) (T := Q0v.T) (os := Q0v.os) (fun x K => Q0v.c k x.1 x.2.1 x.2.2.1 x.2.2.2.1 K) Try.func30 (by kernel_rfl) (by kernel_rfl) Q1.nil (Q0v.body k) (by kernel_rfl) (by kernel_rfl) (by kernel_rfl)
abbrev Qo.l0.σ : Type := Bool × Int × Int × Qg0 × Qg4 × Qg4 × QfX × Unit
abbrev Qo.l0.τ : Type := QfM 
def Qo.l0.r (k : Nat) {ρ : Type} (x : Qo.l0.σ) (kn : Qo.l0.σ → Option ρ) (ke : Qo.l0.τ → Option ρ) : Option ρ :=
 bif (decide (x.2.2.1 < x.2.1)) then (none) else (ke (((), ((), ((), (x.2.2.2.1.2.2.2.1, ((), (x.2.2.2.1.2.2.2.2.2.1, ())))))), (x.2.2.2.2.1, (x.2.2.2.2.2.1, (x.2.2.2.2.2.2.1, ())))))
def Qo.l0 (k : Nat) : Nat → Qo.l0.σ → Option Qo.l0.τ := Q1p (Qo.l0.r k)
def Qo.l0.T : StT := ⟨.ptr 0 [] :: .dat .bool :: us 8 ++ .nils :: .dat (.int .i64) :: .dat (.int .i64) :: us 36, [.pair (.mp 1) (.pair (.mp 2) (.pair (.vsl 3) (.pair (.dat (.int .i64)) (.pair (.nils) (.dat Qg5))))), .mpd .str .str, .mpd .str .str, .vec QfV]⟩
def Qo.l0.os : List Out := [⟨(.exit 0), [.mask [], .auto 3], ⟨us 49, [.pair (.mp 1) (.pair (.mp 2) (.pair (.vsl 3) (.pair (.dat (.int .i64)) (.pair (.nils) (.dat Qg5))))), .mpd .str .str, .mpd .str .str, .vec QfV]⟩⟩]
abbrev Qo.τ : Type := QfK 
def Qo.c (k : Nat) {ρ : Type} (sync : Bool) (b0 : Qg0) (b1 : Qg4) (b2 : Qg4) (b3 : QfX) (K : Qo.τ → Option ρ) : Option ρ :=
 (Qo.l0 k k (sync, ((0 : Int), ((0 : Int), (((), ((), ((), (b0.2.2.2.1, ((), (b0.2.2.2.2.2.1, ())))))), (b1, (b2, (b3, ())))))))).bind fun t0 => K (false, (((), ((), ((), (t0.1.2.2.2.1, ((), (t0.1.2.2.2.2.2.1, ())))))), (t0.2.1, (t0.2.2.1, (t0.2.2.2.1, ())))))
def Qo (k : Nat) (sync : Bool) (b0 : Qg0) (b1 : Qg4) (b2 : Qg4) (b3 : QfX) : Option Qo.τ := Qo.c k sync b0 b1 b2 b3 some
def Qo.T : Q1g := ⟨[.ptr 0 [], .dat .bool], [.pair (.mp 1) (.pair (.mp 2) (.pair (.vsl 3) (.pair (.dat (.int .i64)) (.pair (.nils) (.dat Qg5))))), .mpd .str .str, .mpd .str .str, .vec QfV], 3⟩
def Qo.os : List Out := [⟨.ret, [.freeze (.slot 0), .auto 3], ⟨[.dat .bool], [.pair (.mp 1) (.pair (.mp 2) (.pair (.vsl 3) (.pair (.dat (.int .i64)) (.pair (.nils) (.dat Qg5))))), .mpd .str .str, .mpd .str .str, .vec QfV]⟩⟩]
def Qo.sem (k : Nat) : QS := Q1i Qo.T Qo.os fun x => Qo k x.1 x.2.1 x.2.2.1 x.2.2.2.1 x.2.2.2.2.1
noncomputable def Qo.ctx (k : Nat) : Ctx := ⟨Try.prog, gam []⟩
theorem Qo.gok (k : Nat) : ∀ f, Qz Try.prog f ((Qo.ctx k).Γ f) := Q0f
theorem Qo.l0.round (k : Nat) : Q1n (Qo.ctx k) (QV (Func.code Try.f76) [1, 0, 1, 0, 0]) (.nil) Qo.l0.T [] Qo.l0.os (Qo.l0.r k) := by
 intro ρ x kn ke; kernel_rfl
theorem Qo.l0.ok (k : Nat) : StOK 3 Try.prog (.loop (QV (Func.code Try.f76) [1, 0, 1, 0, 0])) (Qf Qo.l0.T Qo.l0.os (Qo.l0 k k)) :=
 Q1o (C := Qo.ctx k) (Qo.gok k) Try.mix Q1.nil (by kernel_rfl) (by kernel_rfl) (by kernel_rfl) (Qo.l0.round k) k
def Qo.ann (k : Nat) : Ann := .node [] none (.nil) (.node [] none (.node [] none (.nil) (.node [] none (.node [.mask [0, 1, 10, 11, 12], .auto 3] (some (Qf Qo.l0.T Qo.l0.os (Qo.l0 k k))) .nil .nil) (.nil))) (.nil))
theorem Qo.body (k : Nat) : Q1j (Qo.ctx k) Try.f76 (Func.code Try.f76) (Qo.ann k) Qo.T Qo.os (fun x K => Qo.c k x.1 x.2.1 x.2.2.1 x.2.2.2.1 x.2.2.2.2.1 K) := by
 intro ρ x K; kernel_rfl
theorem Qo.sem_ok (k : Nat) : Qz Try.prog 76 (Qo.sem k) :=
 Q0q (C := Qo.ctx k) (Qo.gok k) Try.mix (c := Func.code Try.f76) (ann := Qo.ann k) (T := Qo.T) (os := Qo.os) (fun x K => Qo.c k x.1 x.2.1 x.2.2.1 x.2.2.2.1 x.2.2.2.2.1 K) Try.func76 (by kernel_rfl) (by kernel_rfl) (Q1.seq Q1.nil (Q1.seq (Q1.seq Q1.nil (Q1.block (Q1.loop (by kernel_rfl) (Qo.l0.ok k)))) Q1.nil)) (Qo.body k) (by kernel_rfl) (by kernel_rfl) (by kernel_rfl)
abbrev Q9.p0.σ : Type := Qg0 × Qg4 × Qg4 × QfX × Unit
abbrev Q9.p0.τ : Type := QfL ⊕ QfM 
def Q9.p0.r (k : Nat) {ρ : Type} (x : Q9.p0.σ) (K : Q9.p0.τ → Option ρ) : Option ρ :=
 (Q0v k ((), ((), ((), (x.1.2.2.2.1, ((), (x.1.2.2.2.2.2.1, ())))))) x.2.1 x.2.2.1 x.2.2.2.1).bind fun t0 => bif t0.1 then (K (.inl ((7 : Int), (((), ((), ((), (t0.2.1.2.2.2.1, ((), (t0.2.1.2.2.2.2.2.1, ())))))), (t0.2.2.1, (t0.2.2.2.1, (t0.2.2.2.2.1, ()))))))) else ((Qo k true ((), ((), ((), (t0.2.1.2.2.2.1, ((), (t0.2.1.2.2.2.2.2.1, ())))))) t0.2.2.1 t0.2.2.2.1 t0.2.2.2.2.1).bind fun t1 => bif t1.1 then (K (.inl ((7 : Int), (((), ((), ((), (t1.2.1.2.2.2.1, ((), (t1.2.1.2.2.2.2.2.1, ())))))), (t1.2.2.1, (t1.2.2.2.1, (t1.2.2.2.2.1, ()))))))) else (K (.inr (((), ((), ((), (t1.2.1.2.2.2.1, ((), (t1.2.1.2.2.2.2.2.1, ())))))), (t1.2.2.1, (t1.2.2.2.1, (t1.2.2.2.2.1, ())))))))
def Q9.p0 (k : Nat) (x : Q9.p0.σ) : Option Q9.p0.τ := Q9.p0.r k x some
def Q9.p0.T : StT := ⟨.ptr 0 [] :: us 29, [.pair (.mp 1) (.pair (.mp 2) (.pair (.vsl 3) (.pair (.dat (.int .i64)) (.pair (.nils) (.dat Qg5))))), .mpd .str .str, .mpd .str .str, .vec QfV]⟩
def Q9.p0.os : List Out := [⟨.ret, [.mask [2], .auto 3], ⟨us 2 ++ .dat (.int .i64) :: us 27, [.pair (.mp 1) (.pair (.mp 2) (.pair (.vsl 3) (.pair (.dat (.int .i64)) (.pair (.nils) (.dat Qg5))))), .mpd .str .str, .mpd .str .str, .vec QfV]⟩⟩, ⟨.normal, [.mask [0], .auto 3], ⟨.ptr 0 [] :: us 29, [.pair (.mp 1) (.pair (.mp 2) (.pair (.vsl 3) (.pair (.dat (.int .i64)) (.pair (.nils) (.dat Qg5))))), .mpd .str .str, .mpd .str .str, .vec QfV]⟩⟩]
abbrev Q9.l1.σ : Type := Int × Int × Qg0 × Qg4 × Qg4 × QfX × Unit
abbrev Q9.l1.τ : Type := QfM 
def Q9.l1.r (k : Nat) {ρ : Type} (x : Q9.l1.σ) (kn : Q9.l1.σ → Option ρ) (ke : Q9.l1.τ → Option ρ) : Option ρ :=
 bif (decide (x.2.1 < x.1)) then (bif (decide (((0 : Int) ≤ x.2.1) ∧ (x.2.1 < (((List.length x.2.2.2.2.2.1) : Nat) : Int)))) then ((Q0N k ((List.getD x.2.2.2.2.2.1 (Int.toNat x.2.1) ((0 : Int), (ByteArray.empty, (ByteArray.empty, ((0 : Int), (ByteArray.empty, ())))))).1, ((List.getD x.2.2.2.2.2.1 (Int.toNat x.2.1) ((0 : Int), (ByteArray.empty, (ByteArray.empty, ((0 : Int), (ByteArray.empty, ())))))).2.1, ((List.getD x.2.2.2.2.2.1 (Int.toNat x.2.1) ((0 : Int), (ByteArray.empty, (ByteArray.empty, ((0 : Int), (ByteArray.empty, ())))))).2.2.1, ((List.getD x.2.2.2.2.2.1 (Int.toNat x.2.1) ((0 : Int), (ByteArray.empty, (ByteArray.empty, ((0 : Int), (ByteArray.empty, ())))))).2.2.2.1, ((List.getD x.2.2.2.2.2.1 (Int.toNat x.2.1) ((0 : Int), (ByteArray.empty, (ByteArray.empty, ((0 : Int), (ByteArray.empty, ())))))).2.2.2.2.1, ()))))) x.2.2.2.1).bind fun t6 => let v7 : Int := (IntKind.wrap IntKind.i64 (x.2.1 + (1 : Int)))
 kn (x.1, (v7, (((), ((), ((), (x.2.2.1.2.2.2.1, ((), (x.2.2.1.2.2.2.2.2.1, ())))))), (t6.1, (x.2.2.2.2.1, (x.2.2.2.2.2.1, ()))))))) else (none)) else (ke (((), ((), ((), (x.2.2.1.2.2.2.1, ((), (x.2.2.1.2.2.2.2.2.1, ())))))), (x.2.2.2.1, (x.2.2.2.2.1, (x.2.2.2.2.2.1, ())))))
def Q9.l1 (k : Nat) : Nat → Q9.l1.σ → Option Q9.l1.τ := Q1p (Q9.l1.r k)
def Q9.l1.T : StT := ⟨.ptr 0 [] :: us 13 ++ .vsl 3 :: .dat (.int .i64) :: .dat (.int .i64) :: us 13, [.pair (.mp 1) (.pair (.mp 2) (.pair (.vsl 3) (.pair (.dat (.int .i64)) (.pair (.nils) (.dat Qg5))))), .mpd .str .str, .mpd .str .str, .vec QfV]⟩
def Q9.l1.os : List Out := [⟨(.exit 0), [.mask [0], .auto 3], ⟨.ptr 0 [] :: us 29, [.pair (.mp 1) (.pair (.mp 2) (.pair (.vsl 3) (.pair (.dat (.int .i64)) (.pair (.nils) (.dat Qg5))))), .mpd .str .str, .mpd .str .str, .vec QfV]⟩⟩]
abbrev Q9.τ : Type := QfL ⊕ QfT 
def Q9.c (k : Nat) {ρ : Type} (b0 : Qg0) (b1 : Qg4) (b2 : Qg4) (b3 : QfX) (K : Q9.τ → Option ρ) : Option ρ :=
  (Q9.p0 k (((), ((), ((), (b0.2.2.2.1, ((), (b0.2.2.2.2.2.1, ())))))), (b1, (b2, (b3, ()))))).bind fun t2 => (match t2 with
 | .inl t3 => (K (.inl (t3.1, (((), ((), ((), (t3.2.1.2.2.2.1, ((), (t3.2.1.2.2.2.2.2.1, ())))))), (t3.2.2.1, (t3.2.2.2.1, (t3.2.2.2.2.1, ())))))))
 | .inr (t4) => (let v5 : Int := (((List.length t4.2.2.2.1) : Nat) : Int)
  (Q9.l1 k k (v5, ((0 : Int), (((), ((), ((), (t4.1.2.2.2.1, ((), (t4.1.2.2.2.2.2.1, ())))))), (t4.2.1, (t4.2.2.1, (t4.2.2.2.1, ()))))))).bind fun t8 => K (.inr ((0 : Int), (((), ((), ((), (t8.1.2.2.2.1, ((), (t8.1.2.2.2.2.2.1, ())))))), (t8.2.1, (t8.2.2.1, ())))))))
def Q9 (k : Nat) (b0 : Qg0) (b1 : Qg4) (b2 : Qg4) (b3 : QfX) : Option Q9.τ := Q9.c k b0 b1 b2 b3 some
def Q9.T : Q1g := ⟨[.ptr 0 []], [.pair (.mp 1) (.pair (.mp 2) (.pair (.vsl 3) (.pair (.dat (.int .i64)) (.pair (.nils) (.dat Qg5))))), .mpd .str .str, .mpd .str .str, .vec QfV], 3⟩
def Q9.os : List Out := [⟨.ret, [.freeze (.slot 0), .auto 3], ⟨[.dat (.int .i64)], [.pair (.mp 1) (.pair (.mp 2) (.pair (.vsl 3) (.pair (.dat (.int .i64)) (.pair (.nils) (.dat Qg5))))), .mpd .str .str, .mpd .str .str, .vec QfV]⟩⟩, ⟨.ret, [.freeze (.slot 0), .auto 3], ⟨[.dat (.int .i64)], [.pair (.mp 1) (.pair (.mp 2) (.pair (.nils) (.pair (.dat (.int .i64)) (.pair (.nils) (.dat Qg5))))), .mpd .str .str, .mpd .str .str]⟩⟩]
def Q9.sem (k : Nat) : QS := Q1i Q9.T Q9.os fun x => Q9 k x.1 x.2.1 x.2.2.1 x.2.2.2.1
noncomputable def Q9.ctx (k : Nat) : Ctx := ⟨Try.prog, gam [(30, (Q0v.sem k)), (76, (Qo.sem k)), (77, (Q0N.sem k))]⟩
theorem Q9.gok (k : Nat) : ∀ f, Qz Try.prog f ((Q9.ctx k).Γ f) := (Qk (Q0v.sem_ok k) (Qk (Qo.sem_ok k) (Qk (Q0N.sem_ok k) Q0f)))
theorem Q9.l1.round (k : Nat) : Q1n (Q9.ctx k) (QV (Func.code Try.f56) [1, 1, 0, 1, 0, 0]) (.nil) Q9.l1.T [.mask [0, 14, 15, 16], .auto 3] Q9.l1.os (Q9.l1.r k) := by
 intro ρ x kn ke; kernel_rfl
theorem Q9.l1.ok (k : Nat) : StOK 3 Try.prog (.loop (QV (Func.code Try.f56) [1, 1, 0, 1, 0, 0])) (Qf Q9.l1.T Q9.l1.os (Q9.l1 k k)) :=
 Q1o (C := Q9.ctx k) (Q9.gok k) Try.mix Q1.nil (by kernel_rfl) (by kernel_rfl) (by kernel_rfl) (Q9.l1.round k) k
theorem Q9.p0.is (k : Nat) : Q1t (Q9.ctx k) (QV (Func.code Try.f56) [1, 0]) (.nil) Q9.p0.T Q9.p0.os (Q9.p0.r k) := by
 intro ρ x K; kernel_rfl
theorem Q9.p0.ok (k : Nat) : StOK 3 Try.prog (QV (Func.code Try.f56) [1, 0]) (Qf Q9.p0.T Q9.p0.os (Q9.p0 k)) :=
 Q1m (C := Q9.ctx k) (T := Q9.p0.T) (os := Q9.p0.os) (Q9.gok k) Try.mix (fun x K => Q9.p0.r k x K) Q1.nil (by kernel_rfl) (by kernel_rfl) (Q9.p0.is k)
def Q9.ann (k : Nat) : Ann := .node [] none (.nil) (.node [] none (.node [.mask [0], .auto 3] (some (Qf Q9.p0.T Q9.p0.os (Q9.p0 k))) .nil .nil) (.node [] none (.node [] none (.nil) (.node [] none (.node [.mask [0, 14, 15, 16], .auto 3] (some (Qf Q9.l1.T Q9.l1.os (Q9.l1 k k))) .nil .nil) (.nil))) (.nil)))
theorem Q9.body (k : Nat) : Q1j (Q9.ctx k) Try.f56 (Func.code Try.f56) (Q9.ann k) Q9.T Q9.os (fun x K => Q9.c k x.1 x.2.1 x.2.2.1 x.2.2.2.1 K) := by
 intro ρ x K; kernel_rfl
theorem Q9.sem_ok (k : Nat) : Qz Try.prog 56 (Q9.sem k) :=
 Q0q (C := Q9.ctx k) (Q9.gok k) Try.mix (c := Func.code Try.f56) (ann := Q9.ann k) (T := Q9.T) (os := Q9.os) (fun x K => Q9.c k x.1 x.2.1 x.2.2.1 x.2.2.2.1 K) Try.func56 (by kernel_rfl) (by kernel_rfl) (Q1.seq Q1.nil (Q1.seq (Q1.loop (by kernel_rfl) (Q9.p0.ok k)) (Q1.seq (Q1.seq Q1.nil (Q1.block (Q1.loop (by kernel_rfl) (Q9.l1.ok k)))) Q1.nil))) (Q9.body k) (by kernel_rfl) (by kernel_rfl) (by kernel_rfl)
abbrev Q0C.τ : Type := QfL 
def Q0C.c (k : Nat) {ρ : Type} (names : (List ByteArray)) (b0 : Qg0) (b1 : Qg4) (b2 : Qg4) (b3 : QfX) (K : Q0C.τ → Option ρ) : Option ρ :=
 (Q0v k ((), ((), ((), (b0.2.2.2.1, ((), (b0.2.2.2.2.2.1, ())))))) b1 b2 b3).bind fun t0 => bif t0.1 then (K ((7 : Int), (((), ((), ((), (t0.2.1.2.2.2.1, ((), (t0.2.1.2.2.2.2.2.1, ())))))), (t0.2.2.1, (t0.2.2.2.1, (t0.2.2.2.2.1, ())))))) else ((Ql k names).bind fun t1 => K (t1.1, (((), ((), ((), (t0.2.1.2.2.2.1, ((), (t0.2.1.2.2.2.2.2.1, ())))))), (t0.2.2.1, (t0.2.2.2.1, (t0.2.2.2.2.1, ()))))))
def Q0C (k : Nat) (names : (List ByteArray)) (b0 : Qg0) (b1 : Qg4) (b2 : Qg4) (b3 : QfX) : Option Q0C.τ := Q0C.c k names b0 b1 b2 b3 some
def Q0C.T : Q1g := ⟨[.ptr 0 [], .dat (.sl .str)], [.pair (.mp 1) (.pair (.mp 2) (.pair (.vsl 3) (.pair (.dat (.int .i64)) (.pair (.nils) (.dat Qg5))))), .mpd .str .str, .mpd .str .str, .vec QfV], 3⟩
def Q0C.os : List Out := [⟨.ret, [.freeze (.slot 0), .auto 3], ⟨[.dat (.int .i64)], [.pair (.mp 1) (.pair (.mp 2) (.pair (.vsl 3) (.pair (.dat (.int .i64)) (.pair (.nils) (.dat Qg5))))), .mpd .str .str, .mpd .str .str, .vec QfV]⟩⟩]
def Q0C.sem (k : Nat) : QS := Q1i Q0C.T Q0C.os fun x => Q0C k x.1 x.2.1 x.2.2.1 x.2.2.2.1 x.2.2.2.2.1
noncomputable def Q0C.ctx (k : Nat) : Ctx := ⟨Try.prog, gam [(30, (Q0v.sem k)), (89, (Ql.sem k))]⟩
theorem Q0C.gok (k : Nat) : ∀ f, Qz Try.prog f ((Q0C.ctx k).Γ f) := (Qk (Q0v.sem_ok k) (Qk (Ql.sem_ok k) Q0f))
def Q0C.ann (k : Nat) : Ann := .nil
theorem Q0C.body (k : Nat) : Q1j (Q0C.ctx k) Try.f79 (Func.code Try.f79) (Q0C.ann k) Q0C.T Q0C.os (fun x K => Q0C.c k x.1 x.2.1 x.2.2.1 x.2.2.2.1 x.2.2.2.2.1 K) := by
 intro ρ x K; kernel_rfl
theorem Q0C.sem_ok (k : Nat) : Qz Try.prog 79 (Q0C.sem k) :=
 Q0q (C := Q0C.ctx k) (Q0C.gok k) Try.mix (c := Func.code Try.f79) (ann := Q0C.ann k) (T := Q0C.T) (os := Q0C.os) (fun x K => Q0C.c k x.1 x.2.1 x.2.2.1 x.2.2.2.1 x.2.2.2.2.1 K) Try.func79 (by kernel_rfl) (by kernel_rfl) Q1.nil (Q0C.body k) (by kernel_rfl) (by kernel_rfl) (by kernel_rfl)
abbrev Q0t.τ : Type := QfL 
def Q0t.c (k : Nat) {ρ : Type} (c : QfY) (b0 : Qg0) (b1 : Qg4) (b2 : Qg4) (b3 : QfX) (K : Q0t.τ → Option ρ) : Option ρ :=
 (Qo k false ((), ((), ((), (b0.2.2.2.1, ((), (b0.2.2.2.2.2.1, ())))))) b1 b2 b3).bind fun t0 => bif t0.1 then (K ((7 : Int), (((), ((), ((), (t0.2.1.2.2.2.1, ((), (t0.2.1.2.2.2.2.2.1, ())))))), (t0.2.2.1, (t0.2.2.2.1, (t0.2.2.2.2.1, ())))))) else ((Q0N k (c.1, (c.2.1, (c.2.2.1, (c.2.2.2.1, (c.2.2.2.2.1, ()))))) t0.2.2.2.1).bind fun t1 => bif (Nat.ble (((List.length t0.2.2.2.2.1) + (List.length (List.set (List.replicate 1 ((0 : Int), (ByteArray.empty, (ByteArray.empty, ((0 : Int), (ByteArray.empty, ())))))) 0 (c.1, (c.2.1, (c.2.2.1, (c.2.2.2.1, (c.2.2.2.2.1, ())))))))) * 64) 140737488355328) then (let v2 : Int := t0.2.1.2.2.2.1
 let v3 : Int := (IntKind.wrap IntKind.i64 (v2 + (1 : Int)))
 K ((0 : Int), (((), ((), ((), (v3, ((), (t0.2.1.2.2.2.2.2.1, ())))))), (t0.2.2.1, (t1.1, ((t0.2.2.2.2.1 ++ (List.set (List.replicate 1 ((0 : Int), (ByteArray.empty, (ByteArray.empty, ((0 : Int), (ByteArray.empty, ())))))) 0 (c.1, (c.2.1, (c.2.2.1, (c.2.2.2.1, (c.2.2.2.2.1, ()))))))), ())))))) else (none))
def Q0t (k : Nat) (c : QfY) (b0 : Qg0) (b1 : Qg4) (b2 : Qg4) (b3 : QfX) : Option Q0t.τ := Q0t.c k c b0 b1 b2 b3 some
def Q0t.T : Q1g := ⟨[.ptr 0 [], .dat QfV], [.pair (.mp 1) (.pair (.mp 2) (.pair (.vsl 3) (.pair (.dat (.int .i64)) (.pair (.nils) (.dat Qg5))))), .mpd .str .str, .mpd .str .str, .vec QfV], 3⟩
def Q0t.os : List Out := [⟨.ret, [.freeze (.slot 0), .auto 3], ⟨[.dat (.int .i64)], [.pair (.mp 1) (.pair (.mp 2) (.pair (.vsl 3) (.pair (.dat (.int .i64)) (.pair (.nils) (.dat Qg5))))), .mpd .str .str, .mpd .str .str, .vec QfV]⟩⟩]
def Q0t.sem (k : Nat) : QS := Q1i Q0t.T Q0t.os fun x => Q0t k x.1 x.2.1 x.2.2.1 x.2.2.2.1 x.2.2.2.2.1
noncomputable def Q0t.ctx (k : Nat) : Ctx := ⟨Try.prog, gam [(76, (Qo.sem k)), (77, (Q0N.sem k))]⟩
theorem Q0t.gok (k : Nat) : ∀ f, Qz Try.prog f ((Q0t.ctx k).Γ f) := (Qk (Qo.sem_ok k) (Qk (Q0N.sem_ok k) Q0f))
def Q0t.ann (k : Nat) : Ann := .nil
theorem Q0t.body (k : Nat) : Q1j (Q0t.ctx k) Try.f74 (Func.code Try.f74) (Q0t.ann k) Q0t.T Q0t.os (fun x K => Q0t.c k x.1 x.2.1 x.2.2.1 x.2.2.2.1 x.2.2.2.2.1 K) := by
 intro ρ x K; kernel_rfl
theorem Q0t.sem_ok (k : Nat) : Qz Try.prog 74 (Q0t.sem k) :=
 Q0q (C := Q0t.ctx k) (Q0t.gok k) Try.mix (c := Func.code Try.f74) (ann := Q0t.ann k) (T := Q0t.T) (os := Q0t.os) (fun x K => Q0t.c k x.1 x.2.1 x.2.2.1 x.2.2.2.1 x.2.2.2.2.1 K) Try.func74 (by kernel_rfl) (by kernel_rfl) Q1.nil (Q0t.body k) (by kernel_rfl) (by kernel_rfl) (by kernel_rfl)
abbrev Q0o.τ : Type := QfL 
def Q0o.c (k : Nat) {ρ : Type} (name : ByteArray) (at_2 : Int) (s : ByteArray) (b0 : Qg0) (b1 : Qg4) (b2 : Qg4) (b3 : QfX) (K : Q0o.τ → Option ρ) : Option ρ :=
 (Q0C k (List.set (List.replicate 1 ByteArray.empty) 0 name) ((), ((), ((), (b0.2.2.2.1, ((), (b0.2.2.2.2.2.1, ())))))) b1 b2 b3).bind fun t0 => bif (t0.1 != (0 : Int)) then (K (t0.1, (((), ((), ((), (t0.2.1.2.2.2.1, ((), (t0.2.1.2.2.2.2.2.1, ())))))), (t0.2.2.1, (t0.2.2.2.1, (t0.2.2.2.2.1, ())))))) else (let v1 : ByteArray := (Option.getD (mget Ty.str name t0.2.2.2.1) ByteArray.empty)
 bif (decide (at_2 < (0 : Int))) then (K ((1 : Int), (((), ((), ((), (t0.2.1.2.2.2.1, ((), (t0.2.1.2.2.2.2.2.1, ())))))), (t0.2.2.1, (t0.2.2.2.1, (t0.2.2.2.2.1, ())))))) else (bif (decide (at_2 > (((ByteArray.size v1) : Nat) : Int))) then (K ((1 : Int), (((), ((), ((), (t0.2.1.2.2.2.1, ((), (t0.2.1.2.2.2.2.2.1, ())))))), (t0.2.2.1, (t0.2.2.2.1, (t0.2.2.2.2.1, ())))))) else (let v2 : Int := (IntKind.wrap IntKind.i64 ((16777216 : Int) - at_2))
 bif (decide ((((ByteArray.size s) : Nat) : Int) > v2)) then (K ((71 : Int), (((), ((), ((), (t0.2.1.2.2.2.1, ((), (t0.2.1.2.2.2.2.2.1, ())))))), (t0.2.2.1, (t0.2.2.2.1, (t0.2.2.2.2.1, ())))))) else (bif (!(Option.isSome (mget Ty.str name t0.2.2.2.1))) then (let v3 : Int := (((List.length t0.2.2.2.1) : Nat) : Int)
 bif (decide (v3 ≥ (64 : Int))) then (K ((71 : Int), (((), ((), ((), (t0.2.1.2.2.2.1, ((), (t0.2.1.2.2.2.2.2.1, ())))))), (t0.2.2.1, (t0.2.2.2.1, (t0.2.2.2.2.1, ())))))) else ((Q0t k ((0 : Int), (name, ((⟨(List.toArray [])⟩ : ByteArray), (at_2, (s, ()))))) ((), ((), ((), (t0.2.1.2.2.2.1, ((), (t0.2.1.2.2.2.2.2.1, ())))))) t0.2.2.1 t0.2.2.2.1 t0.2.2.2.2.1).bind fun t4 => K (t4.1, (((), ((), ((), (t4.2.1.2.2.2.1, ((), (t4.2.1.2.2.2.2.2.1, ())))))), (t4.2.2.1, (t4.2.2.2.1, (t4.2.2.2.2.1, ()))))))) else ((Q0t k ((0 : Int), (name, ((⟨(List.toArray [])⟩ : ByteArray), (at_2, (s, ()))))) ((), ((), ((), (t0.2.1.2.2.2.1, ((), (t0.2.1.2.2.2.2.2.1, ())))))) t0.2.2.1 t0.2.2.2.1 t0.2.2.2.2.1).bind fun t5 => K (t5.1, (((), ((), ((), (t5.2.1.2.2.2.1, ((), (t5.2.1.2.2.2.2.2.1, ())))))), (t5.2.2.1, (t5.2.2.2.1, (t5.2.2.2.2.1, ()))))))))))
def Q0o (k : Nat) (name : ByteArray) (at_2 : Int) (s : ByteArray) (b0 : Qg0) (b1 : Qg4) (b2 : Qg4) (b3 : QfX) : Option Q0o.τ := Q0o.c k name at_2 s b0 b1 b2 b3 some
def Q0o.T : Q1g := ⟨[.ptr 0 [], .dat .str, .dat (.int .i64), .dat .str], [.pair (.mp 1) (.pair (.mp 2) (.pair (.vsl 3) (.pair (.dat (.int .i64)) (.pair (.nils) (.dat Qg5))))), .mpd .str .str, .mpd .str .str, .vec QfV], 3⟩
def Q0o.os : List Out := [⟨.ret, [.freeze (.slot 0), .auto 3], ⟨[.dat (.int .i64)], [.pair (.mp 1) (.pair (.mp 2) (.pair (.vsl 3) (.pair (.dat (.int .i64)) (.pair (.nils) (.dat Qg5))))), .mpd .str .str, .mpd .str .str, .vec QfV]⟩⟩]
def Q0o.sem (k : Nat) : QS := Q1i Q0o.T Q0o.os fun x => Q0o k x.1 x.2.1 x.2.2.1 x.2.2.2.1 x.2.2.2.2.1 x.2.2.2.2.2.1 x.2.2.2.2.2.2.1
noncomputable def Q0o.ctx (k : Nat) : Ctx := ⟨Try.prog, gam [(79, (Q0C.sem k)), (74, (Q0t.sem k))]⟩
theorem Q0o.gok (k : Nat) : ∀ f, Qz Try.prog f ((Q0o.ctx k).Γ f) := (Qk (Q0C.sem_ok k) (Qk (Q0t.sem_ok k) Q0f))
def Q0o.ann (k : Nat) : Ann := .nil
theorem Q0o.body (k : Nat) : Q1j (Q0o.ctx k) Try.f72 (Func.code Try.f72) (Q0o.ann k) Q0o.T Q0o.os (fun x K => Q0o.c k x.1 x.2.1 x.2.2.1 x.2.2.2.1 x.2.2.2.2.1 x.2.2.2.2.2.1 x.2.2.2.2.2.2.1 K) := by
 intro ρ x K; kernel_rfl
theorem Q0o.sem_ok (k : Nat) : Qz Try.prog 72 (Q0o.sem k) :=
 Q0q (C := Q0o.ctx k) (Q0o.gok k) Try.mix (c := Func.code Try.f72) (ann := Q0o.ann k) (T := Q0o.T) (os := Q0o.os) (fun x K => Q0o.c k x.1 x.2.1 x.2.2.1 x.2.2.2.1 x.2.2.2.2.1 x.2.2.2.2.2.1 x.2.2.2.2.2.2.1 K) Try.func72 (by kernel_rfl) (by kernel_rfl) Q1.nil (Q0o.body k) (by kernel_rfl) (by kernel_rfl) (by kernel_rfl)
abbrev QR.p0.σ : Type := ByteArray × Qg0 × Qg4 × Qg4 × Unit
abbrev QR.p0.τ : Type := QfT ⊕ QfR ⊕ QfL ⊕ QfJ 
def QR.p0.r (k : Nat) {ρ : Type} (x : QR.p0.σ) (K : QR.p0.τ → Option ρ) : Option ρ :=
  (Q0R k x.1 ((), ((), ((), (x.2.1.2.2.2.1, ((), (x.2.1.2.2.2.2.2.1, ())))))) x.2.2.1 x.2.2.2.1).bind fun t0 => let v1 : Int := t0.1
  let v2 : Int := t0.2.1
  bif (v2 == (0 : Int)) then ((Q0L k x.1 (0 : Int) ((), ((), ((), (t0.2.2.1.2.2.2.1, ((), (t0.2.2.1.2.2.2.2.2.1, ())))))) t0.2.2.2.1 t0.2.2.2.2.1).bind fun t3 => (match t3 with
 | .inl t4 => (bif (t4.1 != (0 : Int)) then (K (.inl (t4.1, (((), ((), ((), (t4.2.1.2.2.2.1, ((), (t4.2.1.2.2.2.2.2.1, ())))))), (t4.2.2.1, (t4.2.2.2.1, ())))))) else (K (.inr (.inl (x.1, (((), ((), ((), (t4.2.1.2.2.2.1, ((), (t4.2.1.2.2.2.2.2.1, ())))))), (t4.2.2.1, (t4.2.2.2.1, ()))))))))
 | .inr (t5) => (bif (t5.1 != (0 : Int)) then (K (.inr (.inr (.inl (t5.1, (((), ((), ((), (t5.2.1.2.2.2.1, ((), (t5.2.1.2.2.2.2.2.1, ())))))), (t5.2.2.1, (t5.2.2.2.1, (t5.2.2.2.2.1, ()))))))))) else (K (.inr (.inr (.inr (x.1, (((), ((), ((), (t5.2.1.2.2.2.1, ((), (t5.2.1.2.2.2.2.2.1, ())))))), (t5.2.2.1, (t5.2.2.2.1, (t5.2.2.2.2.1, ())))))))))))) else (K (.inr (.inl (x.1, (((), ((), ((), (t0.2.2.1.2.2.2.1, ((), (t0.2.2.1.2.2.2.2.2.1, ())))))), (t0.2.2.2.1, (t0.2.2.2.2.1, ())))))))
def QR.p0 (k : Nat) (x : QR.p0.σ) : Option QR.p0.τ := QR.p0.r k x some
def QR.p0.T : StT := ⟨.ptr 0 [] :: .dat .str :: us 30, [.pair (.mp 1) (.pair (.mp 2) (.pair (.nils) (.pair (.dat (.int .i64)) (.pair (.nils) (.dat Qg5))))), .mpd .str .str, .mpd .str .str]⟩
def QR.p0.os : List Out := [⟨.ret, [.mask [4], .auto 3], ⟨us 4 ++ .dat (.int .i64) :: us 27, [.pair (.mp 1) (.pair (.mp 2) (.pair (.nils) (.pair (.dat (.int .i64)) (.pair (.nils) (.dat Qg5))))), .mpd .str .str, .mpd .str .str]⟩⟩, ⟨.normal, [.mask [0, 1], .auto 3], ⟨.ptr 0 [] :: .dat .str :: us 30, [.pair (.mp 1) (.pair (.mp 2) (.pair (.nils) (.pair (.dat (.int .i64)) (.pair (.nils) (.dat Qg5))))), .mpd .str .str, .mpd .str .str]⟩⟩, ⟨.ret, [.mask [4], .auto 3], ⟨us 4 ++ .dat (.int .i64) :: us 27, [.pair (.mp 1) (.pair (.mp 2) (.pair (.vsl 3) (.pair (.dat (.int .i64)) (.pair (.nils) (.dat Qg5))))), .mpd .str .str, .mpd .str .str, .vec QfV]⟩⟩, ⟨.normal, [.mask [0, 1], .auto 3], ⟨.ptr 0 [] :: .dat .str :: us 30, [.pair (.mp 1) (.pair (.mp 2) (.pair (.vsl 3) (.pair (.dat (.int .i64)) (.pair (.nils) (.dat Qg5))))), .mpd .str .str, .mpd .str .str, .vec QfV]⟩⟩]
abbrev QR.τ : Type := QfT ⊕ QfL 
def QR.c (k : Nat) {ρ : Type} (name : ByteArray) (b0 : Qg0) (b1 : Qg4) (b2 : Qg4) (K : QR.τ → Option ρ) : Option ρ :=
  (QR.p0 k (name, (((), ((), ((), (b0.2.2.2.1, ((), (b0.2.2.2.2.2.1, ())))))), (b1, (b2, ()))))).bind fun t6 => (match t6 with
 | .inl t7 => (K (.inl (t7.1, (((), ((), ((), (t7.2.1.2.2.2.1, ((), (t7.2.1.2.2.2.2.2.1, ())))))), (t7.2.2.1, (t7.2.2.2.1, ()))))))
 | .inr (.inl t8) => ((Q08 k (0 : Int)).bind fun t9 => (Q0a k t8.1 (0 : Int) t9.1 ((), ((), ((), (t8.2.1.2.2.2.1, ((), (t8.2.1.2.2.2.2.2.1, ())))))) t8.2.2.1 t8.2.2.2.1).bind fun t10 => (match t10 with
 | .inl t11 => (bif (t11.1 != (0 : Int)) then (K (.inl (t11.1, (((), ((), ((), (t11.2.1.2.2.2.1, ((), (t11.2.1.2.2.2.2.2.1, ())))))), (t11.2.2.1, (t11.2.2.2.1, ())))))) else ((Qg k ((), ((), ((), (t11.2.1.2.2.2.1, ((), (t11.2.1.2.2.2.2.2.1, ())))))) t11.2.2.1 t11.2.2.2.1).bind fun t12 => K (.inl (t12.1, (((), ((), ((), (t12.2.1.2.2.2.1, ((), (t12.2.1.2.2.2.2.2.1, ())))))), (t12.2.2.1, (t12.2.2.2.1, ())))))))
 | .inr (t13) => (bif (t13.1 != (0 : Int)) then (K (.inr (t13.1, (((), ((), ((), (t13.2.1.2.2.2.1, ((), (t13.2.1.2.2.2.2.2.1, ())))))), (t13.2.2.1, (t13.2.2.2.1, (t13.2.2.2.2.1, ()))))))) else ((Q9 k ((), ((), ((), (t13.2.1.2.2.2.1, ((), (t13.2.1.2.2.2.2.2.1, ())))))) t13.2.2.1 t13.2.2.2.1 t13.2.2.2.2.1).bind fun t14 => (match t14 with
 | .inl t15 => (K (.inr (t15.1, (((), ((), ((), (t15.2.1.2.2.2.1, ((), (t15.2.1.2.2.2.2.2.1, ())))))), (t15.2.2.1, (t15.2.2.2.1, (t15.2.2.2.2.1, ())))))))
 | .inr (t16) => (K (.inl (t16.1, (((), ((), ((), (t16.2.1.2.2.2.1, ((), (t16.2.1.2.2.2.2.2.1, ())))))), (t16.2.2.1, (t16.2.2.2.1, ())))))))))))
 | .inr (.inr (.inl t17)) => (K (.inr (t17.1, (((), ((), ((), (t17.2.1.2.2.2.1, ((), (t17.2.1.2.2.2.2.2.1, ())))))), (t17.2.2.1, (t17.2.2.2.1, (t17.2.2.2.2.1, ())))))))
 | .inr (.inr (.inr (t18))) => ((Q08 k (0 : Int)).bind fun t19 => (Q0o k t18.1 (0 : Int) t19.1 ((), ((), ((), (t18.2.1.2.2.2.1, ((), (t18.2.1.2.2.2.2.2.1, ())))))) t18.2.2.1 t18.2.2.2.1 t18.2.2.2.2.1).bind fun t20 => bif (t20.1 != (0 : Int)) then (K (.inr (t20.1, (((), ((), ((), (t20.2.1.2.2.2.1, ((), (t20.2.1.2.2.2.2.2.1, ())))))), (t20.2.2.1, (t20.2.2.2.1, (t20.2.2.2.2.1, ()))))))) else ((Q9 k ((), ((), ((), (t20.2.1.2.2.2.1, ((), (t20.2.1.2.2.2.2.2.1, ())))))) t20.2.2.1 t20.2.2.2.1 t20.2.2.2.2.1).bind fun t21 => (match t21 with
 | .inl t22 => (K (.inr (t22.1, (((), ((), ((), (t22.2.1.2.2.2.1, ((), (t22.2.1.2.2.2.2.2.1, ())))))), (t22.2.2.1, (t22.2.2.2.1, (t22.2.2.2.2.1, ())))))))
 | .inr (t23) => (K (.inl (t23.1, (((), ((), ((), (t23.2.1.2.2.2.1, ((), (t23.2.1.2.2.2.2.2.1, ())))))), (t23.2.2.1, (t23.2.2.2.1, ()))))))))))
def QR (k : Nat) (name : ByteArray) (b0 : Qg0) (b1 : Qg4) (b2 : Qg4) : Option QR.τ := QR.c k name b0 b1 b2 some
def QR.T : Q1g := ⟨[.ptr 0 [], .dat .str], [.pair (.mp 1) (.pair (.mp 2) (.pair (.nils) (.pair (.dat (.int .i64)) (.pair (.nils) (.dat Qg5))))), .mpd .str .str, .mpd .str .str], 3⟩
def QR.os : List Out := [⟨.ret, [.freeze (.slot 0), .auto 3], ⟨[.dat (.int .i64)], [.pair (.mp 1) (.pair (.mp 2) (.pair (.nils) (.pair (.dat (.int .i64)) (.pair (.nils) (.dat Qg5))))), .mpd .str .str, .mpd .str .str]⟩⟩, ⟨.ret, [.freeze (.slot 0), .auto 3], ⟨[.dat (.int .i64)], [.pair (.mp 1) (.pair (.mp 2) (.pair (.vsl 3) (.pair (.dat (.int .i64)) (.pair (.nils) (.dat Qg5))))), .mpd .str .str, .mpd .str .str, .vec QfV]⟩⟩]
def QR.sem (k : Nat) : QS := Q1i QR.T QR.os fun x => QR k x.1 x.2.1 x.2.2.1 x.2.2.2.1
noncomputable def QR.ctx (k : Nat) : Ctx := ⟨Try.prog, gam [(86, (Q0R.sem k)), (55, (Q0L.sem k)), (9, (Q08.sem k)), (72, (Q25 (Q2b Q0a.T) (Q0a.sem k) (Q0o.sem k))), (56, (Q25 (Q2b Qg.T) (Qg.sem k) (Q9.sem k)))]⟩
theorem QR.gok (k : Nat) : ∀ f, Qz Try.prog f ((QR.ctx k).Γ f) := (Qk (Q0R.sem_ok k) (Qk (Q0L.sem_ok k) (Qk (Q08.sem_ok k) (Qk (Q1z (Q0a.sem_ok k) (Q0o.sem_ok k)) (Qk (Q1z (Qg.sem_ok k) (Q9.sem_ok k)) Q0f)))))
theorem QR.p0.is (k : Nat) : Q1t (QR.ctx k) (QV (Func.code Try.f75) [1, 0]) (.nil) QR.p0.T QR.p0.os (QR.p0.r k) := by
 intro ρ x K; kernel_rfl
theorem QR.p0.ok (k : Nat) : StOK 3 Try.prog (QV (Func.code Try.f75) [1, 0]) (Qf QR.p0.T QR.p0.os (QR.p0 k)) :=
 Q1m (C := QR.ctx k) (T := QR.p0.T) (os := QR.p0.os) (QR.gok k) Try.mix (fun x K => QR.p0.r k x K) Q1.nil (by kernel_rfl) (by kernel_rfl) (QR.p0.is k)
def QR.ann (k : Nat) : Ann := .node [] none (.nil) (.node [] none (.node [.mask [0, 1], .auto 3] (some (Qf QR.p0.T QR.p0.os (QR.p0 k))) .nil .nil) (.nil))
theorem QR.body (k : Nat) : Q1j (QR.ctx k) Try.f75 (Func.code Try.f75) (QR.ann k) QR.T QR.os (fun x K => QR.c k x.1 x.2.1 x.2.2.1 x.2.2.2.1 K) := by
 intro ρ x K; kernel_rfl
theorem QR.sem_ok (k : Nat) : Qz Try.prog 75 (QR.sem k) :=
 Q0q (C := QR.ctx k) (QR.gok k) Try.mix (c := Func.code Try.f75) (ann := QR.ann k) (T := QR.T) (os := QR.os) (fun x K => QR.c k x.1 x.2.1 x.2.2.1 x.2.2.2.1 K) Try.func75 (by kernel_rfl) (by kernel_rfl) (Q1.seq Q1.nil (Q1.seq (Q1.loop (by kernel_rfl) (QR.p0.ok k)) Q1.nil)) (QR.body k) (by kernel_rfl) (by kernel_rfl) (by kernel_rfl)
abbrev QH.p0.σ : Type := ByteArray × ByteArray × Int × Qg0 × Qg4 × Qg4 × Unit
abbrev QH.p0.τ : Type := QfP ⊕ QfO 
def QH.p0.r (k : Nat) {ρ : Type} (x : QH.p0.σ) (K : QH.p0.τ → Option ρ) : Option ρ :=
 bif (x.2.2.1 != (0 : Int)) then (bif (x.2.2.1 != (2 : Int)) then (K (.inl ((⟨(List.toArray [])⟩ : ByteArray), (x.2.2.1, (((), ((), ((), (x.2.2.2.1.2.2.2.1, ((), (x.2.2.2.1.2.2.2.2.2.1, ())))))), (x.2.2.2.2.1, (x.2.2.2.2.2.1, ()))))))) else (K (.inr (x.1, (x.2.1, (((), ((), ((), (x.2.2.2.1.2.2.2.1, ((), (x.2.2.2.1.2.2.2.2.2.1, ())))))), (x.2.2.2.2.1, (x.2.2.2.2.2.1, ())))))))) else (K (.inr (x.1, (x.2.1, (((), ((), ((), (x.2.2.2.1.2.2.2.1, ((), (x.2.2.2.1.2.2.2.2.2.1, ())))))), (x.2.2.2.2.1, (x.2.2.2.2.2.1, ())))))))
def QH.p0 (k : Nat) (x : QH.p0.σ) : Option QH.p0.τ := QH.p0.r k x some
def QH.p0.T : StT := ⟨.ptr 0 [] :: .dat .str :: us 4 ++ .dat .str :: .dat (.int .i64) :: us 25, [.pair (.mp 1) (.pair (.mp 2) (.pair (.nils) (.pair (.dat (.int .i64)) (.pair (.nils) (.dat Qg5))))), .mpd .str .str, .mpd .str .str]⟩
def QH.p0.os : List Out := [⟨.ret, [.mask [4, 5], .auto 3], ⟨us 4 ++ .dat .str :: .dat (.int .i64) :: us 27, [.pair (.mp 1) (.pair (.mp 2) (.pair (.nils) (.pair (.dat (.int .i64)) (.pair (.nils) (.dat Qg5))))), .mpd .str .str, .mpd .str .str]⟩⟩, ⟨.normal, [.mask [0, 1, 6], .auto 3], ⟨.ptr 0 [] :: .dat .str :: us 4 ++ .dat .str :: us 26, [.pair (.mp 1) (.pair (.mp 2) (.pair (.nils) (.pair (.dat (.int .i64)) (.pair (.nils) (.dat Qg5))))), .mpd .str .str, .mpd .str .str]⟩⟩]
abbrev QH.τ : Type := QfP ⊕ QfI 
def QH.c (k : Nat) {ρ : Type} (name : ByteArray) (b0 : Qg0) (b1 : Qg4) (b2 : Qg4) (K : QH.τ → Option ρ) : Option ρ :=
  (Q0K k name ((), ((), ((), (b0.2.2.2.1, ((), (b0.2.2.2.2.2.1, ())))))) b1 b2).bind fun t0 => let v1 : ByteArray := t0.1
  let v2 : Int := t0.2.1
  (QH.p0 k (name, (v1, (v2, (((), ((), ((), (t0.2.2.1.2.2.2.1, ((), (t0.2.2.1.2.2.2.2.2.1, ())))))), (t0.2.2.2.1, (t0.2.2.2.2.1, ()))))))).bind fun t3 => (match t3 with
 | .inl t4 => (K (.inl (t4.1, (t4.2.1, (((), ((), ((), (t4.2.2.1.2.2.2.1, ((), (t4.2.2.1.2.2.2.2.2.1, ())))))), (t4.2.2.2.1, (t4.2.2.2.2.1, ())))))))
 | .inr (t5) => (let v6 : Int := (((ByteArray.size t5.2.1) : Nat) : Int)
  bif (decide (v6 ≥ (20 : Int))) then (K (.inl (t5.2.1, ((0 : Int), (((), ((), ((), (t5.2.2.1.2.2.2.1, ((), (t5.2.2.1.2.2.2.2.2.1, ())))))), (t5.2.2.2.1, (t5.2.2.2.2.1, ()))))))) else ((QR k t5.1 ((), ((), ((), (t5.2.2.1.2.2.2.1, ((), (t5.2.2.1.2.2.2.2.2.1, ())))))) t5.2.2.2.1 t5.2.2.2.2.1).bind fun t7 => (match t7 with
 | .inl t8 => (bif (t8.1 != (0 : Int)) then (K (.inl ((⟨(List.toArray [])⟩ : ByteArray), (t8.1, (((), ((), ((), (t8.2.1.2.2.2.1, ((), (t8.2.1.2.2.2.2.2.1, ())))))), (t8.2.2.1, (t8.2.2.2.1, ()))))))) else ((Q08 k (0 : Int)).bind fun t9 => K (.inl (t9.1, ((0 : Int), (((), ((), ((), (t8.2.1.2.2.2.1, ((), (t8.2.1.2.2.2.2.2.1, ())))))), (t8.2.2.1, (t8.2.2.2.1, ()))))))))
 | .inr (t10) => (bif (t10.1 != (0 : Int)) then (K (.inr ((⟨(List.toArray [])⟩ : ByteArray), (t10.1, (((), ((), ((), (t10.2.1.2.2.2.1, ((), (t10.2.1.2.2.2.2.2.1, ())))))), (t10.2.2.1, (t10.2.2.2.1, (t10.2.2.2.2.1, ())))))))) else ((Q08 k (0 : Int)).bind fun t11 => K (.inr (t11.1, ((0 : Int), (((), ((), ((), (t10.2.1.2.2.2.1, ((), (t10.2.1.2.2.2.2.2.1, ())))))), (t10.2.2.1, (t10.2.2.2.1, (t10.2.2.2.2.1, ())))))))))))))
def QH (k : Nat) (name : ByteArray) (b0 : Qg0) (b1 : Qg4) (b2 : Qg4) : Option QH.τ := QH.c k name b0 b1 b2 some
def QH.T : Q1g := ⟨[.ptr 0 [], .dat .str], [.pair (.mp 1) (.pair (.mp 2) (.pair (.nils) (.pair (.dat (.int .i64)) (.pair (.nils) (.dat Qg5))))), .mpd .str .str, .mpd .str .str], 3⟩
def QH.os : List Out := [⟨.ret, [.freeze (.slot 0), .freeze (.slot 1), .auto 3], ⟨[.dat .str, .dat (.int .i64)], [.pair (.mp 1) (.pair (.mp 2) (.pair (.nils) (.pair (.dat (.int .i64)) (.pair (.nils) (.dat Qg5))))), .mpd .str .str, .mpd .str .str]⟩⟩, ⟨.ret, [.freeze (.slot 0), .freeze (.slot 1), .auto 3], ⟨[.dat .str, .dat (.int .i64)], [.pair (.mp 1) (.pair (.mp 2) (.pair (.vsl 3) (.pair (.dat (.int .i64)) (.pair (.nils) (.dat Qg5))))), .mpd .str .str, .mpd .str .str, .vec QfV]⟩⟩]
def QH.sem (k : Nat) : QS := Q1i QH.T QH.os fun x => QH k x.1 x.2.1 x.2.2.1 x.2.2.2.1
noncomputable def QH.ctx (k : Nat) : Ctx := ⟨Try.prog, gam [(51, (Q0K.sem k)), (75, (QR.sem k)), (9, (Q08.sem k))]⟩
theorem QH.gok (k : Nat) : ∀ f, Qz Try.prog f ((QH.ctx k).Γ f) := (Qk (Q0K.sem_ok k) (Qk (QR.sem_ok k) (Qk (Q08.sem_ok k) Q0f)))
theorem QH.p0.is (k : Nat) : Q1t (QH.ctx k) (QV (Func.code Try.f53) [1, 1, 0]) (.nil) QH.p0.T QH.p0.os (QH.p0.r k) := by
 intro ρ x K; kernel_rfl
theorem QH.p0.ok (k : Nat) : StOK 3 Try.prog (QV (Func.code Try.f53) [1, 1, 0]) (Qf QH.p0.T QH.p0.os (QH.p0 k)) :=
 Q1m (C := QH.ctx k) (T := QH.p0.T) (os := QH.p0.os) (QH.gok k) Try.mix (fun x K => QH.p0.r k x K) Q1.nil (by kernel_rfl) (by kernel_rfl) (QH.p0.is k)
def QH.ann (k : Nat) : Ann := .node [] none (.nil) (.node [] none (.nil) (.node [] none (.node [.mask [0, 1, 6, 7], .auto 3] (some (Qf QH.p0.T QH.p0.os (QH.p0 k))) .nil .nil) (.nil)))
theorem QH.body (k : Nat) : Q1j (QH.ctx k) Try.f53 (Func.code Try.f53) (QH.ann k) QH.T QH.os (fun x K => QH.c k x.1 x.2.1 x.2.2.1 x.2.2.2.1 K) := by
 intro ρ x K; kernel_rfl
theorem QH.sem_ok (k : Nat) : Qz Try.prog 53 (QH.sem k) :=
 Q0q (C := QH.ctx k) (QH.gok k) Try.mix (c := Func.code Try.f53) (ann := QH.ann k) (T := QH.T) (os := QH.os) (fun x K => QH.c k x.1 x.2.1 x.2.2.1 x.2.2.2.1 K) Try.func53 (by kernel_rfl) (by kernel_rfl) (Q1.seq Q1.nil (Q1.seq Q1.nil (Q1.seq (Q1.loop (by kernel_rfl) (QH.p0.ok k)) Q1.nil))) (QH.body k) (by kernel_rfl) (by kernel_rfl) (by kernel_rfl)
abbrev QZ.l0.σ : Type := Int × (List ByteArray) × Int × Int × (List Int) × Unit
abbrev QZ.l0.τ : Type := ((List Int) × Unit)
def QZ.l0.r (k : Nat) {ρ : Type} (x : QZ.l0.σ) (kn : QZ.l0.σ → Option ρ) (ke : QZ.l0.τ → Option ρ) : Option ρ :=
 bif (decide (x.2.2.2.1 < x.2.2.1)) then (bif (decide (((0 : Int) ≤ x.2.2.2.1) ∧ (x.2.2.2.1 < (((List.length x.2.1) : Nat) : Int)))) then (let v0 : ByteArray := (List.getD x.2.1 (Int.toNat x.2.2.2.1) ByteArray.empty)
 let v1 : Int := (IntKind.wrap IntKind.i64 ((12 : Int) + (((ByteArray.size v0) : Nat) : Int)))
 let v2 : Int := (IntKind.wrap IntKind.i64 (v1 + (4 : Int)))
 let v3 : Int := (IntKind.wrap IntKind.i64 (x.1 + v2))
 bif (Nat.ble (((List.length x.2.2.2.2.1) + (List.length (List.set (List.replicate 1 (0 : Int)) 0 v3))) * 8) 140737488355328) then (let v4 : Int := (IntKind.wrap IntKind.i64 (x.2.2.2.1 + (1 : Int)))
 kn (v3, (x.2.1, (x.2.2.1, (v4, ((x.2.2.2.2.1 ++ (List.set (List.replicate 1 (0 : Int)) 0 v3)), ())))))) else (none)) else (none)) else (ke (x.2.2.2.2.1, ()))
def QZ.l0 (k : Nat) : Nat → QZ.l0.σ → Option QZ.l0.τ := Q1p (QZ.l0.r k)
def QZ.l0.T : StT := ⟨us 3 ++ .vsl 0 :: .dat (.int .i64) :: us 2 ++ .dat (.sl .str) :: .dat (.int .i64) :: .dat (.int .i64) :: us 15, [.vec (.int .i64)]⟩
def QZ.l0.os : List Out := [⟨(.exit 0), [.mask [3], .auto 0], ⟨us 3 ++ .vsl 0 :: us 21, [.vec (.int .i64)]⟩⟩]
abbrev QZ.τ : Type := ((List Int) × Unit)
def QZ.c (k : Nat) {ρ : Type} (l : (List ByteArray)) (K : QZ.τ → Option ρ) : Option ρ :=
 (QZ.l0 k k ((20 : Int), (l, ((((List.length l) : Nat) : Int), ((0 : Int), ([], ())))))).bind fun t5 => K (t5.1, ())
def QZ (k : Nat) (l : (List ByteArray)) : Option QZ.τ := QZ.c k l some
def QZ.T : Q1g := ⟨[.dat (.sl .str)], [], 0⟩
def QZ.os : List Out := [⟨.ret, [.auto 0], ⟨[.vsl 0], [.vec (.int .i64)]⟩⟩]
def QZ.sem (k : Nat) : QS := Q1i QZ.T QZ.os fun x => QZ k x.1
noncomputable def QZ.ctx (k : Nat) : Ctx := ⟨Try.prog, gam []⟩
theorem QZ.gok (k : Nat) : ∀ f, Qz Try.prog f ((QZ.ctx k).Γ f) := Q0f
theorem QZ.l0.round (k : Nat) : Q1n (QZ.ctx k) (QV (Func.code Try.f54) [1, 1, 1, 0, 1, 0, 0]) (.nil) QZ.l0.T [.mask [3, 4, 7, 8, 9], .auto 0] QZ.l0.os (QZ.l0.r k) := by
 intro ρ x kn ke; kernel_rfl
theorem QZ.l0.ok (k : Nat) : StOK 0 Try.prog (.loop (QV (Func.code Try.f54) [1, 1, 1, 0, 1, 0, 0])) (Qf QZ.l0.T QZ.l0.os (QZ.l0 k k)) :=
 Q1o (C := QZ.ctx k) (QZ.gok k) Try.mix Q1.nil (by kernel_rfl) (by kernel_rfl) (by kernel_rfl) (QZ.l0.round k) k
def QZ.ann (k : Nat) : Ann := .node [] none (.nil) (.node [] none (.nil) (.node [] none (.nil) (.node [] none (.node [] none (.nil) (.node [] none (.node [.own (.slot 3) (.int .i64)] (some (Qf QZ.l0.T QZ.l0.os (QZ.l0 k k))) .nil .nil) (.nil))) (.nil))))
theorem QZ.body (k : Nat) : Q1j (QZ.ctx k) Try.f54 (Func.code Try.f54) (QZ.ann k) QZ.T QZ.os (fun x K => QZ.c k x.1 K) := by
 intro ρ x K; kernel_rfl
theorem QZ.sem_ok (k : Nat) : Qz Try.prog 54 (QZ.sem k) :=
 Q0q (C := QZ.ctx k) (QZ.gok k) Try.mix (c := Func.code Try.f54) (ann := QZ.ann k) (T := QZ.T) (os := QZ.os) (fun x K => QZ.c k x.1 K) Try.func54 (by kernel_rfl) (by kernel_rfl) (Q1.seq Q1.nil (Q1.seq Q1.nil (Q1.seq Q1.nil (Q1.seq (Q1.seq Q1.nil (Q1.block (Q1.loop (by kernel_rfl) (QZ.l0.ok k)))) Q1.nil)))) (QZ.body k) (by kernel_rfl) (by kernel_rfl) (by kernel_rfl)
abbrev Q0i.τ : Type := QfI 
def Q0i.c (k : Nat) {ρ : Type} (name : ByteArray) (b0 : Qg0) (b1 : Qg4) (b2 : Qg4) (b3 : QfX) (K : Q0i.τ → Option ρ) : Option ρ :=
 (Q0C k (List.set (List.replicate 1 ByteArray.empty) 0 name) ((), ((), ((), (b0.2.2.2.1, ((), (b0.2.2.2.2.2.1, ())))))) b1 b2 b3).bind fun t0 => bif (t0.1 != (0 : Int)) then (K ((⟨(List.toArray [])⟩ : ByteArray), (t0.1, (((), ((), ((), (t0.2.1.2.2.2.1, ((), (t0.2.1.2.2.2.2.2.1, ())))))), (t0.2.2.1, (t0.2.2.2.1, (t0.2.2.2.2.1, ()))))))) else (let v1 : ByteArray := (Option.getD (mget Ty.str name t0.2.2.2.1) ByteArray.empty)
 bif (!(Option.isSome (mget Ty.str name t0.2.2.2.1))) then (K ((⟨(List.toArray [])⟩ : ByteArray), ((2 : Int), (((), ((), ((), (t0.2.1.2.2.2.1, ((), (t0.2.1.2.2.2.2.2.1, ())))))), (t0.2.2.1, (t0.2.2.2.1, (t0.2.2.2.2.1, ()))))))) else (K (v1, ((0 : Int), (((), ((), ((), (t0.2.1.2.2.2.1, ((), (t0.2.1.2.2.2.2.2.1, ())))))), (t0.2.2.1, (t0.2.2.2.1, (t0.2.2.2.2.1, ()))))))))
def Q0i (k : Nat) (name : ByteArray) (b0 : Qg0) (b1 : Qg4) (b2 : Qg4) (b3 : QfX) : Option Q0i.τ := Q0i.c k name b0 b1 b2 b3 some
def Q0i.T : Q1g := ⟨[.ptr 0 [], .dat .str], [.pair (.mp 1) (.pair (.mp 2) (.pair (.vsl 3) (.pair (.dat (.int .i64)) (.pair (.nils) (.dat Qg5))))), .mpd .str .str, .mpd .str .str, .vec QfV], 3⟩
def Q0i.os : List Out := [⟨.ret, [.freeze (.slot 0), .freeze (.slot 1), .auto 3], ⟨[.dat .str, .dat (.int .i64)], [.pair (.mp 1) (.pair (.mp 2) (.pair (.vsl 3) (.pair (.dat (.int .i64)) (.pair (.nils) (.dat Qg5))))), .mpd .str .str, .mpd .str .str, .vec QfV]⟩⟩]
def Q0i.sem (k : Nat) : QS := Q1i Q0i.T Q0i.os fun x => Q0i k x.1 x.2.1 x.2.2.1 x.2.2.2.1 x.2.2.2.2.1
noncomputable def Q0i.ctx (k : Nat) : Ctx := ⟨Try.prog, gam [(79, (Q0C.sem k))]⟩
theorem Q0i.gok (k : Nat) : ∀ f, Qz Try.prog f ((Q0i.ctx k).Γ f) := (Qk (Q0C.sem_ok k) Q0f)
def Q0i.ann (k : Nat) : Ann := .nil
theorem Q0i.body (k : Nat) : Q1j (Q0i.ctx k) Try.f73 (Func.code Try.f73) (Q0i.ann k) Q0i.T Q0i.os (fun x K => Q0i.c k x.1 x.2.1 x.2.2.1 x.2.2.2.1 x.2.2.2.2.1 K) := by
 intro ρ x K; kernel_rfl
theorem Q0i.sem_ok (k : Nat) : Qz Try.prog 73 (Q0i.sem k) :=
 Q0q (C := Q0i.ctx k) (Q0i.gok k) Try.mix (c := Func.code Try.f73) (ann := Q0i.ann k) (T := Q0i.T) (os := Q0i.os) (fun x K => Q0i.c k x.1 x.2.1 x.2.2.1 x.2.2.2.1 x.2.2.2.2.1 K) Try.func73 (by kernel_rfl) (by kernel_rfl) Q1.nil (Q0i.body k) (by kernel_rfl) (by kernel_rfl) (by kernel_rfl)
abbrev Q0r.τ : Type := QfL 
def Q0r.c (k : Nat) {ρ : Type} (name : ByteArray) (n : Int) (b0 : Qg0) (b1 : Qg4) (b2 : Qg4) (b3 : QfX) (K : Q0r.τ → Option ρ) : Option ρ :=
 (Q0i k name ((), ((), ((), (b0.2.2.2.1, ((), (b0.2.2.2.2.2.1, ())))))) b1 b2 b3).bind fun t0 => let v1 : ByteArray := t0.1
 let v2 : Int := t0.2.1
 bif (v2 != (0 : Int)) then (K (v2, (((), ((), ((), (t0.2.2.1.2.2.2.1, ((), (t0.2.2.1.2.2.2.2.2.1, ())))))), (t0.2.2.2.1, (t0.2.2.2.2.1, (t0.2.2.2.2.2.1, ())))))) else (bif (decide (n < (0 : Int))) then (K ((1 : Int), (((), ((), ((), (t0.2.2.1.2.2.2.1, ((), (t0.2.2.1.2.2.2.2.2.1, ())))))), (t0.2.2.2.1, (t0.2.2.2.2.1, (t0.2.2.2.2.2.1, ())))))) else (bif (decide (n > (((ByteArray.size v1) : Nat) : Int))) then (K ((1 : Int), (((), ((), ((), (t0.2.2.1.2.2.2.1, ((), (t0.2.2.1.2.2.2.2.2.1, ())))))), (t0.2.2.2.1, (t0.2.2.2.2.1, (t0.2.2.2.2.2.1, ())))))) else ((Q0t k ((1 : Int), (name, ((⟨(List.toArray [])⟩ : ByteArray), (n, ((⟨(List.toArray [])⟩ : ByteArray), ()))))) ((), ((), ((), (t0.2.2.1.2.2.2.1, ((), (t0.2.2.1.2.2.2.2.2.1, ())))))) t0.2.2.2.1 t0.2.2.2.2.1 t0.2.2.2.2.2.1).bind fun t3 => K (t3.1, (((), ((), ((), (t3.2.1.2.2.2.1, ((), (t3.2.1.2.2.2.2.2.1, ())))))), (t3.2.2.1, (t3.2.2.2.1, (t3.2.2.2.2.1, ()))))))))
def Q0r (k : Nat) (name : ByteArray) (n : Int) (b0 : Qg0) (b1 : Qg4) (b2 : Qg4) (b3 : QfX) : Option Q0r.τ := Q0r.c k name n b0 b1 b2 b3 some
def Q0r.T : Q1g := ⟨[.ptr 0 [], .dat .str, .dat (.int .i64)], [.pair (.mp 1) (.pair (.mp 2) (.pair (.vsl 3) (.pair (.dat (.int .i64)) (.pair (.nils) (.dat Qg5))))), .mpd .str .str, .mpd .str .str, .vec QfV], 3⟩
def Q0r.os : List Out := [⟨.ret, [.freeze (.slot 0), .auto 3], ⟨[.dat (.int .i64)], [.pair (.mp 1) (.pair (.mp 2) (.pair (.vsl 3) (.pair (.dat (.int .i64)) (.pair (.nils) (.dat Qg5))))), .mpd .str .str, .mpd .str .str, .vec QfV]⟩⟩]
def Q0r.sem (k : Nat) : QS := Q1i Q0r.T Q0r.os fun x => Q0r k x.1 x.2.1 x.2.2.1 x.2.2.2.1 x.2.2.2.2.1 x.2.2.2.2.2.1
noncomputable def Q0r.ctx (k : Nat) : Ctx := ⟨Try.prog, gam [(73, (Q0i.sem k)), (74, (Q0t.sem k))]⟩
theorem Q0r.gok (k : Nat) : ∀ f, Qz Try.prog f ((Q0r.ctx k).Γ f) := (Qk (Q0i.sem_ok k) (Qk (Q0t.sem_ok k) Q0f))
def Q0r.ann (k : Nat) : Ann := .nil
theorem Q0r.body (k : Nat) : Q1j (Q0r.ctx k) Try.f55 (Func.code Try.f55) (Q0r.ann k) Q0r.T Q0r.os (fun x K => Q0r.c k x.1 x.2.1 x.2.2.1 x.2.2.2.1 x.2.2.2.2.1 x.2.2.2.2.2.1 K) := by
 intro ρ x K; kernel_rfl
theorem Q0r.sem_ok (k : Nat) : Qz Try.prog 55 (Q0r.sem k) :=
 Q0q (C := Q0r.ctx k) (Q0r.gok k) Try.mix (c := Func.code Try.f55) (ann := Q0r.ann k) (T := Q0r.T) (os := Q0r.os) (fun x K => Q0r.c k x.1 x.2.1 x.2.2.1 x.2.2.2.1 x.2.2.2.2.1 x.2.2.2.2.2.1 K) Try.func55 (by kernel_rfl) (by kernel_rfl) Q1.nil (Q0r.body k) (by kernel_rfl) (by kernel_rfl) (by kernel_rfl)
abbrev Q0E.τ : Type := QfI 
def Q0E.c (k : Nat) {ρ : Type} (name : ByteArray) (b0 : Qg0) (b1 : Qg4) (b2 : Qg4) (b3 : QfX) (K : Q0E.τ → Option ρ) : Option ρ :=
 (Q0i k name ((), ((), ((), (b0.2.2.2.1, ((), (b0.2.2.2.2.2.1, ())))))) b1 b2 b3).bind fun t0 => let v1 : ByteArray := t0.1
 let v2 : Int := t0.2.1
 K (v1, (v2, (((), ((), ((), (t0.2.2.1.2.2.2.1, ((), (t0.2.2.1.2.2.2.2.2.1, ())))))), (t0.2.2.2.1, (t0.2.2.2.2.1, (t0.2.2.2.2.2.1, ()))))))
def Q0E (k : Nat) (name : ByteArray) (b0 : Qg0) (b1 : Qg4) (b2 : Qg4) (b3 : QfX) : Option Q0E.τ := Q0E.c k name b0 b1 b2 b3 some
def Q0E.T : Q1g := ⟨[.ptr 0 [], .dat .str], [.pair (.mp 1) (.pair (.mp 2) (.pair (.vsl 3) (.pair (.dat (.int .i64)) (.pair (.nils) (.dat Qg5))))), .mpd .str .str, .mpd .str .str, .vec QfV], 3⟩
def Q0E.os : List Out := [⟨.ret, [.freeze (.slot 0), .freeze (.slot 1), .auto 3], ⟨[.dat .str, .dat (.int .i64)], [.pair (.mp 1) (.pair (.mp 2) (.pair (.vsl 3) (.pair (.dat (.int .i64)) (.pair (.nils) (.dat Qg5))))), .mpd .str .str, .mpd .str .str, .vec QfV]⟩⟩]
def Q0E.sem (k : Nat) : QS := Q1i Q0E.T Q0E.os fun x => Q0E k x.1 x.2.1 x.2.2.1 x.2.2.2.1 x.2.2.2.2.1
noncomputable def Q0E.ctx (k : Nat) : Ctx := ⟨Try.prog, gam [(73, (Q0i.sem k))]⟩
theorem Q0E.gok (k : Nat) : ∀ f, Qz Try.prog f ((Q0E.ctx k).Γ f) := (Qk (Q0i.sem_ok k) Q0f)
def Q0E.ann (k : Nat) : Ann := .nil
theorem Q0E.body (k : Nat) : Q1j (Q0E.ctx k) Try.f51 (Func.code Try.f51) (Q0E.ann k) Q0E.T Q0E.os (fun x K => Q0E.c k x.1 x.2.1 x.2.2.1 x.2.2.2.1 x.2.2.2.2.1 K) := by
 intro ρ x K; kernel_rfl
theorem Q0E.sem_ok (k : Nat) : Qz Try.prog 51 (Q0E.sem k) :=
 Q0q (C := Q0E.ctx k) (Q0E.gok k) Try.mix (c := Func.code Try.f51) (ann := Q0E.ann k) (T := Q0E.T) (os := Q0E.os) (fun x K => Q0E.c k x.1 x.2.1 x.2.2.1 x.2.2.2.1 x.2.2.2.2.1 K) Try.func51 (by kernel_rfl) (by kernel_rfl) Q1.nil (Q0E.body k) (by kernel_rfl) (by kernel_rfl) (by kernel_rfl)
abbrev Q0Q.τ : Type := (Int × Int × Qg0 × Qg4 × Qg4 × QfX × Unit)
def Q0Q.c (k : Nat) {ρ : Type} (name : ByteArray) (b0 : Qg0) (b1 : Qg4) (b2 : Qg4) (b3 : QfX) (K : Q0Q.τ → Option ρ) : Option ρ :=
 (Q0i k name ((), ((), ((), (b0.2.2.2.1, ((), (b0.2.2.2.2.2.1, ())))))) b1 b2 b3).bind fun t0 => let v1 : ByteArray := t0.1
 let v2 : Int := t0.2.1
 K ((((ByteArray.size v1) : Nat) : Int), (v2, (((), ((), ((), (t0.2.2.1.2.2.2.1, ((), (t0.2.2.1.2.2.2.2.2.1, ())))))), (t0.2.2.2.1, (t0.2.2.2.2.1, (t0.2.2.2.2.2.1, ()))))))
def Q0Q (k : Nat) (name : ByteArray) (b0 : Qg0) (b1 : Qg4) (b2 : Qg4) (b3 : QfX) : Option Q0Q.τ := Q0Q.c k name b0 b1 b2 b3 some
def Q0Q.T : Q1g := ⟨[.ptr 0 [], .dat .str], [.pair (.mp 1) (.pair (.mp 2) (.pair (.vsl 3) (.pair (.dat (.int .i64)) (.pair (.nils) (.dat Qg5))))), .mpd .str .str, .mpd .str .str, .vec QfV], 3⟩
def Q0Q.os : List Out := [⟨.ret, [.freeze (.slot 0), .freeze (.slot 1), .auto 3], ⟨[.dat (.int .i64), .dat (.int .i64)], [.pair (.mp 1) (.pair (.mp 2) (.pair (.vsl 3) (.pair (.dat (.int .i64)) (.pair (.nils) (.dat Qg5))))), .mpd .str .str, .mpd .str .str, .vec QfV]⟩⟩]
def Q0Q.sem (k : Nat) : QS := Q1i Q0Q.T Q0Q.os fun x => Q0Q k x.1 x.2.1 x.2.2.1 x.2.2.2.1 x.2.2.2.2.1
noncomputable def Q0Q.ctx (k : Nat) : Ctx := ⟨Try.prog, gam [(73, (Q0i.sem k))]⟩
theorem Q0Q.gok (k : Nat) : ∀ f, Qz Try.prog f ((Q0Q.ctx k).Γ f) := (Qk (Q0i.sem_ok k) Q0f)
def Q0Q.ann (k : Nat) : Ann := .nil
theorem Q0Q.body (k : Nat) : Q1j (Q0Q.ctx k) Try.f86 (Func.code Try.f86) (Q0Q.ann k) Q0Q.T Q0Q.os (fun x K => Q0Q.c k x.1 x.2.1 x.2.2.1 x.2.2.2.1 x.2.2.2.2.1 K) := by
 intro ρ x K; kernel_rfl
theorem Q0Q.sem_ok (k : Nat) : Qz Try.prog 86 (Q0Q.sem k) :=
 Q0q (C := Q0Q.ctx k) (Q0Q.gok k) Try.mix (c := Func.code Try.f86) (ann := Q0Q.ann k) (T := Q0Q.T) (os := Q0Q.os) (fun x K => Q0Q.c k x.1 x.2.1 x.2.2.1 x.2.2.2.1 x.2.2.2.2.1 K) Try.func86 (by kernel_rfl) (by kernel_rfl) Q1.nil (Q0Q.body k) (by kernel_rfl) (by kernel_rfl) (by kernel_rfl)
abbrev QM.p0.σ : Type := ByteArray × Qg0 × Qg4 × Qg4 × QfX × Unit
abbrev QM.p0.τ : Type := QfL ⊕ QfJ 
def QM.p0.r (k : Nat) {ρ : Type} (x : QM.p0.σ) (K : QM.p0.τ → Option ρ) : Option ρ :=
 (Q0Q k x.1 ((), ((), ((), (x.2.1.2.2.2.1, ((), (x.2.1.2.2.2.2.2.1, ())))))) x.2.2.1 x.2.2.2.1 x.2.2.2.2.1).bind fun t0 => let v1 : Int := t0.1
 let v2 : Int := t0.2.1
 bif (v2 == (0 : Int)) then ((Q0r k x.1 (0 : Int) ((), ((), ((), (t0.2.2.1.2.2.2.1, ((), (t0.2.2.1.2.2.2.2.2.1, ())))))) t0.2.2.2.1 t0.2.2.2.2.1 t0.2.2.2.2.2.1).bind fun t3 => bif (t3.1 != (0 : Int)) then (K (.inl (t3.1, (((), ((), ((), (t3.2.1.2.2.2.1, ((), (t3.2.1.2.2.2.2.2.1, ())))))), (t3.2.2.1, (t3.2.2.2.1, (t3.2.2.2.2.1, ()))))))) else (K (.inr (x.1, (((), ((), ((), (t3.2.1.2.2.2.1, ((), (t3.2.1.2.2.2.2.2.1, ())))))), (t3.2.2.1, (t3.2.2.2.1, (t3.2.2.2.2.1, ())))))))) else (K (.inr (x.1, (((), ((), ((), (t0.2.2.1.2.2.2.1, ((), (t0.2.2.1.2.2.2.2.2.1, ())))))), (t0.2.2.2.1, (t0.2.2.2.2.1, (t0.2.2.2.2.2.1, ())))))))
def QM.p0 (k : Nat) (x : QM.p0.σ) : Option QM.p0.τ := QM.p0.r k x some
def QM.p0.T : StT := ⟨.ptr 0 [] :: .dat .str :: us 30, [.pair (.mp 1) (.pair (.mp 2) (.pair (.vsl 3) (.pair (.dat (.int .i64)) (.pair (.nils) (.dat Qg5))))), .mpd .str .str, .mpd .str .str, .vec QfV]⟩
def QM.p0.os : List Out := [⟨.ret, [.mask [4], .auto 3], ⟨us 4 ++ .dat (.int .i64) :: us 27, [.pair (.mp 1) (.pair (.mp 2) (.pair (.vsl 3) (.pair (.dat (.int .i64)) (.pair (.nils) (.dat Qg5))))), .mpd .str .str, .mpd .str .str, .vec QfV]⟩⟩, ⟨.normal, [.mask [0, 1], .auto 3], ⟨.ptr 0 [] :: .dat .str :: us 30, [.pair (.mp 1) (.pair (.mp 2) (.pair (.vsl 3) (.pair (.dat (.int .i64)) (.pair (.nils) (.dat Qg5))))), .mpd .str .str, .mpd .str .str, .vec QfV]⟩⟩]
abbrev QM.τ : Type := QfL ⊕ QfT 
def QM.c (k : Nat) {ρ : Type} (name : ByteArray) (b0 : Qg0) (b1 : Qg4) (b2 : Qg4) (b3 : QfX) (K : QM.τ → Option ρ) : Option ρ :=
  (QM.p0 k (name, (((), ((), ((), (b0.2.2.2.1, ((), (b0.2.2.2.2.2.1, ())))))), (b1, (b2, (b3, ())))))).bind fun t4 => (match t4 with
 | .inl t5 => (K (.inl (t5.1, (((), ((), ((), (t5.2.1.2.2.2.1, ((), (t5.2.1.2.2.2.2.2.1, ())))))), (t5.2.2.1, (t5.2.2.2.1, (t5.2.2.2.2.1, ())))))))
 | .inr (t6) => ((Q08 k (0 : Int)).bind fun t7 => (Q0o k t6.1 (0 : Int) t7.1 ((), ((), ((), (t6.2.1.2.2.2.1, ((), (t6.2.1.2.2.2.2.2.1, ())))))) t6.2.2.1 t6.2.2.2.1 t6.2.2.2.2.1).bind fun t8 => bif (t8.1 != (0 : Int)) then (K (.inl (t8.1, (((), ((), ((), (t8.2.1.2.2.2.1, ((), (t8.2.1.2.2.2.2.2.1, ())))))), (t8.2.2.1, (t8.2.2.2.1, (t8.2.2.2.2.1, ()))))))) else ((Q9 k ((), ((), ((), (t8.2.1.2.2.2.1, ((), (t8.2.1.2.2.2.2.2.1, ())))))) t8.2.2.1 t8.2.2.2.1 t8.2.2.2.2.1).bind fun t9 => (match t9 with
 | .inl t10 => (K (.inl (t10.1, (((), ((), ((), (t10.2.1.2.2.2.1, ((), (t10.2.1.2.2.2.2.2.1, ())))))), (t10.2.2.1, (t10.2.2.2.1, (t10.2.2.2.2.1, ())))))))
 | .inr (t11) => (K (.inr (t11.1, (((), ((), ((), (t11.2.1.2.2.2.1, ((), (t11.2.1.2.2.2.2.2.1, ())))))), (t11.2.2.1, (t11.2.2.2.1, ()))))))))))
def QM (k : Nat) (name : ByteArray) (b0 : Qg0) (b1 : Qg4) (b2 : Qg4) (b3 : QfX) : Option QM.τ := QM.c k name b0 b1 b2 b3 some
def QM.T : Q1g := ⟨[.ptr 0 [], .dat .str], [.pair (.mp 1) (.pair (.mp 2) (.pair (.vsl 3) (.pair (.dat (.int .i64)) (.pair (.nils) (.dat Qg5))))), .mpd .str .str, .mpd .str .str, .vec QfV], 3⟩
def QM.os : List Out := [⟨.ret, [.freeze (.slot 0), .auto 3], ⟨[.dat (.int .i64)], [.pair (.mp 1) (.pair (.mp 2) (.pair (.vsl 3) (.pair (.dat (.int .i64)) (.pair (.nils) (.dat Qg5))))), .mpd .str .str, .mpd .str .str, .vec QfV]⟩⟩, ⟨.ret, [.freeze (.slot 0), .auto 3], ⟨[.dat (.int .i64)], [.pair (.mp 1) (.pair (.mp 2) (.pair (.nils) (.pair (.dat (.int .i64)) (.pair (.nils) (.dat Qg5))))), .mpd .str .str, .mpd .str .str]⟩⟩]
def QM.sem (k : Nat) : QS := Q1i QM.T QM.os fun x => QM k x.1 x.2.1 x.2.2.1 x.2.2.2.1 x.2.2.2.2.1
noncomputable def QM.ctx (k : Nat) : Ctx := ⟨Try.prog, gam [(86, (Q0Q.sem k)), (55, (Q0r.sem k)), (9, (Q08.sem k)), (72, (Q0o.sem k)), (56, (Q9.sem k))]⟩
theorem QM.gok (k : Nat) : ∀ f, Qz Try.prog f ((QM.ctx k).Γ f) := (Qk (Q0Q.sem_ok k) (Qk (Q0r.sem_ok k) (Qk (Q08.sem_ok k) (Qk (Q0o.sem_ok k) (Qk (Q9.sem_ok k) Q0f)))))
theorem QM.p0.is (k : Nat) : Q1t (QM.ctx k) (QV (Func.code Try.f75) [1, 0]) (.nil) QM.p0.T QM.p0.os (QM.p0.r k) := by
 intro ρ x K; kernel_rfl
theorem QM.p0.ok (k : Nat) : StOK 3 Try.prog (QV (Func.code Try.f75) [1, 0]) (Qf QM.p0.T QM.p0.os (QM.p0 k)) :=
 Q1m (C := QM.ctx k) (T := QM.p0.T) (os := QM.p0.os) (QM.gok k) Try.mix (fun x K => QM.p0.r k x K) Q1.nil (by kernel_rfl) (by kernel_rfl) (QM.p0.is k)
def QM.ann (k : Nat) : Ann := .node [] none (.nil) (.node [] none (.node [.mask [0, 1], .auto 3] (some (Qf QM.p0.T QM.p0.os (QM.p0 k))) .nil .nil) (.nil))
theorem QM.body (k : Nat) : Q1j (QM.ctx k) Try.f75 (Func.code Try.f75) (QM.ann k) QM.T QM.os (fun x K => QM.c k x.1 x.2.1 x.2.2.1 x.2.2.2.1 x.2.2.2.2.1 K) := by
 intro ρ x K; kernel_rfl
theorem QM.sem_ok (k : Nat) : Qz Try.prog 75 (QM.sem k) :=
 Q0q (C := QM.ctx k) (QM.gok k) Try.mix (c := Func.code Try.f75) (ann := QM.ann k) (T := QM.T) (os := QM.os) (fun x K => QM.c k x.1 x.2.1 x.2.2.1 x.2.2.2.1 x.2.2.2.2.1 K) Try.func75 (by kernel_rfl) (by kernel_rfl) (Q1.seq Q1.nil (Q1.seq (Q1.loop (by kernel_rfl) (QM.p0.ok k)) Q1.nil)) (QM.body k) (by kernel_rfl) (by kernel_rfl) (by kernel_rfl)
abbrev Qx.p0.σ : Type := ByteArray × ByteArray × Int × Qg0 × Qg4 × Qg4 × QfX × Unit
abbrev Qx.p0.τ : Type := QfI ⊕ (ByteArray × ByteArray × Qg0 × Qg4 × Qg4 × QfX × Unit)
def Qx.p0.r (k : Nat) {ρ : Type} (x : Qx.p0.σ) (K : Qx.p0.τ → Option ρ) : Option ρ :=
 bif (x.2.2.1 != (0 : Int)) then (bif (x.2.2.1 != (2 : Int)) then (K (.inl ((⟨(List.toArray [])⟩ : ByteArray), (x.2.2.1, (((), ((), ((), (x.2.2.2.1.2.2.2.1, ((), (x.2.2.2.1.2.2.2.2.2.1, ())))))), (x.2.2.2.2.1, (x.2.2.2.2.2.1, (x.2.2.2.2.2.2.1, ())))))))) else (K (.inr (x.1, (x.2.1, (((), ((), ((), (x.2.2.2.1.2.2.2.1, ((), (x.2.2.2.1.2.2.2.2.2.1, ())))))), (x.2.2.2.2.1, (x.2.2.2.2.2.1, (x.2.2.2.2.2.2.1, ()))))))))) else (K (.inr (x.1, (x.2.1, (((), ((), ((), (x.2.2.2.1.2.2.2.1, ((), (x.2.2.2.1.2.2.2.2.2.1, ())))))), (x.2.2.2.2.1, (x.2.2.2.2.2.1, (x.2.2.2.2.2.2.1, ()))))))))
def Qx.p0 (k : Nat) (x : Qx.p0.σ) : Option Qx.p0.τ := Qx.p0.r k x some
def Qx.p0.T : StT := ⟨.ptr 0 [] :: .dat .str :: us 4 ++ .dat .str :: .dat (.int .i64) :: us 25, [.pair (.mp 1) (.pair (.mp 2) (.pair (.vsl 3) (.pair (.dat (.int .i64)) (.pair (.nils) (.dat Qg5))))), .mpd .str .str, .mpd .str .str, .vec QfV]⟩
def Qx.p0.os : List Out := [⟨.ret, [.mask [4, 5], .auto 3], ⟨us 4 ++ .dat .str :: .dat (.int .i64) :: us 27, [.pair (.mp 1) (.pair (.mp 2) (.pair (.vsl 3) (.pair (.dat (.int .i64)) (.pair (.nils) (.dat Qg5))))), .mpd .str .str, .mpd .str .str, .vec QfV]⟩⟩, ⟨.normal, [.mask [0, 1, 6], .auto 3], ⟨.ptr 0 [] :: .dat .str :: us 4 ++ .dat .str :: us 26, [.pair (.mp 1) (.pair (.mp 2) (.pair (.vsl 3) (.pair (.dat (.int .i64)) (.pair (.nils) (.dat Qg5))))), .mpd .str .str, .mpd .str .str, .vec QfV]⟩⟩]
abbrev Qx.τ : Type := QfI ⊕ QfP 
def Qx.c (k : Nat) {ρ : Type} (name : ByteArray) (b0 : Qg0) (b1 : Qg4) (b2 : Qg4) (b3 : QfX) (K : Qx.τ → Option ρ) : Option ρ :=
  (Q0E k name ((), ((), ((), (b0.2.2.2.1, ((), (b0.2.2.2.2.2.1, ())))))) b1 b2 b3).bind fun t0 => let v1 : ByteArray := t0.1
  let v2 : Int := t0.2.1
  (Qx.p0 k (name, (v1, (v2, (((), ((), ((), (t0.2.2.1.2.2.2.1, ((), (t0.2.2.1.2.2.2.2.2.1, ())))))), (t0.2.2.2.1, (t0.2.2.2.2.1, (t0.2.2.2.2.2.1, ())))))))).bind fun t3 => (match t3 with
 | .inl t4 => (K (.inl (t4.1, (t4.2.1, (((), ((), ((), (t4.2.2.1.2.2.2.1, ((), (t4.2.2.1.2.2.2.2.2.1, ())))))), (t4.2.2.2.1, (t4.2.2.2.2.1, (t4.2.2.2.2.2.1, ()))))))))
 | .inr (t5) => (let v6 : Int := (((ByteArray.size t5.2.1) : Nat) : Int)
  bif (decide (v6 ≥ (20 : Int))) then (K (.inl (t5.2.1, ((0 : Int), (((), ((), ((), (t5.2.2.1.2.2.2.1, ((), (t5.2.2.1.2.2.2.2.2.1, ())))))), (t5.2.2.2.1, (t5.2.2.2.2.1, (t5.2.2.2.2.2.1, ())))))))) else ((QM k t5.1 ((), ((), ((), (t5.2.2.1.2.2.2.1, ((), (t5.2.2.1.2.2.2.2.2.1, ())))))) t5.2.2.2.1 t5.2.2.2.2.1 t5.2.2.2.2.2.1).bind fun t7 => (match t7 with
 | .inl t8 => (bif (t8.1 != (0 : Int)) then (K (.inl ((⟨(List.toArray [])⟩ : ByteArray), (t8.1, (((), ((), ((), (t8.2.1.2.2.2.1, ((), (t8.2.1.2.2.2.2.2.1, ())))))), (t8.2.2.1, (t8.2.2.2.1, (t8.2.2.2.2.1, ())))))))) else ((Q08 k (0 : Int)).bind fun t9 => K (.inl (t9.1, ((0 : Int), (((), ((), ((), (t8.2.1.2.2.2.1, ((), (t8.2.1.2.2.2.2.2.1, ())))))), (t8.2.2.1, (t8.2.2.2.1, (t8.2.2.2.2.1, ())))))))))
 | .inr (t10) => (bif (t10.1 != (0 : Int)) then (K (.inr ((⟨(List.toArray [])⟩ : ByteArray), (t10.1, (((), ((), ((), (t10.2.1.2.2.2.1, ((), (t10.2.1.2.2.2.2.2.1, ())))))), (t10.2.2.1, (t10.2.2.2.1, ()))))))) else ((Q08 k (0 : Int)).bind fun t11 => K (.inr (t11.1, ((0 : Int), (((), ((), ((), (t10.2.1.2.2.2.1, ((), (t10.2.1.2.2.2.2.2.1, ())))))), (t10.2.2.1, (t10.2.2.2.1, ()))))))))))))
def Qx (k : Nat) (name : ByteArray) (b0 : Qg0) (b1 : Qg4) (b2 : Qg4) (b3 : QfX) : Option Qx.τ := Qx.c k name b0 b1 b2 b3 some
def Qx.T : Q1g := ⟨[.ptr 0 [], .dat .str], [.pair (.mp 1) (.pair (.mp 2) (.pair (.vsl 3) (.pair (.dat (.int .i64)) (.pair (.nils) (.dat Qg5))))), .mpd .str .str, .mpd .str .str, .vec QfV], 3⟩
def Qx.os : List Out := [⟨.ret, [.freeze (.slot 0), .freeze (.slot 1), .auto 3], ⟨[.dat .str, .dat (.int .i64)], [.pair (.mp 1) (.pair (.mp 2) (.pair (.vsl 3) (.pair (.dat (.int .i64)) (.pair (.nils) (.dat Qg5))))), .mpd .str .str, .mpd .str .str, .vec QfV]⟩⟩, ⟨.ret, [.freeze (.slot 0), .freeze (.slot 1), .auto 3], ⟨[.dat .str, .dat (.int .i64)], [.pair (.mp 1) (.pair (.mp 2) (.pair (.nils) (.pair (.dat (.int .i64)) (.pair (.nils) (.dat Qg5))))), .mpd .str .str, .mpd .str .str]⟩⟩]
def Qx.sem (k : Nat) : QS := Q1i Qx.T Qx.os fun x => Qx k x.1 x.2.1 x.2.2.1 x.2.2.2.1 x.2.2.2.2.1
noncomputable def Qx.ctx (k : Nat) : Ctx := ⟨Try.prog, gam [(51, (Q0E.sem k)), (75, (QM.sem k)), (9, (Q08.sem k))]⟩
theorem Qx.gok (k : Nat) : ∀ f, Qz Try.prog f ((Qx.ctx k).Γ f) := (Qk (Q0E.sem_ok k) (Qk (QM.sem_ok k) (Qk (Q08.sem_ok k) Q0f)))
theorem Qx.p0.is (k : Nat) : Q1t (Qx.ctx k) (QV (Func.code Try.f53) [1, 1, 0]) (.nil) Qx.p0.T Qx.p0.os (Qx.p0.r k) := by
 intro ρ x K; kernel_rfl
theorem Qx.p0.ok (k : Nat) : StOK 3 Try.prog (QV (Func.code Try.f53) [1, 1, 0]) (Qf Qx.p0.T Qx.p0.os (Qx.p0 k)) :=
 Q1m (C := Qx.ctx k) (T := Qx.p0.T) (os := Qx.p0.os) (Qx.gok k) Try.mix (fun x K => Qx.p0.r k x K) Q1.nil (by kernel_rfl) (by kernel_rfl) (Qx.p0.is k)
def Qx.ann (k : Nat) : Ann := .node [] none (.nil) (.node [] none (.nil) (.node [] none (.node [.mask [0, 1, 6, 7], .auto 3] (some (Qf Qx.p0.T Qx.p0.os (Qx.p0 k))) .nil .nil) (.nil)))
theorem Qx.body (k : Nat) : Q1j (Qx.ctx k) Try.f53 (Func.code Try.f53) (Qx.ann k) Qx.T Qx.os (fun x K => Qx.c k x.1 x.2.1 x.2.2.1 x.2.2.2.1 x.2.2.2.2.1 K) := by
 intro ρ x K; kernel_rfl
theorem Qx.sem_ok (k : Nat) : Qz Try.prog 53 (Qx.sem k) :=
 Q0q (C := Qx.ctx k) (Qx.gok k) Try.mix (c := Func.code Try.f53) (ann := Qx.ann k) (T := Qx.T) (os := Qx.os) (fun x K => Qx.c k x.1 x.2.1 x.2.2.1 x.2.2.2.1 x.2.2.2.2.1 K) Try.func53 (by kernel_rfl) (by kernel_rfl) (Q1.seq Q1.nil (Q1.seq Q1.nil (Q1.seq (Q1.loop (by kernel_rfl) (Qx.p0.ok k)) Q1.nil))) (Qx.body k) (by kernel_rfl) (by kernel_rfl) (by kernel_rfl)
abbrev Q3.p0.σ : Type := ByteArray × Qg0 × Qg4 × Qg4 × Unit
abbrev Q3.p0.τ : Type := QfT ⊕ QfR 
def Q3.p0.r (k : Nat) {ρ : Type} (x : Q3.p0.σ) (K : Q3.p0.τ → Option ρ) : Option ρ :=
 let v0 : Int := (((ByteArray.size x.1) : Nat) : Int)
 bif (decide (v0 > (28 : Int))) then (K (.inl ((70 : Int), (((), ((), ((), (x.2.1.2.2.2.1, ((), (x.2.1.2.2.2.2.2.1, ())))))), (x.2.2.1, (x.2.2.2.1, ())))))) else ((Q19 k x.1).bind fun t1 => bif (!t1.1) then (K (.inl ((70 : Int), (((), ((), ((), (x.2.1.2.2.2.1, ((), (x.2.1.2.2.2.2.2.1, ())))))), (x.2.2.1, (x.2.2.2.1, ())))))) else (K (.inr (x.1, (((), ((), ((), (x.2.1.2.2.2.1, ((), (x.2.1.2.2.2.2.2.1, ())))))), (x.2.2.1, (x.2.2.2.1, ())))))))
def Q3.p0 (k : Nat) (x : Q3.p0.σ) : Option Q3.p0.τ := Q3.p0.r k x some
def Q3.p0.T : StT := ⟨.ptr 0 [] :: .dat .str :: us 123, [.pair (.mp 1) (.pair (.mp 2) (.pair (.nils) (.pair (.dat (.int .i64)) (.pair (.nils) (.dat Qg5))))), .mpd .str .str, .mpd .str .str]⟩
def Q3.p0.os : List Out := [⟨.ret, [.mask [4, 5], .auto 3], ⟨us 4 ++ .nilp :: .dat (.int .i64) :: us 119, [.pair (.mp 1) (.pair (.mp 2) (.pair (.nils) (.pair (.dat (.int .i64)) (.pair (.nils) (.dat Qg5))))), .mpd .str .str, .mpd .str .str]⟩⟩, ⟨.normal, [.mask [0, 1], .auto 3], ⟨.ptr 0 [] :: .dat .str :: us 123, [.pair (.mp 1) (.pair (.mp 2) (.pair (.nils) (.pair (.dat (.int .i64)) (.pair (.nils) (.dat Qg5))))), .mpd .str .str, .mpd .str .str]⟩⟩]
abbrev Q3.p1.σ : Type := ByteArray × ByteArray × Int × Qg0 × Qg4 × Qg4 × Unit
abbrev Q3.p1.τ : Type := QfT ⊕ QfO 
def Q3.p1.r (k : Nat) {ρ : Type} (x : Q3.p1.σ) (K : Q3.p1.τ → Option ρ) : Option ρ :=
 bif (x.2.2.1 != (0 : Int)) then (bif (x.2.2.1 != (2 : Int)) then (K (.inl (x.2.2.1, (((), ((), ((), (x.2.2.2.1.2.2.2.1, ((), (x.2.2.2.1.2.2.2.2.2.1, ())))))), (x.2.2.2.2.1, (x.2.2.2.2.2.1, ())))))) else (K (.inr (x.1, (x.2.1, (((), ((), ((), (x.2.2.2.1.2.2.2.1, ((), (x.2.2.2.1.2.2.2.2.2.1, ())))))), (x.2.2.2.2.1, (x.2.2.2.2.2.1, ())))))))) else (K (.inr (x.1, (x.2.1, (((), ((), ((), (x.2.2.2.1.2.2.2.1, ((), (x.2.2.2.1.2.2.2.2.2.1, ())))))), (x.2.2.2.2.1, (x.2.2.2.2.2.1, ())))))))
def Q3.p1 (k : Nat) (x : Q3.p1.σ) : Option Q3.p1.τ := Q3.p1.r k x some
def Q3.p1.T : StT := ⟨.ptr 0 [] :: .dat .str :: us 4 ++ .dat .str :: .dat (.int .i64) :: us 117, [.pair (.mp 1) (.pair (.mp 2) (.pair (.nils) (.pair (.dat (.int .i64)) (.pair (.nils) (.dat Qg5))))), .mpd .str .str, .mpd .str .str]⟩
def Q3.p1.os : List Out := [⟨.ret, [.mask [4, 5], .auto 3], ⟨us 4 ++ .nilp :: .dat (.int .i64) :: us 119, [.pair (.mp 1) (.pair (.mp 2) (.pair (.nils) (.pair (.dat (.int .i64)) (.pair (.nils) (.dat Qg5))))), .mpd .str .str, .mpd .str .str]⟩⟩, ⟨.normal, [.mask [0, 1, 6], .auto 3], ⟨.ptr 0 [] :: .dat .str :: us 4 ++ .dat .str :: us 118, [.pair (.mp 1) (.pair (.mp 2) (.pair (.nils) (.pair (.dat (.int .i64)) (.pair (.nils) (.dat Qg5))))), .mpd .str .str, .mpd .str .str]⟩⟩]
abbrev Q3.p2.σ : Type := ByteArray × ByteArray × Qg0 × Qg4 × Qg4 × Unit
abbrev Q3.p2.τ : Type := QfT ⊕ QfR 
def Q3.p2.r (k : Nat) {ρ : Type} (x : Q3.p2.σ) (K : Q3.p2.τ → Option ρ) : Option ρ :=
  let v11 : Int := (((ByteArray.size x.2.1) : Nat) : Int)
  bif (decide (v11 ≥ (20 : Int))) then ((Qm k x.2.1).bind fun t12 => (match t12 with
 | .inl t13 => (let v14 : Int := t13.1
  let v15 : Int := t13.2.1
  let v16 : Int := t13.2.2.1
  bif (v16 != (0 : Int)) then (K (.inl (v16, (((), ((), ((), (x.2.2.1.2.2.2.1, ((), (x.2.2.1.2.2.2.2.2.1, ())))))), (x.2.2.2.1, (x.2.2.2.2.1, ())))))) else (K (.inr (x.1, (((), ((), ((), (x.2.2.1.2.2.2.1, ((), (x.2.2.1.2.2.2.2.2.1, ())))))), (x.2.2.2.1, (x.2.2.2.2.1, ())))))))
 | .inr (t17) => (let v18 : Int := t17.1
  let v19 : Int := t17.2.1
  let v20 : Int := t17.2.2.1
  bif (v20 != (0 : Int)) then (K (.inl (v20, (((), ((), ((), (x.2.2.1.2.2.2.1, ((), (x.2.2.1.2.2.2.2.2.1, ())))))), (x.2.2.2.1, (x.2.2.2.2.1, ())))))) else (K (.inr (x.1, (((), ((), ((), (x.2.2.1.2.2.2.1, ((), (x.2.2.1.2.2.2.2.2.1, ())))))), (x.2.2.2.1, (x.2.2.2.2.1, ()))))))))) else (K (.inr (x.1, (((), ((), ((), (x.2.2.1.2.2.2.1, ((), (x.2.2.1.2.2.2.2.2.1, ())))))), (x.2.2.2.1, (x.2.2.2.2.1, ()))))))
def Q3.p2 (k : Nat) (x : Q3.p2.σ) : Option Q3.p2.τ := Q3.p2.r k x some
def Q3.p2.T : StT := ⟨.ptr 0 [] :: .dat .str :: us 4 ++ .dat .str :: us 118, [.pair (.mp 1) (.pair (.mp 2) (.pair (.nils) (.pair (.dat (.int .i64)) (.pair (.nils) (.dat Qg5))))), .mpd .str .str, .mpd .str .str]⟩
def Q3.p2.os : List Out := [⟨.ret, [.mask [4, 5], .auto 3], ⟨us 4 ++ .nilp :: .dat (.int .i64) :: us 119, [.pair (.mp 1) (.pair (.mp 2) (.pair (.nils) (.pair (.dat (.int .i64)) (.pair (.nils) (.dat Qg5))))), .mpd .str .str, .mpd .str .str]⟩⟩, ⟨.normal, [.mask [0, 1], .auto 3], ⟨.ptr 0 [] :: .dat .str :: us 123, [.pair (.mp 1) (.pair (.mp 2) (.pair (.nils) (.pair (.dat (.int .i64)) (.pair (.nils) (.dat Qg5))))), .mpd .str .str, .mpd .str .str]⟩⟩]
abbrev Q3.p3.σ : Type := ByteArray × Qg0 × Qg4 × Qg4 × Unit
abbrev Q3.p3.τ : Type := QfT ⊕ QfR ⊕ QfL ⊕ QfJ 
def Q3.p3.r (k : Nat) {ρ : Type} (x : Q3.p3.σ) (K : Q3.p3.τ → Option ρ) : Option ρ :=
  bif (Nat.ble ((ByteArray.size x.1) + 4) 9223372036854775807) then (let v24 : ByteArray := (x.1 ++ (⟨(List.toArray [46, 116, 109, 112])⟩ : ByteArray))
  (Q0B k v24 ((), ((), ((), (x.2.1.2.2.2.1, ((), (x.2.1.2.2.2.2.2.1, ())))))) x.2.2.1 x.2.2.2.1).bind fun t25 => (match t25 with
 | .inl t26 => (bif (t26.1 != (0 : Int)) then (bif (t26.1 != (2 : Int)) then (K (.inl (t26.1, (((), ((), ((), (t26.2.1.2.2.2.1, ((), (t26.2.1.2.2.2.2.2.1, ())))))), (t26.2.2.1, (t26.2.2.2.1, ())))))) else (K (.inr (.inl (x.1, (((), ((), ((), (t26.2.1.2.2.2.1, ((), (t26.2.1.2.2.2.2.2.1, ())))))), (t26.2.2.1, (t26.2.2.2.1, ())))))))) else (K (.inr (.inl (x.1, (((), ((), ((), (t26.2.1.2.2.2.1, ((), (t26.2.1.2.2.2.2.2.1, ())))))), (t26.2.2.1, (t26.2.2.2.1, ()))))))))
 | .inr (t27) => (bif (t27.1 != (0 : Int)) then (bif (t27.1 != (2 : Int)) then (K (.inr (.inr (.inl (t27.1, (((), ((), ((), (t27.2.1.2.2.2.1, ((), (t27.2.1.2.2.2.2.2.1, ())))))), (t27.2.2.1, (t27.2.2.2.1, (t27.2.2.2.2.1, ()))))))))) else (K (.inr (.inr (.inr (x.1, (((), ((), ((), (t27.2.1.2.2.2.1, ((), (t27.2.1.2.2.2.2.2.1, ())))))), (t27.2.2.1, (t27.2.2.2.1, (t27.2.2.2.2.1, ())))))))))) else (K (.inr (.inr (.inr (x.1, (((), ((), ((), (t27.2.1.2.2.2.1, ((), (t27.2.1.2.2.2.2.2.1, ())))))), (t27.2.2.1, (t27.2.2.2.1, (t27.2.2.2.2.1, ())))))))))))) else (none)
def Q3.p3 (k : Nat) (x : Q3.p3.σ) : Option Q3.p3.τ := Q3.p3.r k x some
def Q3.p3.T : StT := ⟨.ptr 0 [] :: .dat .str :: us 123, [.pair (.mp 1) (.pair (.mp 2) (.pair (.nils) (.pair (.dat (.int .i64)) (.pair (.nils) (.dat Qg5))))), .mpd .str .str, .mpd .str .str]⟩
def Q3.p3.os : List Out := [⟨.ret, [.mask [4, 5], .auto 3], ⟨us 4 ++ .nilp :: .dat (.int .i64) :: us 119, [.pair (.mp 1) (.pair (.mp 2) (.pair (.nils) (.pair (.dat (.int .i64)) (.pair (.nils) (.dat Qg5))))), .mpd .str .str, .mpd .str .str]⟩⟩, ⟨.normal, [.mask [0, 1], .auto 3], ⟨.ptr 0 [] :: .dat .str :: us 123, [.pair (.mp 1) (.pair (.mp 2) (.pair (.nils) (.pair (.dat (.int .i64)) (.pair (.nils) (.dat Qg5))))), .mpd .str .str, .mpd .str .str]⟩⟩, ⟨.ret, [.mask [4, 5], .auto 3], ⟨us 4 ++ .nilp :: .dat (.int .i64) :: us 119, [.pair (.mp 1) (.pair (.mp 2) (.pair (.vsl 3) (.pair (.dat (.int .i64)) (.pair (.nils) (.dat Qg5))))), .mpd .str .str, .mpd .str .str, .vec QfV]⟩⟩, ⟨.normal, [.mask [0, 1], .auto 3], ⟨.ptr 0 [] :: .dat .str :: us 123, [.pair (.mp 1) (.pair (.mp 2) (.pair (.vsl 3) (.pair (.dat (.int .i64)) (.pair (.nils) (.dat Qg5))))), .mpd .str .str, .mpd .str .str, .vec QfV]⟩⟩]
abbrev Q3.τ : Type := QfT ⊕ (Int × Qg0 × Qg4 × Qg4 × QfW × (List Int) × Unit) ⊕ QfL ⊕ (Int × Qg0 × Qg4 × Qg4 × QfX × QfW × (List Int) × Unit) ⊕ (Int × Qg0 × Qg4 × Qg4 × QfW × (List ByteArray) × (List Int) × Unit) ⊕ (Int × Qg0 × Qg4 × Qg4 × QfX × QfW × (List ByteArray) × (List Int) × Unit)
def Q3.c (k : Nat) {ρ : Type} (name : ByteArray) (b0 : Qg0) (b1 : Qg4) (b2 : Qg4) (K : Q3.τ → Option ρ) : Option ρ :=
  (Q3.p0 k (name, (((), ((), ((), (b0.2.2.2.1, ((), (b0.2.2.2.2.2.1, ())))))), (b1, (b2, ()))))).bind fun t2 => (match t2 with
 | .inl t3 => (K (.inl (t3.1, (((), ((), ((), (t3.2.1.2.2.2.1, ((), (t3.2.1.2.2.2.2.2.1, ())))))), (t3.2.2.1, (t3.2.2.2.1, ()))))))
 | .inr (t4) => ((Q0K k t4.1 ((), ((), ((), (t4.2.1.2.2.2.1, ((), (t4.2.1.2.2.2.2.2.1, ())))))) t4.2.2.1 t4.2.2.2.1).bind fun t5 => let v6 : ByteArray := t5.1
  let v7 : Int := t5.2.1
  (Q3.p1 k (t4.1, (v6, (v7, (((), ((), ((), (t5.2.2.1.2.2.2.1, ((), (t5.2.2.1.2.2.2.2.2.1, ())))))), (t5.2.2.2.1, (t5.2.2.2.2.1, ()))))))).bind fun t8 => (match t8 with
 | .inl t9 => (K (.inl (t9.1, (((), ((), ((), (t9.2.1.2.2.2.1, ((), (t9.2.1.2.2.2.2.2.1, ())))))), (t9.2.2.1, (t9.2.2.2.1, ()))))))
 | .inr (t10) => ((Q3.p2 k (t10.1, (t10.2.1, (((), ((), ((), (t10.2.2.1.2.2.2.1, ((), (t10.2.2.1.2.2.2.2.2.1, ())))))), (t10.2.2.2.1, (t10.2.2.2.2.1, ())))))).bind fun t21 => (match t21 with
 | .inl t22 => (K (.inl (t22.1, (((), ((), ((), (t22.2.1.2.2.2.1, ((), (t22.2.1.2.2.2.2.2.1, ())))))), (t22.2.2.1, (t22.2.2.2.1, ()))))))
 | .inr (t23) => ((Q3.p3 k (t23.1, (((), ((), ((), (t23.2.1.2.2.2.1, ((), (t23.2.1.2.2.2.2.2.1, ())))))), (t23.2.2.1, (t23.2.2.2.1, ()))))).bind fun t28 => (match t28 with
 | .inl t29 => (K (.inl (t29.1, (((), ((), ((), (t29.2.1.2.2.2.1, ((), (t29.2.1.2.2.2.2.2.1, ())))))), (t29.2.2.1, (t29.2.2.2.1, ()))))))
 | .inr (.inl t30) => ((QH k t30.1 ((), ((), ((), (t30.2.1.2.2.2.1, ((), (t30.2.1.2.2.2.2.2.1, ())))))) t30.2.2.1 t30.2.2.2.1).bind fun t31 => (match t31 with
 | .inl t32 => (let v33 : ByteArray := t32.1
  let v34 : Int := t32.2.1
  bif (v34 != (0 : Int)) then (K (.inl (v34, (((), ((), ((), (t32.2.2.1.2.2.2.1, ((), (t32.2.2.1.2.2.2.2.2.1, ())))))), (t32.2.2.2.1, (t32.2.2.2.2.1, ())))))) else ((Qm k v33).bind fun t35 => (match t35 with
 | .inl t36 => (let v37 : Int := t36.1
  let v38 : Int := t36.2.1
  let v39 : Int := t36.2.2.1
  (QZ k []).bind fun t40 => bif (v38 == (0 : Int)) then (K (.inr (.inl ((0 : Int), (((), ((), ((), (t32.2.2.1.2.2.2.1, ((), (t32.2.2.1.2.2.2.2.2.1, ())))))), (t32.2.2.2.1, (t32.2.2.2.2.1, (((), (t30.1, (v37, ((), ((), (v38, (false, ()))))))), (t40.1, ()))))))))) else (let v41 : Int := (IntKind.wrap IntKind.i64 ((((ByteArray.size v33) : Nat) : Int) - v38))
  (Q0L k t30.1 v41 ((), ((), ((), (t32.2.2.1.2.2.2.1, ((), (t32.2.2.1.2.2.2.2.2.1, ())))))) t32.2.2.2.1 t32.2.2.2.2.1).bind fun t42 => (match t42 with
 | .inl t43 => (bif (t43.1 != (0 : Int)) then (K (.inl (t43.1, (((), ((), ((), (t43.2.1.2.2.2.1, ((), (t43.2.1.2.2.2.2.2.1, ())))))), (t43.2.2.1, (t43.2.2.2.1, ())))))) else ((Qg k ((), ((), ((), (t43.2.1.2.2.2.1, ((), (t43.2.1.2.2.2.2.2.1, ())))))) t43.2.2.1 t43.2.2.2.1).bind fun t44 => bif (t44.1 != (0 : Int)) then (K (.inl (t44.1, (((), ((), ((), (t44.2.1.2.2.2.1, ((), (t44.2.1.2.2.2.2.2.1, ())))))), (t44.2.2.1, (t44.2.2.2.1, ())))))) else (K (.inr (.inl ((0 : Int), (((), ((), ((), (t44.2.1.2.2.2.1, ((), (t44.2.1.2.2.2.2.2.1, ())))))), (t44.2.2.1, (t44.2.2.2.1, (((), (t30.1, (v37, ((), ((), (v38, (false, ()))))))), (t40.1, ())))))))))))
 | .inr (t45) => (bif (t45.1 != (0 : Int)) then (K (.inr (.inr (.inl (t45.1, (((), ((), ((), (t45.2.1.2.2.2.1, ((), (t45.2.1.2.2.2.2.2.1, ())))))), (t45.2.2.1, (t45.2.2.2.1, (t45.2.2.2.2.1, ()))))))))) else ((Q9 k ((), ((), ((), (t45.2.1.2.2.2.1, ((), (t45.2.1.2.2.2.2.2.1, ())))))) t45.2.2.1 t45.2.2.2.1 t45.2.2.2.2.1).bind fun t46 => (match t46 with
 | .inl t47 => (bif (t47.1 != (0 : Int)) then (K (.inr (.inr (.inl (t47.1, (((), ((), ((), (t47.2.1.2.2.2.1, ((), (t47.2.1.2.2.2.2.2.1, ())))))), (t47.2.2.1, (t47.2.2.2.1, (t47.2.2.2.2.1, ()))))))))) else (K (.inr (.inr (.inr (.inl ((0 : Int), (((), ((), ((), (t47.2.1.2.2.2.1, ((), (t47.2.1.2.2.2.2.2.1, ())))))), (t47.2.2.1, (t47.2.2.2.1, (t47.2.2.2.2.1, (((), (t30.1, (v37, ((), ((), (v38, (false, ()))))))), (t40.1, ())))))))))))))
 | .inr (t48) => (bif (t48.1 != (0 : Int)) then (K (.inl (t48.1, (((), ((), ((), (t48.2.1.2.2.2.1, ((), (t48.2.1.2.2.2.2.2.1, ())))))), (t48.2.2.1, (t48.2.2.2.1, ())))))) else (K (.inr (.inl ((0 : Int), (((), ((), ((), (t48.2.1.2.2.2.1, ((), (t48.2.1.2.2.2.2.2.1, ())))))), (t48.2.2.1, (t48.2.2.2.1, (((), (t30.1, (v37, ((), ((), (v38, (false, ()))))))), (t40.1, ()))))))))))))))))
 | .inr (t49) => (let v50 : Int := t49.1
  let v51 : Int := t49.2.1
  let v52 : Int := t49.2.2.1
  (QZ k t49.2.2.2.1).bind fun t53 => bif (v51 == (0 : Int)) then (K (.inr (.inr (.inr (.inr (.inl ((0 : Int), (((), ((), ((), (t32.2.2.1.2.2.2.1, ((), (t32.2.2.1.2.2.2.2.2.1, ())))))), (t32.2.2.2.1, (t32.2.2.2.2.1, (((), (t30.1, (v50, ((), ((), (v51, (false, ()))))))), (t49.2.2.2.1, (t53.1, ()))))))))))))) else (let v54 : Int := (IntKind.wrap IntKind.i64 ((((ByteArray.size v33) : Nat) : Int) - v51))
  (Q0L k t30.1 v54 ((), ((), ((), (t32.2.2.1.2.2.2.1, ((), (t32.2.2.1.2.2.2.2.2.1, ())))))) t32.2.2.2.1 t32.2.2.2.2.1).bind fun t55 => (match t55 with
 | .inl t56 => (bif (t56.1 != (0 : Int)) then (K (.inl (t56.1, (((), ((), ((), (t56.2.1.2.2.2.1, ((), (t56.2.1.2.2.2.2.2.1, ())))))), (t56.2.2.1, (t56.2.2.2.1, ())))))) else ((Qg k ((), ((), ((), (t56.2.1.2.2.2.1, ((), (t56.2.1.2.2.2.2.2.1, ())))))) t56.2.2.1 t56.2.2.2.1).bind fun t57 => bif (t57.1 != (0 : Int)) then (K (.inl (t57.1, (((), ((), ((), (t57.2.1.2.2.2.1, ((), (t57.2.1.2.2.2.2.2.1, ())))))), (t57.2.2.1, (t57.2.2.2.1, ())))))) else (K (.inr (.inr (.inr (.inr (.inl ((0 : Int), (((), ((), ((), (t57.2.1.2.2.2.1, ((), (t57.2.1.2.2.2.2.2.1, ())))))), (t57.2.2.1, (t57.2.2.2.1, (((), (t30.1, (v50, ((), ((), (v51, (false, ()))))))), (t49.2.2.2.1, (t53.1, ())))))))))))))))
 | .inr (t58) => (bif (t58.1 != (0 : Int)) then (K (.inr (.inr (.inl (t58.1, (((), ((), ((), (t58.2.1.2.2.2.1, ((), (t58.2.1.2.2.2.2.2.1, ())))))), (t58.2.2.1, (t58.2.2.2.1, (t58.2.2.2.2.1, ()))))))))) else ((Q9 k ((), ((), ((), (t58.2.1.2.2.2.1, ((), (t58.2.1.2.2.2.2.2.1, ())))))) t58.2.2.1 t58.2.2.2.1 t58.2.2.2.2.1).bind fun t59 => (match t59 with
 | .inl t60 => (bif (t60.1 != (0 : Int)) then (K (.inr (.inr (.inl (t60.1, (((), ((), ((), (t60.2.1.2.2.2.1, ((), (t60.2.1.2.2.2.2.2.1, ())))))), (t60.2.2.1, (t60.2.2.2.1, (t60.2.2.2.2.1, ()))))))))) else (K (.inr (.inr (.inr (.inr (.inr ((0 : Int), (((), ((), ((), (t60.2.1.2.2.2.1, ((), (t60.2.1.2.2.2.2.2.1, ())))))), (t60.2.2.1, (t60.2.2.2.1, (t60.2.2.2.2.1, (((), (t30.1, (v50, ((), ((), (v51, (false, ()))))))), (t49.2.2.2.1, (t53.1, ())))))))))))))))
 | .inr (t61) => (bif (t61.1 != (0 : Int)) then (K (.inl (t61.1, (((), ((), ((), (t61.2.1.2.2.2.1, ((), (t61.2.1.2.2.2.2.2.1, ())))))), (t61.2.2.1, (t61.2.2.2.1, ())))))) else (K (.inr (.inr (.inr (.inr (.inl ((0 : Int), (((), ((), ((), (t61.2.1.2.2.2.1, ((), (t61.2.1.2.2.2.2.2.1, ())))))), (t61.2.2.1, (t61.2.2.2.1, (((), (t30.1, (v50, ((), ((), (v51, (false, ()))))))), (t49.2.2.2.1, (t53.1, ())))))))))))))))))))))))
 | .inr (t62) => (let v63 : ByteArray := t62.1
  let v64 : Int := t62.2.1
  bif (v64 != (0 : Int)) then (K (.inr (.inr (.inl (v64, (((), ((), ((), (t62.2.2.1.2.2.2.1, ((), (t62.2.2.1.2.2.2.2.2.1, ())))))), (t62.2.2.2.1, (t62.2.2.2.2.1, (t62.2.2.2.2.2.1, ()))))))))) else ((Qm k v63).bind fun t65 => (match t65 with
 | .inl t66 => (let v67 : Int := t66.1
  let v68 : Int := t66.2.1
  let v69 : Int := t66.2.2.1
  (QZ k []).bind fun t70 => bif (v68 == (0 : Int)) then (K (.inr (.inr (.inr (.inl ((0 : Int), (((), ((), ((), (t62.2.2.1.2.2.2.1, ((), (t62.2.2.1.2.2.2.2.2.1, ())))))), (t62.2.2.2.1, (t62.2.2.2.2.1, (t62.2.2.2.2.2.1, (((), (t30.1, (v67, ((), ((), (v68, (false, ()))))))), (t70.1, ())))))))))))) else (let v71 : Int := (IntKind.wrap IntKind.i64 ((((ByteArray.size v63) : Nat) : Int) - v68))
  (Q0r k t30.1 v71 ((), ((), ((), (t62.2.2.1.2.2.2.1, ((), (t62.2.2.1.2.2.2.2.2.1, ())))))) t62.2.2.2.1 t62.2.2.2.2.1 t62.2.2.2.2.2.1).bind fun t72 => bif (t72.1 != (0 : Int)) then (K (.inr (.inr (.inl (t72.1, (((), ((), ((), (t72.2.1.2.2.2.1, ((), (t72.2.1.2.2.2.2.2.1, ())))))), (t72.2.2.1, (t72.2.2.2.1, (t72.2.2.2.2.1, ()))))))))) else ((Q9 k ((), ((), ((), (t72.2.1.2.2.2.1, ((), (t72.2.1.2.2.2.2.2.1, ())))))) t72.2.2.1 t72.2.2.2.1 t72.2.2.2.2.1).bind fun t73 => (match t73 with
 | .inl t74 => (bif (t74.1 != (0 : Int)) then (K (.inr (.inr (.inl (t74.1, (((), ((), ((), (t74.2.1.2.2.2.1, ((), (t74.2.1.2.2.2.2.2.1, ())))))), (t74.2.2.1, (t74.2.2.2.1, (t74.2.2.2.2.1, ()))))))))) else (K (.inr (.inr (.inr (.inl ((0 : Int), (((), ((), ((), (t74.2.1.2.2.2.1, ((), (t74.2.1.2.2.2.2.2.1, ())))))), (t74.2.2.1, (t74.2.2.2.1, (t74.2.2.2.2.1, (((), (t30.1, (v67, ((), ((), (v68, (false, ()))))))), (t70.1, ())))))))))))))
 | .inr (t75) => (bif (t75.1 != (0 : Int)) then (K (.inl (t75.1, (((), ((), ((), (t75.2.1.2.2.2.1, ((), (t75.2.1.2.2.2.2.2.1, ())))))), (t75.2.2.1, (t75.2.2.2.1, ())))))) else (K (.inr (.inl ((0 : Int), (((), ((), ((), (t75.2.1.2.2.2.1, ((), (t75.2.1.2.2.2.2.2.1, ())))))), (t75.2.2.1, (t75.2.2.2.1, (((), (t30.1, (v67, ((), ((), (v68, (false, ()))))))), (t70.1, ()))))))))))))))
 | .inr (t76) => (let v77 : Int := t76.1
  let v78 : Int := t76.2.1
  let v79 : Int := t76.2.2.1
  (QZ k t76.2.2.2.1).bind fun t80 => bif (v78 == (0 : Int)) then (K (.inr (.inr (.inr (.inr (.inr ((0 : Int), (((), ((), ((), (t62.2.2.1.2.2.2.1, ((), (t62.2.2.1.2.2.2.2.2.1, ())))))), (t62.2.2.2.1, (t62.2.2.2.2.1, (t62.2.2.2.2.2.1, (((), (t30.1, (v77, ((), ((), (v78, (false, ()))))))), (t76.2.2.2.1, (t80.1, ())))))))))))))) else (let v81 : Int := (IntKind.wrap IntKind.i64 ((((ByteArray.size v63) : Nat) : Int) - v78))
  (Q0r k t30.1 v81 ((), ((), ((), (t62.2.2.1.2.2.2.1, ((), (t62.2.2.1.2.2.2.2.2.1, ())))))) t62.2.2.2.1 t62.2.2.2.2.1 t62.2.2.2.2.2.1).bind fun t82 => bif (t82.1 != (0 : Int)) then (K (.inr (.inr (.inl (t82.1, (((), ((), ((), (t82.2.1.2.2.2.1, ((), (t82.2.1.2.2.2.2.2.1, ())))))), (t82.2.2.1, (t82.2.2.2.1, (t82.2.2.2.2.1, ()))))))))) else ((Q9 k ((), ((), ((), (t82.2.1.2.2.2.1, ((), (t82.2.1.2.2.2.2.2.1, ())))))) t82.2.2.1 t82.2.2.2.1 t82.2.2.2.2.1).bind fun t83 => (match t83 with
 | .inl t84 => (bif (t84.1 != (0 : Int)) then (K (.inr (.inr (.inl (t84.1, (((), ((), ((), (t84.2.1.2.2.2.1, ((), (t84.2.1.2.2.2.2.2.1, ())))))), (t84.2.2.1, (t84.2.2.2.1, (t84.2.2.2.2.1, ()))))))))) else (K (.inr (.inr (.inr (.inr (.inr ((0 : Int), (((), ((), ((), (t84.2.1.2.2.2.1, ((), (t84.2.1.2.2.2.2.2.1, ())))))), (t84.2.2.1, (t84.2.2.2.1, (t84.2.2.2.2.1, (((), (t30.1, (v77, ((), ((), (v78, (false, ()))))))), (t76.2.2.2.1, (t80.1, ())))))))))))))))
 | .inr (t85) => (bif (t85.1 != (0 : Int)) then (K (.inl (t85.1, (((), ((), ((), (t85.2.1.2.2.2.1, ((), (t85.2.1.2.2.2.2.2.1, ())))))), (t85.2.2.1, (t85.2.2.2.1, ())))))) else (K (.inr (.inr (.inr (.inr (.inl ((0 : Int), (((), ((), ((), (t85.2.1.2.2.2.1, ((), (t85.2.1.2.2.2.2.2.1, ())))))), (t85.2.2.1, (t85.2.2.2.1, (((), (t30.1, (v77, ((), ((), (v78, (false, ()))))))), (t76.2.2.2.1, (t80.1, ())))))))))))))))))))))))
 | .inr (.inr (.inl t86)) => (K (.inr (.inr (.inl (t86.1, (((), ((), ((), (t86.2.1.2.2.2.1, ((), (t86.2.1.2.2.2.2.2.1, ())))))), (t86.2.2.1, (t86.2.2.2.1, (t86.2.2.2.2.1, ())))))))))
 | .inr (.inr (.inr (t87))) => ((Qx k t87.1 ((), ((), ((), (t87.2.1.2.2.2.1, ((), (t87.2.1.2.2.2.2.2.1, ())))))) t87.2.2.1 t87.2.2.2.1 t87.2.2.2.2.1).bind fun t88 => (match t88 with
 | .inl t89 => (let v90 : ByteArray := t89.1
  let v91 : Int := t89.2.1
  bif (v91 != (0 : Int)) then (K (.inr (.inr (.inl (v91, (((), ((), ((), (t89.2.2.1.2.2.2.1, ((), (t89.2.2.1.2.2.2.2.2.1, ())))))), (t89.2.2.2.1, (t89.2.2.2.2.1, (t89.2.2.2.2.2.1, ()))))))))) else ((Qm k v90).bind fun t92 => (match t92 with
 | .inl t93 => (let v94 : Int := t93.1
  let v95 : Int := t93.2.1
  let v96 : Int := t93.2.2.1
  (QZ k []).bind fun t97 => bif (v95 == (0 : Int)) then (K (.inr (.inr (.inr (.inl ((0 : Int), (((), ((), ((), (t89.2.2.1.2.2.2.1, ((), (t89.2.2.1.2.2.2.2.2.1, ())))))), (t89.2.2.2.1, (t89.2.2.2.2.1, (t89.2.2.2.2.2.1, (((), (t87.1, (v94, ((), ((), (v95, (false, ()))))))), (t97.1, ())))))))))))) else (let v98 : Int := (IntKind.wrap IntKind.i64 ((((ByteArray.size v90) : Nat) : Int) - v95))
  (Q0r k t87.1 v98 ((), ((), ((), (t89.2.2.1.2.2.2.1, ((), (t89.2.2.1.2.2.2.2.2.1, ())))))) t89.2.2.2.1 t89.2.2.2.2.1 t89.2.2.2.2.2.1).bind fun t99 => bif (t99.1 != (0 : Int)) then (K (.inr (.inr (.inl (t99.1, (((), ((), ((), (t99.2.1.2.2.2.1, ((), (t99.2.1.2.2.2.2.2.1, ())))))), (t99.2.2.1, (t99.2.2.2.1, (t99.2.2.2.2.1, ()))))))))) else ((Q9 k ((), ((), ((), (t99.2.1.2.2.2.1, ((), (t99.2.1.2.2.2.2.2.1, ())))))) t99.2.2.1 t99.2.2.2.1 t99.2.2.2.2.1).bind fun t100 => (match t100 with
 | .inl t101 => (bif (t101.1 != (0 : Int)) then (K (.inr (.inr (.inl (t101.1, (((), ((), ((), (t101.2.1.2.2.2.1, ((), (t101.2.1.2.2.2.2.2.1, ())))))), (t101.2.2.1, (t101.2.2.2.1, (t101.2.2.2.2.1, ()))))))))) else (K (.inr (.inr (.inr (.inl ((0 : Int), (((), ((), ((), (t101.2.1.2.2.2.1, ((), (t101.2.1.2.2.2.2.2.1, ())))))), (t101.2.2.1, (t101.2.2.2.1, (t101.2.2.2.2.1, (((), (t87.1, (v94, ((), ((), (v95, (false, ()))))))), (t97.1, ())))))))))))))
 | .inr (t102) => (bif (t102.1 != (0 : Int)) then (K (.inl (t102.1, (((), ((), ((), (t102.2.1.2.2.2.1, ((), (t102.2.1.2.2.2.2.2.1, ())))))), (t102.2.2.1, (t102.2.2.2.1, ())))))) else (K (.inr (.inl ((0 : Int), (((), ((), ((), (t102.2.1.2.2.2.1, ((), (t102.2.1.2.2.2.2.2.1, ())))))), (t102.2.2.1, (t102.2.2.2.1, (((), (t87.1, (v94, ((), ((), (v95, (false, ()))))))), (t97.1, ()))))))))))))))
 | .inr (t103) => (let v104 : Int := t103.1
  let v105 : Int := t103.2.1
  let v106 : Int := t103.2.2.1
  (QZ k t103.2.2.2.1).bind fun t107 => bif (v105 == (0 : Int)) then (K (.inr (.inr (.inr (.inr (.inr ((0 : Int), (((), ((), ((), (t89.2.2.1.2.2.2.1, ((), (t89.2.2.1.2.2.2.2.2.1, ())))))), (t89.2.2.2.1, (t89.2.2.2.2.1, (t89.2.2.2.2.2.1, (((), (t87.1, (v104, ((), ((), (v105, (false, ()))))))), (t103.2.2.2.1, (t107.1, ())))))))))))))) else (let v108 : Int := (IntKind.wrap IntKind.i64 ((((ByteArray.size v90) : Nat) : Int) - v105))
  (Q0r k t87.1 v108 ((), ((), ((), (t89.2.2.1.2.2.2.1, ((), (t89.2.2.1.2.2.2.2.2.1, ())))))) t89.2.2.2.1 t89.2.2.2.2.1 t89.2.2.2.2.2.1).bind fun t109 => bif (t109.1 != (0 : Int)) then (K (.inr (.inr (.inl (t109.1, (((), ((), ((), (t109.2.1.2.2.2.1, ((), (t109.2.1.2.2.2.2.2.1, ())))))), (t109.2.2.1, (t109.2.2.2.1, (t109.2.2.2.2.1, ()))))))))) else ((Q9 k ((), ((), ((), (t109.2.1.2.2.2.1, ((), (t109.2.1.2.2.2.2.2.1, ())))))) t109.2.2.1 t109.2.2.2.1 t109.2.2.2.2.1).bind fun t110 => (match t110 with
 | .inl t111 => (bif (t111.1 != (0 : Int)) then (K (.inr (.inr (.inl (t111.1, (((), ((), ((), (t111.2.1.2.2.2.1, ((), (t111.2.1.2.2.2.2.2.1, ())))))), (t111.2.2.1, (t111.2.2.2.1, (t111.2.2.2.2.1, ()))))))))) else (K (.inr (.inr (.inr (.inr (.inr ((0 : Int), (((), ((), ((), (t111.2.1.2.2.2.1, ((), (t111.2.1.2.2.2.2.2.1, ())))))), (t111.2.2.1, (t111.2.2.2.1, (t111.2.2.2.2.1, (((), (t87.1, (v104, ((), ((), (v105, (false, ()))))))), (t103.2.2.2.1, (t107.1, ())))))))))))))))
 | .inr (t112) => (bif (t112.1 != (0 : Int)) then (K (.inl (t112.1, (((), ((), ((), (t112.2.1.2.2.2.1, ((), (t112.2.1.2.2.2.2.2.1, ())))))), (t112.2.2.1, (t112.2.2.2.1, ())))))) else (K (.inr (.inr (.inr (.inr (.inl ((0 : Int), (((), ((), ((), (t112.2.1.2.2.2.1, ((), (t112.2.1.2.2.2.2.2.1, ())))))), (t112.2.2.1, (t112.2.2.2.1, (((), (t87.1, (v104, ((), ((), (v105, (false, ()))))))), (t103.2.2.2.1, (t107.1, ())))))))))))))))))))))
 | .inr (t113) => (let v114 : ByteArray := t113.1
  let v115 : Int := t113.2.1
  bif (v115 != (0 : Int)) then (K (.inl (v115, (((), ((), ((), (t113.2.2.1.2.2.2.1, ((), (t113.2.2.1.2.2.2.2.2.1, ())))))), (t113.2.2.2.1, (t113.2.2.2.2.1, ())))))) else ((Qm k v114).bind fun t116 => (match t116 with
 | .inl t117 => (let v118 : Int := t117.1
  let v119 : Int := t117.2.1
  let v120 : Int := t117.2.2.1
  (QZ k []).bind fun t121 => bif (v119 == (0 : Int)) then (K (.inr (.inl ((0 : Int), (((), ((), ((), (t113.2.2.1.2.2.2.1, ((), (t113.2.2.1.2.2.2.2.2.1, ())))))), (t113.2.2.2.1, (t113.2.2.2.2.1, (((), (t87.1, (v118, ((), ((), (v119, (false, ()))))))), (t121.1, ()))))))))) else (let v122 : Int := (IntKind.wrap IntKind.i64 ((((ByteArray.size v114) : Nat) : Int) - v119))
  (Q0L k t87.1 v122 ((), ((), ((), (t113.2.2.1.2.2.2.1, ((), (t113.2.2.1.2.2.2.2.2.1, ())))))) t113.2.2.2.1 t113.2.2.2.2.1).bind fun t123 => (match t123 with
 | .inl t124 => (bif (t124.1 != (0 : Int)) then (K (.inl (t124.1, (((), ((), ((), (t124.2.1.2.2.2.1, ((), (t124.2.1.2.2.2.2.2.1, ())))))), (t124.2.2.1, (t124.2.2.2.1, ())))))) else ((Qg k ((), ((), ((), (t124.2.1.2.2.2.1, ((), (t124.2.1.2.2.2.2.2.1, ())))))) t124.2.2.1 t124.2.2.2.1).bind fun t125 => bif (t125.1 != (0 : Int)) then (K (.inl (t125.1, (((), ((), ((), (t125.2.1.2.2.2.1, ((), (t125.2.1.2.2.2.2.2.1, ())))))), (t125.2.2.1, (t125.2.2.2.1, ())))))) else (K (.inr (.inl ((0 : Int), (((), ((), ((), (t125.2.1.2.2.2.1, ((), (t125.2.1.2.2.2.2.2.1, ())))))), (t125.2.2.1, (t125.2.2.2.1, (((), (t87.1, (v118, ((), ((), (v119, (false, ()))))))), (t121.1, ())))))))))))
 | .inr (t126) => (bif (t126.1 != (0 : Int)) then (K (.inr (.inr (.inl (t126.1, (((), ((), ((), (t126.2.1.2.2.2.1, ((), (t126.2.1.2.2.2.2.2.1, ())))))), (t126.2.2.1, (t126.2.2.2.1, (t126.2.2.2.2.1, ()))))))))) else ((Q9 k ((), ((), ((), (t126.2.1.2.2.2.1, ((), (t126.2.1.2.2.2.2.2.1, ())))))) t126.2.2.1 t126.2.2.2.1 t126.2.2.2.2.1).bind fun t127 => (match t127 with
 | .inl t128 => (bif (t128.1 != (0 : Int)) then (K (.inr (.inr (.inl (t128.1, (((), ((), ((), (t128.2.1.2.2.2.1, ((), (t128.2.1.2.2.2.2.2.1, ())))))), (t128.2.2.1, (t128.2.2.2.1, (t128.2.2.2.2.1, ()))))))))) else (K (.inr (.inr (.inr (.inl ((0 : Int), (((), ((), ((), (t128.2.1.2.2.2.1, ((), (t128.2.1.2.2.2.2.2.1, ())))))), (t128.2.2.1, (t128.2.2.2.1, (t128.2.2.2.2.1, (((), (t87.1, (v118, ((), ((), (v119, (false, ()))))))), (t121.1, ())))))))))))))
 | .inr (t129) => (bif (t129.1 != (0 : Int)) then (K (.inl (t129.1, (((), ((), ((), (t129.2.1.2.2.2.1, ((), (t129.2.1.2.2.2.2.2.1, ())))))), (t129.2.2.1, (t129.2.2.2.1, ())))))) else (K (.inr (.inl ((0 : Int), (((), ((), ((), (t129.2.1.2.2.2.1, ((), (t129.2.1.2.2.2.2.2.1, ())))))), (t129.2.2.1, (t129.2.2.2.1, (((), (t87.1, (v118, ((), ((), (v119, (false, ()))))))), (t121.1, ()))))))))))))))))
 | .inr (t130) => (let v131 : Int := t130.1
  let v132 : Int := t130.2.1
  let v133 : Int := t130.2.2.1
  (QZ k t130.2.2.2.1).bind fun t134 => bif (v132 == (0 : Int)) then (K (.inr (.inr (.inr (.inr (.inl ((0 : Int), (((), ((), ((), (t113.2.2.1.2.2.2.1, ((), (t113.2.2.1.2.2.2.2.2.1, ())))))), (t113.2.2.2.1, (t113.2.2.2.2.1, (((), (t87.1, (v131, ((), ((), (v132, (false, ()))))))), (t130.2.2.2.1, (t134.1, ()))))))))))))) else (let v135 : Int := (IntKind.wrap IntKind.i64 ((((ByteArray.size v114) : Nat) : Int) - v132))
  (Q0L k t87.1 v135 ((), ((), ((), (t113.2.2.1.2.2.2.1, ((), (t113.2.2.1.2.2.2.2.2.1, ())))))) t113.2.2.2.1 t113.2.2.2.2.1).bind fun t136 => (match t136 with
 | .inl t137 => (bif (t137.1 != (0 : Int)) then (K (.inl (t137.1, (((), ((), ((), (t137.2.1.2.2.2.1, ((), (t137.2.1.2.2.2.2.2.1, ())))))), (t137.2.2.1, (t137.2.2.2.1, ())))))) else ((Qg k ((), ((), ((), (t137.2.1.2.2.2.1, ((), (t137.2.1.2.2.2.2.2.1, ())))))) t137.2.2.1 t137.2.2.2.1).bind fun t138 => bif (t138.1 != (0 : Int)) then (K (.inl (t138.1, (((), ((), ((), (t138.2.1.2.2.2.1, ((), (t138.2.1.2.2.2.2.2.1, ())))))), (t138.2.2.1, (t138.2.2.2.1, ())))))) else (K (.inr (.inr (.inr (.inr (.inl ((0 : Int), (((), ((), ((), (t138.2.1.2.2.2.1, ((), (t138.2.1.2.2.2.2.2.1, ())))))), (t138.2.2.1, (t138.2.2.2.1, (((), (t87.1, (v131, ((), ((), (v132, (false, ()))))))), (t130.2.2.2.1, (t134.1, ())))))))))))))))
 | .inr (t139) => (bif (t139.1 != (0 : Int)) then (K (.inr (.inr (.inl (t139.1, (((), ((), ((), (t139.2.1.2.2.2.1, ((), (t139.2.1.2.2.2.2.2.1, ())))))), (t139.2.2.1, (t139.2.2.2.1, (t139.2.2.2.2.1, ()))))))))) else ((Q9 k ((), ((), ((), (t139.2.1.2.2.2.1, ((), (t139.2.1.2.2.2.2.2.1, ())))))) t139.2.2.1 t139.2.2.2.1 t139.2.2.2.2.1).bind fun t140 => (match t140 with
 | .inl t141 => (bif (t141.1 != (0 : Int)) then (K (.inr (.inr (.inl (t141.1, (((), ((), ((), (t141.2.1.2.2.2.1, ((), (t141.2.1.2.2.2.2.2.1, ())))))), (t141.2.2.1, (t141.2.2.2.1, (t141.2.2.2.2.1, ()))))))))) else (K (.inr (.inr (.inr (.inr (.inr ((0 : Int), (((), ((), ((), (t141.2.1.2.2.2.1, ((), (t141.2.1.2.2.2.2.2.1, ())))))), (t141.2.2.1, (t141.2.2.2.1, (t141.2.2.2.2.1, (((), (t87.1, (v131, ((), ((), (v132, (false, ()))))))), (t130.2.2.2.1, (t134.1, ())))))))))))))))
 | .inr (t142) => (bif (t142.1 != (0 : Int)) then (K (.inl (t142.1, (((), ((), ((), (t142.2.1.2.2.2.1, ((), (t142.2.1.2.2.2.2.2.1, ())))))), (t142.2.2.1, (t142.2.2.2.1, ())))))) else (K (.inr (.inr (.inr (.inr (.inl ((0 : Int), (((), ((), ((), (t142.2.1.2.2.2.1, ((), (t142.2.1.2.2.2.2.2.1, ())))))), (t142.2.2.1, (t142.2.2.2.1, (((), (t87.1, (v131, ((), ((), (v132, (false, ()))))))), (t130.2.2.2.1, (t134.1, ()))))))))))))))))))))))))))))))))
def Q3 (k : Nat) (name : ByteArray) (b0 : Qg0) (b1 : Qg4) (b2 : Qg4) : Option Q3.τ := Q3.c k name b0 b1 b2 some
def Q3.T : Q1g := ⟨[.ptr 0 [], .dat .str], [.pair (.mp 1) (.pair (.mp 2) (.pair (.nils) (.pair (.dat (.int .i64)) (.pair (.nils) (.dat Qg5))))), .mpd .str .str, .mpd .str .str], 3⟩
def Q3.os : List Out := [⟨.ret, [.freeze (.slot 1), .auto 3], ⟨[.nilp, .dat (.int .i64)], [.pair (.mp 1) (.pair (.mp 2) (.pair (.nils) (.pair (.dat (.int .i64)) (.pair (.nils) (.dat Qg5))))), .mpd .str .str, .mpd .str .str]⟩⟩, ⟨.ret, [.freeze (.slot 1), .auto 3], ⟨[.ptr 3 [], .dat (.int .i64)], [.pair (.mp 1) (.pair (.mp 2) (.pair (.nils) (.pair (.dat (.int .i64)) (.pair (.nils) (.dat Qg5))))), .mpd .str .str, .mpd .str .str, .pair (.ptr 0 []) (.pair (.dat .str) (.pair (.dat (.int .u64)) (.pair (.nils) (.pair (.vsl 4) (.dat Qg2))))), .vec (.int .i64)]⟩⟩, ⟨.ret, [.freeze (.slot 1), .auto 3], ⟨[.nilp, .dat (.int .i64)], [.pair (.mp 1) (.pair (.mp 2) (.pair (.vsl 3) (.pair (.dat (.int .i64)) (.pair (.nils) (.dat Qg5))))), .mpd .str .str, .mpd .str .str, .vec QfV]⟩⟩, ⟨.ret, [.freeze (.slot 1), .auto 3], ⟨[.ptr 4 [], .dat (.int .i64)], .pair (.mp 1) (.pair (.mp 2) (.pair (.vsl 3) (.pair (.dat (.int .i64)) (.pair (.nils) (.dat Qg5))))) :: .mpd .str .str :: .mpd .str .str :: .vec QfV :: .pair (.ptr 0 []) (.pair (.dat .str) (.pair (.dat (.int .u64)) (.pair (.nils) (.pair (.vsl 5) (.dat Qg2))))) :: .vec (.int .i64) :: []⟩⟩, ⟨.ret, [.freeze (.slot 1), .auto 3], ⟨[.ptr 3 [], .dat (.int .i64)], .pair (.mp 1) (.pair (.mp 2) (.pair (.nils) (.pair (.dat (.int .i64)) (.pair (.nils) (.dat Qg5))))) :: .mpd .str .str :: .mpd .str .str :: .pair (.ptr 0 []) (.pair (.dat .str) (.pair (.dat (.int .u64)) (.pair (.vsl 4) (.pair (.vsl 5) (.dat Qg2))))) :: .vec .str :: .vec (.int .i64) :: []⟩⟩, ⟨.ret, [.freeze (.slot 1), .auto 3], ⟨[.ptr 4 [], .dat (.int .i64)], .pair (.mp 1) (.pair (.mp 2) (.pair (.vsl 3) (.pair (.dat (.int .i64)) (.pair (.nils) (.dat Qg5))))) :: .mpd .str .str :: .mpd .str .str :: .vec QfV :: .pair (.ptr 0 []) (.pair (.dat .str) (.pair (.dat (.int .u64)) (.pair (.vsl 5) (.pair (.vsl 6) (.dat Qg2))))) :: .vec .str :: .vec (.int .i64) :: []⟩⟩]
def Q3.sem (k : Nat) : QS := Q1i Q3.T Q3.os fun x => Q3 k x.1 x.2.1 x.2.2.1 x.2.2.2.1
noncomputable def Q3.ctx (k : Nat) : Ctx := ⟨Try.prog, gam [(50, (Q19.sem k)), (51, (Q0K.sem k)), (12, (Qm.sem k)), (52, (Q0B.sem k)), (53, (Q25 (Q2b QH.T) (QH.sem k) (Qx.sem k))), (54, (QZ.sem k)), (55, (Q25 (Q2b Q0L.T) (Q0L.sem k) (Q0r.sem k))), (56, (Q25 (Q2b Qg.T) (Qg.sem k) (Q9.sem k)))]⟩
theorem Q3.gok (k : Nat) : ∀ f, Qz Try.prog f ((Q3.ctx k).Γ f) := (Qk (Q19.sem_ok k) (Qk (Q0K.sem_ok k) (Qk (Qm.sem_ok k) (Qk (Q0B.sem_ok k) (Qk (Q1z (QH.sem_ok k) (Qx.sem_ok k)) (Qk (QZ.sem_ok k) (Qk (Q1z (Q0L.sem_ok k) (Q0r.sem_ok k)) (Qk (Q1z (Qg.sem_ok k) (Q9.sem_ok k)) Q0f))))))))
theorem Q3.p3.is (k : Nat) : Q1t (Q3.ctx k) (QV (Func.code Try.f16) [1, 1, 1, 1, 1, 1, 0]) (.nil) Q3.p3.T Q3.p3.os (Q3.p3.r k) := by
 intro ρ x K; kernel_rfl
theorem Q3.p3.ok (k : Nat) : StOK 3 Try.prog (QV (Func.code Try.f16) [1, 1, 1, 1, 1, 1, 0]) (Qf Q3.p3.T Q3.p3.os (Q3.p3 k)) :=
 Q1m (C := Q3.ctx k) (T := Q3.p3.T) (os := Q3.p3.os) (Q3.gok k) Try.mix (fun x K => Q3.p3.r k x K) Q1.nil (by kernel_rfl) (by kernel_rfl) (Q3.p3.is k)
theorem Q3.p2.is (k : Nat) : Q1t (Q3.ctx k) (QV (Func.code Try.f16) [1, 1, 1, 1, 1, 0]) (.nil) Q3.p2.T Q3.p2.os (Q3.p2.r k) := by
 intro ρ x K; kernel_rfl
theorem Q3.p2.ok (k : Nat) : StOK 3 Try.prog (QV (Func.code Try.f16) [1, 1, 1, 1, 1, 0]) (Qf Q3.p2.T Q3.p2.os (Q3.p2 k)) :=
 Q1m (C := Q3.ctx k) (T := Q3.p2.T) (os := Q3.p2.os) (Q3.gok k) Try.mix (fun x K => Q3.p2.r k x K) Q1.nil (by kernel_rfl) (by kernel_rfl) (Q3.p2.is k)
theorem Q3.p1.is (k : Nat) : Q1t (Q3.ctx k) (QV (Func.code Try.f16) [1, 1, 1, 1, 0]) (.nil) Q3.p1.T Q3.p1.os (Q3.p1.r k) := by
 intro ρ x K; kernel_rfl
theorem Q3.p1.ok (k : Nat) : StOK 3 Try.prog (QV (Func.code Try.f16) [1, 1, 1, 1, 0]) (Qf Q3.p1.T Q3.p1.os (Q3.p1 k)) :=
 Q1m (C := Q3.ctx k) (T := Q3.p1.T) (os := Q3.p1.os) (Q3.gok k) Try.mix (fun x K => Q3.p1.r k x K) Q1.nil (by kernel_rfl) (by kernel_rfl) (Q3.p1.is k)
theorem Q3.p0.is (k : Nat) : Q1t (Q3.ctx k) (QV (Func.code Try.f16) [1, 1, 0]) (.nil) Q3.p0.T Q3.p0.os (Q3.p0.r k) := by
 intro ρ x K; kernel_rfl
theorem Q3.p0.ok (k : Nat) : StOK 3 Try.prog (QV (Func.code Try.f16) [1, 1, 0]) (Qf Q3.p0.T Q3.p0.os (Q3.p0 k)) :=
 Q1m (C := Q3.ctx k) (T := Q3.p0.T) (os := Q3.p0.os) (Q3.gok k) Try.mix (fun x K => Q3.p0.r k x K) Q1.nil (by kernel_rfl) (by kernel_rfl) (Q3.p0.is k)
def Q3.ann (k : Nat) : Ann := .node [] none (.nil) (.node [] none (.nil) (.node [] none (.node [.mask [0, 1], .auto 3] (some (Qf Q3.p0.T Q3.p0.os (Q3.p0 k))) .nil .nil) (.node [] none (.nil) (.node [] none (.node [.mask [0, 1, 6, 7], .auto 3] (some (Qf Q3.p1.T Q3.p1.os (Q3.p1 k))) .nil .nil) (.node [] none (.node [.mask [0, 1, 6], .auto 3] (some (Qf Q3.p2.T Q3.p2.os (Q3.p2 k))) .nil .nil) (.node [] none (.node [.mask [0, 1], .auto 3] (some (Qf Q3.p3.T Q3.p3.os (Q3.p3 k))) .nil .nil) (.nil)))))))
theorem Q3.body (k : Nat) : Q1j (Q3.ctx k) Try.f16 (Func.code Try.f16) (Q3.ann k) Q3.T Q3.os (fun x K => Q3.c k x.1 x.2.1 x.2.2.1 x.2.2.2.1 K) := by
 intro ρ x K; kernel_rfl
theorem Q3.sem_ok (k : Nat) : Qz Try.prog 16 (Q3.sem k) :=
 Q0q (C := Q3.ctx k) (Q3.gok k) Try.mix (c := Func.code Try.f16) (ann := Q3.ann k) (T := Q3.T) (os := Q3.os) (fun x K => Q3.c k x.1 x.2.1 x.2.2.1 x.2.2.2.1 K) Try.func16 (by kernel_rfl) (by kernel_rfl) (Q1.seq Q1.nil (Q1.seq Q1.nil (Q1.seq (Q1.loop (by kernel_rfl) (Q3.p0.ok k)) (Q1.seq Q1.nil (Q1.seq (Q1.loop (by kernel_rfl) (Q3.p1.ok k)) (Q1.seq (Q1.loop (by kernel_rfl) (Q3.p2.ok k)) (Q1.seq (Q1.loop (by kernel_rfl) (Q3.p3.ok k)) Q1.nil))))))) (Q3.body k) (by kernel_rfl) (by kernel_rfl) (by kernel_rfl)
abbrev Qn.l0.σ : Type := Int × Int × Int × Int × Qg0 × Qg4 × Qg4 × Unit
abbrev Qn.l0.τ : Type := QfQ 
def Qn.l0.r (k : Nat) {ρ : Type} (x : Qn.l0.σ) (kn : Qn.l0.σ → Option ρ) (ke : Qn.l0.τ → Option ρ) : Option ρ :=
 bif (decide (x.2.2.2.1 < x.2.2.1)) then (none) else (ke (x.1, (x.2.1, (((), ((), ((), (x.2.2.2.2.1.2.2.2.1, ((), (x.2.2.2.2.1.2.2.2.2.2.1, ())))))), (x.2.2.2.2.2.1, (x.2.2.2.2.2.2.1, ()))))))
def Qn.l0 (k : Nat) : Nat → Qn.l0.σ → Option Qn.l0.τ := Q1p (Qn.l0.r k)
def Qn.l0.T : StT := ⟨.ptr 0 [] :: .dat (.int .i64) :: .dat (.int .i64) :: us 19 ++ .nils :: .dat (.int .i64) :: .dat (.int .i64) :: us 68, [.pair (.mp 1) (.pair (.mp 2) (.pair (.nils) (.pair (.dat (.int .i64)) (.pair (.nils) (.dat Qg5))))), .mpd .str .str, .mpd .str .str]⟩
def Qn.l0.os : List Out := [⟨(.exit 0), [.mask [0, 1, 2], .auto 3], ⟨.ptr 0 [] :: .dat (.int .i64) :: .dat (.int .i64) :: us 90, [.pair (.mp 1) (.pair (.mp 2) (.pair (.nils) (.pair (.dat (.int .i64)) (.pair (.nils) (.dat Qg5))))), .mpd .str .str, .mpd .str .str]⟩⟩]
abbrev Qn.p1.σ : Type := Int × Int × Qg0 × Qg4 × Qg4 × Unit
abbrev Qn.p1.τ : Type := QfU 
def Qn.p1.r (k : Nat) {ρ : Type} (x : Qn.p1.σ) (K : Qn.p1.τ → Option ρ) : Option ρ :=
 bif (decide (x.1 < (0 : Int))) then (bif (decide (x.2.1 > (0 : Int))) then (none) else (K (((), ((), ((), (x.2.2.1.2.2.2.1, ((), (x.2.2.1.2.2.2.2.2.1, ())))))), (x.2.2.2.1, (x.2.2.2.2.1, ()))))) else (K (((), ((), ((), (x.2.2.1.2.2.2.1, ((), (x.2.2.1.2.2.2.2.2.1, ())))))), (x.2.2.2.1, (x.2.2.2.2.1, ()))))
def Qn.p1 (k : Nat) (x : Qn.p1.σ) : Option Qn.p1.τ := Qn.p1.r k x some
def Qn.p1.T : StT := ⟨.ptr 0 [] :: .dat (.int .i64) :: .dat (.int .i64) :: us 90, [.pair (.mp 1) (.pair (.mp 2) (.pair (.nils) (.pair (.dat (.int .i64)) (.pair (.nils) (.dat Qg5))))), .mpd .str .str, .mpd .str .str]⟩
def Qn.p1.os : List Out := [⟨.normal, [.mask [0], .auto 3], ⟨.ptr 0 [] :: us 92, [.pair (.mp 1) (.pair (.mp 2) (.pair (.nils) (.pair (.dat (.int .i64)) (.pair (.nils) (.dat Qg5))))), .mpd .str .str, .mpd .str .str]⟩⟩]
abbrev Qn.τ : Type := QfN 
def Qn.c (k : Nat) {ρ : Type} (keep : Int) (torn : Int) (b0 : Qg0) (b1 : Qg4) (b2 : Qg4) (K : Qn.τ → Option ρ) : Option ρ :=
 let v0 : Int := (if ((0 : Int) > keep) then (0 : Int) else keep)
 let v1 : Int := (if ((0 : Int) < v0) then (0 : Int) else v0)
 bif (decide (((0 : Int) = (0 : Int)) ∧ (v1 = (0 : Int)))) then ((Qn.l0 k k (v1, (torn, ((0 : Int), ((0 : Int), (((), ((), ((), (b0.2.2.2.1, ((), (b0.2.2.2.2.2.1, ())))))), (b1, (b2, ())))))))).bind fun t2 => (Qn.p1 k (t2.1, (t2.2.1, (((), ((), ((), (t2.2.2.1.2.2.2.1, ((), (t2.2.2.1.2.2.2.2.2.1, ())))))), (t2.2.2.2.1, (t2.2.2.2.2.1, ())))))).bind fun t3 => K (((), ((), ((), (t3.1.2.2.2.1, ((), (true, ())))))), (t3.2.1, (t3.2.2.1, (t3.2.1, ()))))) else (none)
def Qn (k : Nat) (keep : Int) (torn : Int) (b0 : Qg0) (b1 : Qg4) (b2 : Qg4) : Option Qn.τ := Qn.c k keep torn b0 b1 b2 some
def Qn.T : Q1g := ⟨[.ptr 0 [], .dat (.int .i64), .dat (.int .i64)], [.pair (.mp 1) (.pair (.mp 2) (.pair (.nils) (.pair (.dat (.int .i64)) (.pair (.nils) (.dat Qg5))))), .mpd .str .str, .mpd .str .str], 3⟩
def Qn.os : List Out := [⟨.ret, [.auto 3], ⟨[], [.pair (.mp 1) (.pair (.mp 3) (.pair (.nils) (.pair (.dat (.int .i64)) (.pair (.nils) (.dat Qg5))))), .mpd .str .str, .mpd .str .str, .mpd .str .str]⟩⟩]
def Qn.sem (k : Nat) : QS := Q1i Qn.T Qn.os fun x => Qn k x.1 x.2.1 x.2.2.1 x.2.2.2.1 x.2.2.2.2.1
noncomputable def Qn.ctx (k : Nat) : Ctx := ⟨Try.prog, gam [(78, Qcq)]⟩
theorem Qn.gok (k : Nat) : ∀ f, Qz Try.prog f ((Qn.ctx k).Γ f) := (Qk Mc.clone Q0f)
theorem Qn.l0.round (k : Nat) : Q1n (Qn.ctx k) (QV (Func.code Try.f57) [1, 0, 1, 0, 0]) (.nil) Qn.l0.T [] Qn.l0.os (Qn.l0.r k) := by
 intro ρ x kn ke; kernel_rfl
theorem Qn.l0.ok (k : Nat) : StOK 3 Try.prog (.loop (QV (Func.code Try.f57) [1, 0, 1, 0, 0])) (Qf Qn.l0.T Qn.l0.os (Qn.l0 k k)) :=
 Q1o (C := Qn.ctx k) (Qn.gok k) Try.mix Q1.nil (by kernel_rfl) (by kernel_rfl) (by kernel_rfl) (Qn.l0.round k) k
theorem Qn.p1.is (k : Nat) : Q1t (Qn.ctx k) (QV (Func.code Try.f57) [1, 1, 0]) (.nil) Qn.p1.T Qn.p1.os (Qn.p1.r k) := by
 intro ρ x K; kernel_rfl
theorem Qn.p1.ok (k : Nat) : StOK 3 Try.prog (QV (Func.code Try.f57) [1, 1, 0]) (Qf Qn.p1.T Qn.p1.os (Qn.p1 k)) :=
 Q1m (C := Qn.ctx k) (T := Qn.p1.T) (os := Qn.p1.os) (Qn.gok k) Try.mix (fun x K => Qn.p1.r k x K) Q1.nil (by kernel_rfl) (by kernel_rfl) (Qn.p1.is k)
def Qn.ann (k : Nat) : Ann := .node [] none (.nil) (.node [] none (.node [] none (.nil) (.node [] none (.node [.mask [0, 1, 2, 22, 23, 24], .auto 3] (some (Qf Qn.l0.T Qn.l0.os (Qn.l0 k k))) .nil .nil) (.nil))) (.node [] none (.node [.mask [0, 1, 2], .auto 3] (some (Qf Qn.p1.T Qn.p1.os (Qn.p1 k))) .nil .nil) (.nil)))
theorem Qn.body (k : Nat) : Q1j (Qn.ctx k) Try.f57 (Func.code Try.f57) (Qn.ann k) Qn.T Qn.os (fun x K => Qn.c k x.1 x.2.1 x.2.2.1 x.2.2.2.1 x.2.2.2.2.1 K) := by
 intro ρ x K; kernel_rfl
theorem Qn.sem_ok (k : Nat) : Qz Try.prog 57 (Qn.sem k) :=
 Q0q (C := Qn.ctx k) (Qn.gok k) Try.mix (c := Func.code Try.f57) (ann := Qn.ann k) (T := Qn.T) (os := Qn.os) (fun x K => Qn.c k x.1 x.2.1 x.2.2.1 x.2.2.2.1 x.2.2.2.2.1 K) Try.func57 (by kernel_rfl) (by kernel_rfl) (Q1.seq Q1.nil (Q1.seq (Q1.seq Q1.nil (Q1.block (Q1.loop (by kernel_rfl) (Qn.l0.ok k)))) (Q1.seq (Q1.loop (by kernel_rfl) (Qn.p1.ok k)) Q1.nil))) (Qn.body k) (by kernel_rfl) (by kernel_rfl) (by kernel_rfl)
abbrev Q0J.τ : Type := QfN ⊕ QfU 
def Q0J.c (k : Nat) {ρ : Type} (keep : Int) (torn : Int) (b0 : Qg0) (b1 : Qg4) (b2 : Qg4) (K : Q0J.τ → Option ρ) : Option ρ :=
 (Q0P k ((), ((), ((), (b0.2.2.2.1, ((), (b0.2.2.2.2.2.1, ())))))) b1 b2).bind fun t0 => bif (!t0.1) then ((Qn k keep torn ((), ((), ((), (t0.2.1.2.2.2.1, ((), (t0.2.1.2.2.2.2.2.1, ())))))) t0.2.2.1 t0.2.2.2.1).bind fun t1 => K (.inl (((), ((), ((), (t1.1.2.2.2.1, ((), (t1.1.2.2.2.2.2.1, ())))))), (t1.2.1, (t1.2.2.1, (t1.2.2.2.1, ())))))) else (K (.inr (((), ((), ((), (t0.2.1.2.2.2.1, ((), (t0.2.1.2.2.2.2.2.1, ())))))), (t0.2.2.1, (t0.2.2.2.1, ())))))
def Q0J (k : Nat) (keep : Int) (torn : Int) (b0 : Qg0) (b1 : Qg4) (b2 : Qg4) : Option Q0J.τ := Q0J.c k keep torn b0 b1 b2 some
def Q0J.T : Q1g := ⟨[.ptr 0 [], .dat (.int .i64), .dat (.int .i64)], [.pair (.mp 1) (.pair (.mp 2) (.pair (.nils) (.pair (.dat (.int .i64)) (.pair (.nils) (.dat Qg5))))), .mpd .str .str, .mpd .str .str], 3⟩
def Q0J.os : List Out := [⟨.ret, [.auto 3], ⟨[], [.pair (.mp 1) (.pair (.mp 3) (.pair (.nils) (.pair (.dat (.int .i64)) (.pair (.nils) (.dat Qg5))))), .mpd .str .str, .mpd .str .str, .mpd .str .str]⟩⟩, ⟨.ret, [.auto 3], ⟨[], [.pair (.mp 1) (.pair (.mp 2) (.pair (.nils) (.pair (.dat (.int .i64)) (.pair (.nils) (.dat Qg5))))), .mpd .str .str, .mpd .str .str]⟩⟩]
def Q0J.sem (k : Nat) : QS := Q1i Q0J.T Q0J.os fun x => Q0J k x.1 x.2.1 x.2.2.1 x.2.2.2.1 x.2.2.2.2.1
noncomputable def Q0J.ctx (k : Nat) : Ctx := ⟨Try.prog, gam [(30, (Q0P.sem k)), (57, (Qn.sem k))]⟩
theorem Q0J.gok (k : Nat) : ∀ f, Qz Try.prog f ((Q0J.ctx k).Γ f) := (Qk (Q0P.sem_ok k) (Qk (Qn.sem_ok k) Q0f))
def Q0J.ann (k : Nat) : Ann := .nil
theorem Q0J.body (k : Nat) : Q1j (Q0J.ctx k) Try.f17 (Func.code Try.f17) (Q0J.ann k) Q0J.T Q0J.os (fun x K => Q0J.c k x.1 x.2.1 x.2.2.1 x.2.2.2.1 x.2.2.2.2.1 K) := by
 intro ρ x K; kernel_rfl
theorem Q0J.sem_ok (k : Nat) : Qz Try.prog 17 (Q0J.sem k) :=
 Q0q (C := Q0J.ctx k) (Q0J.gok k) Try.mix (c := Func.code Try.f17) (ann := Q0J.ann k) (T := Q0J.T) (os := Q0J.os) (fun x K => Q0J.c k x.1 x.2.1 x.2.2.1 x.2.2.2.1 x.2.2.2.2.1 K) Try.func17 (by kernel_rfl) (by kernel_rfl) Q1.nil (Q0J.body k) (by kernel_rfl) (by kernel_rfl) (by kernel_rfl)
abbrev Qr.τ : Type := (Bool × Unit)
def Qr.c (k : Nat) {ρ : Type}  (K : Qr.τ → Option ρ) : Option ρ :=
 K (true, ())
def Qr (k : Nat)  : Option Qr.τ := Qr.c k  some
def Qr.T : Q1g := ⟨[.nilp], [], 0⟩
def Qr.os : List Out := [⟨.ret, [.freeze (.slot 0), .auto 0], ⟨[.dat .bool], []⟩⟩]
def Qr.sem (k : Nat) : QS := Q1i Qr.T Qr.os fun x => Qr k 
noncomputable def Qr.ctx (k : Nat) : Ctx := ⟨Try.prog, gam []⟩
theorem Qr.gok (k : Nat) : ∀ f, Qz Try.prog f ((Qr.ctx k).Γ f) := Q0f
def Qr.ann (k : Nat) : Ann := .nil
theorem Qr.body (k : Nat) : Q1j (Qr.ctx k) Try.f21 (Func.code Try.f21) (Qr.ann k) Qr.T Qr.os (fun x K => Qr.c k  K) := by
 intro ρ x K; kernel_rfl
theorem Qr.sem_ok (k : Nat) : Qz Try.prog 21 (Qr.sem k) :=
 Q0q (C := Qr.ctx k) (Qr.gok k) Try.mix (c := Func.code Try.f21) (ann := Qr.ann k) (T := Qr.T) (os := Qr.os) (fun x K => Qr.c k  K) Try.func21 (by kernel_rfl) (by kernel_rfl) Q1.nil (Qr.body k) (by kernel_rfl) (by kernel_rfl) (by kernel_rfl)
abbrev QQ.τ : Type := (Int × Unit)
def QQ.c (k : Nat) {ρ : Type}  (K : QQ.τ → Option ρ) : Option ρ :=
 (Qr k ).bind fun t0 => bif t0.1 then (K ((7 : Int), ())) else (K ((0 : Int), ()))
def QQ (k : Nat)  : Option QQ.τ := QQ.c k  some
def QQ.T : Q1g := ⟨[.nilp], [], 0⟩
def QQ.os : List Out := [⟨.ret, [.freeze (.slot 0), .auto 0], ⟨[.dat (.int .i64)], []⟩⟩]
def QQ.sem (k : Nat) : QS := Q1i QQ.T QQ.os fun x => QQ k 
noncomputable def QQ.ctx (k : Nat) : Ctx := ⟨Try.prog, gam [(21, (Qr.sem k))]⟩
theorem QQ.gok (k : Nat) : ∀ f, Qz Try.prog f ((QQ.ctx k).Γ f) := (Qk (Qr.sem_ok k) Q0f)
def QQ.ann (k : Nat) : Ann := .nil
theorem QQ.body (k : Nat) : Q1j (QQ.ctx k) Try.f58 (Func.code Try.f58) (QQ.ann k) QQ.T QQ.os (fun x K => QQ.c k  K) := by
 intro ρ x K; kernel_rfl
theorem QQ.sem_ok (k : Nat) : Qz Try.prog 58 (QQ.sem k) :=
 Q0q (C := QQ.ctx k) (QQ.gok k) Try.mix (c := Func.code Try.f58) (ann := QQ.ann k) (T := QQ.T) (os := QQ.os) (fun x K => QQ.c k  K) Try.func58 (by kernel_rfl) (by kernel_rfl) Q1.nil (QQ.body k) (by kernel_rfl) (by kernel_rfl) (by kernel_rfl)
abbrev QC.τ : Type := (Int × Unit)
def QC.c (k : Nat) {ρ : Type} (s : ByteArray) (K : QC.τ → Option ρ) : Option ρ :=
 (QQ k ).bind fun t0 => bif (t0.1 != (0 : Int)) then (K (t0.1, ())) else (none)
def QC (k : Nat) (s : ByteArray) : Option QC.τ := QC.c k s some
def QC.T : Q1g := ⟨[.nilp, .dat .str], [], 0⟩
def QC.os : List Out := [⟨.ret, [.freeze (.slot 0), .auto 0], ⟨[.dat (.int .i64)], []⟩⟩]
def QC.sem (k : Nat) : QS := Q1i QC.T QC.os fun x => QC k x.1
noncomputable def QC.ctx (k : Nat) : Ctx := ⟨Try.prog, gam [(58, (QQ.sem k))]⟩
theorem QC.gok (k : Nat) : ∀ f, Qz Try.prog f ((QC.ctx k).Γ f) := (Qk (QQ.sem_ok k) Q0f)
def QC.ann (k : Nat) : Ann := .nil
theorem QC.body (k : Nat) : Q1j (QC.ctx k) Try.f18 (Func.code Try.f18) (QC.ann k) QC.T QC.os (fun x K => QC.c k x.1 K) := by
 intro ρ x K; kernel_rfl
theorem QC.sem_ok (k : Nat) : Qz Try.prog 18 (QC.sem k) :=
 Q0q (C := QC.ctx k) (QC.gok k) Try.mix (c := Func.code Try.f18) (ann := QC.ann k) (T := QC.T) (os := QC.os) (fun x K => QC.c k x.1 K) Try.func18 (by kernel_rfl) (by kernel_rfl) Q1.nil (QC.body k) (by kernel_rfl) (by kernel_rfl) (by kernel_rfl)
abbrev Qu.τ : Type := (Int × Unit)
def Qu.c (k : Nat) {ρ : Type}  (K : Qu.τ → Option ρ) : Option ρ :=
 (QQ k ).bind fun t0 => bif (t0.1 != (0 : Int)) then (K (t0.1, ())) else (none)
def Qu (k : Nat)  : Option Qu.τ := Qu.c k  some
def Qu.T : Q1g := ⟨[.nilp], [], 0⟩
def Qu.os : List Out := [⟨.ret, [.freeze (.slot 0), .auto 0], ⟨[.dat (.int .i64)], []⟩⟩]
def Qu.sem (k : Nat) : QS := Q1i Qu.T Qu.os fun x => Qu k 
noncomputable def Qu.ctx (k : Nat) : Ctx := ⟨Try.prog, gam [(58, (QQ.sem k))]⟩
theorem Qu.gok (k : Nat) : ∀ f, Qz Try.prog f ((Qu.ctx k).Γ f) := (Qk (QQ.sem_ok k) Q0f)
def Qu.ann (k : Nat) : Ann := .nil
theorem Qu.body (k : Nat) : Q1j (Qu.ctx k) Try.f19 (Func.code Try.f19) (Qu.ann k) Qu.T Qu.os (fun x K => Qu.c k  K) := by
 intro ρ x K; kernel_rfl
theorem Qu.sem_ok (k : Nat) : Qz Try.prog 19 (Qu.sem k) :=
 Q0q (C := Qu.ctx k) (Qu.gok k) Try.mix (c := Func.code Try.f19) (ann := Qu.ann k) (T := Qu.T) (os := Qu.os) (fun x K => Qu.c k  K) Try.func19 (by kernel_rfl) (by kernel_rfl) Q1.nil (Qu.body k) (by kernel_rfl) (by kernel_rfl) (by kernel_rfl)
abbrev Qa.l0.σ : Type := (List ByteArray) × (List ByteArray) × Int × Int × Unit
abbrev Qa.l0.τ : Type := (Int × Unit) ⊕ ((List ByteArray) × Unit)
def Qa.l0.r (k : Nat) {ρ : Type} (x : Qa.l0.σ) (kn : Qa.l0.σ → Option ρ) (ke : Qa.l0.τ → Option ρ) : Option ρ :=
 bif (decide (x.2.2.2.1 < x.2.2.1)) then (bif (decide (((0 : Int) ≤ x.2.2.2.1) ∧ (x.2.2.2.1 < (((List.length x.2.1) : Nat) : Int)))) then (let v1 : ByteArray := (List.getD x.2.1 (Int.toNat x.2.2.2.1) ByteArray.empty)
 bif (decide ((((ByteArray.size v1) : Nat) : Int) > (65536 : Int))) then (ke (.inl ((121 : Int), ()))) else (let v2 : Int := (IntKind.wrap IntKind.i64 (x.2.2.2.1 + (1 : Int)))
 kn (x.1, (x.2.1, (x.2.2.1, (v2, ())))))) else (none)) else (ke (.inr (x.1, ())))
def Qa.l0 (k : Nat) : Nat → Qa.l0.σ → Option Qa.l0.τ := Q1p (Qa.l0.r k)
def Qa.l0.T : StT := ⟨.nilp :: .dat (.sl .str) :: us 19 ++ .dat (.sl .str) :: .dat (.int .i64) :: .dat (.int .i64) :: us 75, []⟩
def Qa.l0.os : List Out := [⟨.ret, [.mask [4], .auto 0], ⟨us 4 ++ .dat (.int .i64) :: us 94, []⟩⟩, ⟨(.exit 0), [.mask [0, 1], .auto 0], ⟨.nilp :: .dat (.sl .str) :: us 97, []⟩⟩]
abbrev Qa.τ : Type := (Int × Unit)
def Qa.c (k : Nat) {ρ : Type} (l : (List ByteArray)) (K : Qa.τ → Option ρ) : Option ρ :=
  (QQ k ).bind fun t0 => bif (t0.1 != (0 : Int)) then (K (t0.1, ())) else ((Qa.l0 k k (l, (l, ((((List.length l) : Nat) : Int), ((0 : Int), ()))))).bind fun t3 => (match t3 with
 | .inl t4 => (K (t4.1, ()))
 | .inr (t5) => (none)))
def Qa (k : Nat) (l : (List ByteArray)) : Option Qa.τ := Qa.c k l some
def Qa.T : Q1g := ⟨[.nilp, .dat (.sl .str)], [], 0⟩
def Qa.os : List Out := [⟨.ret, [.freeze (.slot 0), .auto 0], ⟨[.dat (.int .i64)], []⟩⟩]
def Qa.sem (k : Nat) : QS := Q1i Qa.T Qa.os fun x => Qa k x.1
noncomputable def Qa.ctx (k : Nat) : Ctx := ⟨Try.prog, gam [(58, (QQ.sem k))]⟩
theorem Qa.gok (k : Nat) : ∀ f, Qz Try.prog f ((Qa.ctx k).Γ f) := (Qk (QQ.sem_ok k) Q0f)
theorem Qa.l0.round (k : Nat) : Q1n (Qa.ctx k) (QV (Func.code Try.f20) [1, 1, 0, 1, 0, 0]) (.nil) Qa.l0.T [.mask [0, 1, 21, 22, 23], .auto 0] Qa.l0.os (Qa.l0.r k) := by
 intro ρ x kn ke; kernel_rfl
theorem Qa.l0.ok (k : Nat) : StOK 0 Try.prog (.loop (QV (Func.code Try.f20) [1, 1, 0, 1, 0, 0])) (Qf Qa.l0.T Qa.l0.os (Qa.l0 k k)) :=
 Q1o (C := Qa.ctx k) (Qa.gok k) Try.mix Q1.nil (by kernel_rfl) (by kernel_rfl) (by kernel_rfl) (Qa.l0.round k) k
def Qa.ann (k : Nat) : Ann := .node [] none (.nil) (.node [] none (.nil) (.node [] none (.node [] none (.nil) (.node [] none (.node [] (some (Qf Qa.l0.T Qa.l0.os (Qa.l0 k k))) .nil .nil) (.nil))) (.nil)))
theorem Qa.body (k : Nat) : Q1j (Qa.ctx k) Try.f20 (Func.code Try.f20) (Qa.ann k) Qa.T Qa.os (fun x K => Qa.c k x.1 K) := by
 intro ρ x K; kernel_rfl
theorem Qa.sem_ok (k : Nat) : Qz Try.prog 20 (Qa.sem k) :=
 Q0q (C := Qa.ctx k) (Qa.gok k) Try.mix (c := Func.code Try.f20) (ann := Qa.ann k) (T := Qa.T) (os := Qa.os) (fun x K => Qa.c k x.1 K) Try.func20 (by kernel_rfl) (by kernel_rfl) (Q1.seq Q1.nil (Q1.seq Q1.nil (Q1.seq (Q1.seq Q1.nil (Q1.block (Q1.loop (by kernel_rfl) (Qa.l0.ok k)))) Q1.nil))) (Qa.body k) (by kernel_rfl) (by kernel_rfl) (by kernel_rfl)
abbrev QD.τ : Type := (Int × Unit)
def QD.c (k : Nat) {ρ : Type}  (K : QD.τ → Option ρ) : Option ρ :=
 K ((0 : Int), ())
def QD (k : Nat)  : Option QD.τ := QD.c k  some
def QD.T : Q1g := ⟨[.nilp], [], 0⟩
def QD.os : List Out := [⟨.ret, [.freeze (.slot 0), .auto 0], ⟨[.dat (.int .i64)], []⟩⟩]
def QD.sem (k : Nat) : QS := Q1i QD.T QD.os fun x => QD k 
noncomputable def QD.ctx (k : Nat) : Ctx := ⟨Try.prog, gam []⟩
theorem QD.gok (k : Nat) : ∀ f, Qz Try.prog f ((QD.ctx k).Γ f) := Q0f
def QD.ann (k : Nat) : Ann := .nil
theorem QD.body (k : Nat) : Q1j (QD.ctx k) Try.f25 (Func.code Try.f25) (QD.ann k) QD.T QD.os (fun x K => QD.c k  K) := by
 intro ρ x K; kernel_rfl
theorem QD.sem_ok (k : Nat) : Qz Try.prog 25 (QD.sem k) :=
 Q0q (C := QD.ctx k) (QD.gok k) Try.mix (c := Func.code Try.f25) (ann := QD.ann k) (T := QD.T) (os := QD.os) (fun x K => QD.c k  K) Try.func25 (by kernel_rfl) (by kernel_rfl) Q1.nil (QD.body k) (by kernel_rfl) (by kernel_rfl) (by kernel_rfl)
abbrev QJ.τ : Type := (ByteArray × Bool × Unit)
def QJ.c (k : Nat) {ρ : Type} (n : Int) (K : QJ.τ → Option ρ) : Option ρ :=
 bif (decide (n < (0 : Int))) then (K ((⟨(List.toArray [])⟩ : ByteArray), (false, ()))) else ((QD k ).bind fun t0 => bif (decide (n ≥ t0.1)) then (K ((⟨(List.toArray [])⟩ : ByteArray), (false, ()))) else (none))
def QJ (k : Nat) (n : Int) : Option QJ.τ := QJ.c k n some
def QJ.T : Q1g := ⟨[.nilp, .dat (.int .i64)], [], 0⟩
def QJ.os : List Out := [⟨.ret, [.freeze (.slot 0), .freeze (.slot 1), .auto 0], ⟨[.dat .str, .dat .bool], []⟩⟩]
def QJ.sem (k : Nat) : QS := Q1i QJ.T QJ.os fun x => QJ k x.1
noncomputable def QJ.ctx (k : Nat) : Ctx := ⟨Try.prog, gam [(25, (QD.sem k))]⟩
theorem QJ.gok (k : Nat) : ∀ f, Qz Try.prog f ((QJ.ctx k).Γ f) := (Qk (QD.sem_ok k) Q0f)
def QJ.ann (k : Nat) : Ann := .nil
theorem QJ.body (k : Nat) : Q1j (QJ.ctx k) Try.f22 (Func.code Try.f22) (QJ.ann k) QJ.T QJ.os (fun x K => QJ.c k x.1 K) := by
 intro ρ x K; kernel_rfl
theorem QJ.sem_ok (k : Nat) : Qz Try.prog 22 (QJ.sem k) :=
 Q0q (C := QJ.ctx k) (QJ.gok k) Try.mix (c := Func.code Try.f22) (ann := QJ.ann k) (T := QJ.T) (os := QJ.os) (fun x K => QJ.c k x.1 K) Try.func22 (by kernel_rfl) (by kernel_rfl) Q1.nil (QJ.body k) (by kernel_rfl) (by kernel_rfl) (by kernel_rfl)
abbrev Qc.p0.σ : Type := Int × Unit
abbrev Qc.p0.τ : Type := (Int × Unit)
def Qc.p0.r (k : Nat) {ρ : Type} (x : Qc.p0.σ) (K : Qc.p0.τ → Option ρ) : Option ρ :=
 bif (decide (x.1 < (0 : Int))) then (K ((1 : Int), ())) else (none)
def Qc.p0 (k : Nat) (x : Qc.p0.σ) : Option Qc.p0.τ := Qc.p0.r k x some
def Qc.p0.T : StT := ⟨.nilp :: .dat (.int .i64) :: us 67, []⟩
def Qc.p0.os : List Out := [⟨.ret, [.mask [4], .auto 0], ⟨us 4 ++ .dat (.int .i64) :: us 64, []⟩⟩]
abbrev Qc.τ : Type := (Int × Unit)
def Qc.c (k : Nat) {ρ : Type} (n : Int) (K : Qc.τ → Option ρ) : Option ρ :=
 (QQ k ).bind fun t0 => bif (t0.1 != (0 : Int)) then (K (t0.1, ())) else ((Qc.p0 k (n, ())).bind fun t1 => K (t1.1, ()))
def Qc (k : Nat) (n : Int) : Option Qc.τ := Qc.c k n some
def Qc.T : Q1g := ⟨[.nilp, .dat (.int .i64)], [], 0⟩
def Qc.os : List Out := [⟨.ret, [.freeze (.slot 0), .auto 0], ⟨[.dat (.int .i64)], []⟩⟩]
def Qc.sem (k : Nat) : QS := Q1i Qc.T Qc.os fun x => Qc k x.1
noncomputable def Qc.ctx (k : Nat) : Ctx := ⟨Try.prog, gam [(58, (QQ.sem k))]⟩
theorem Qc.gok (k : Nat) : ∀ f, Qz Try.prog f ((Qc.ctx k).Γ f) := (Qk (QQ.sem_ok k) Q0f)
theorem Qc.p0.is (k : Nat) : Q1t (Qc.ctx k) (QV (Func.code Try.f23) [1, 1, 0]) (.nil) Qc.p0.T Qc.p0.os (Qc.p0.r k) := by
 intro ρ x K; kernel_rfl
theorem Qc.p0.ok (k : Nat) : StOK 0 Try.prog (QV (Func.code Try.f23) [1, 1, 0]) (Qf Qc.p0.T Qc.p0.os (Qc.p0 k)) :=
 Q1m (C := Qc.ctx k) (T := Qc.p0.T) (os := Qc.p0.os) (Qc.gok k) Try.mix (fun x K => Qc.p0.r k x K) Q1.nil (by kernel_rfl) (by kernel_rfl) (Qc.p0.is k)
def Qc.ann (k : Nat) : Ann := .node [] none (.nil) (.node [] none (.nil) (.node [] none (.node [] (some (Qf Qc.p0.T Qc.p0.os (Qc.p0 k))) .nil .nil) (.nil)))
theorem Qc.body (k : Nat) : Q1j (Qc.ctx k) Try.f23 (Func.code Try.f23) (Qc.ann k) Qc.T Qc.os (fun x K => Qc.c k x.1 K) := by
 intro ρ x K; kernel_rfl
theorem Qc.sem_ok (k : Nat) : Qz Try.prog 23 (Qc.sem k) :=
 Q0q (C := Qc.ctx k) (Qc.gok k) Try.mix (c := Func.code Try.f23) (ann := Qc.ann k) (T := Qc.T) (os := Qc.os) (fun x K => Qc.c k x.1 K) Try.func23 (by kernel_rfl) (by kernel_rfl) (Q1.seq Q1.nil (Q1.seq Q1.nil (Q1.seq (Q1.loop (by kernel_rfl) (Qc.p0.ok k)) Q1.nil))) (Qc.body k) (by kernel_rfl) (by kernel_rfl) (by kernel_rfl)
abbrev QL.τ : Type := ((List ByteArray) × Unit)
def QL.c (k : Nat) {ρ : Type}  (K : QL.τ → Option ρ) : Option ρ :=
 K ([], ())
def QL (k : Nat)  : Option QL.τ := QL.c k  some
def QL.T : Q1g := ⟨[.nilp], [], 0⟩
def QL.os : List Out := [⟨.ret, [.freeze (.slot 0), .auto 0], ⟨[.dat (.sl .str)], []⟩⟩]
def QL.sem (k : Nat) : QS := Q1i QL.T QL.os fun x => QL k 
noncomputable def QL.ctx (k : Nat) : Ctx := ⟨Try.prog, gam []⟩
theorem QL.gok (k : Nat) : ∀ f, Qz Try.prog f ((QL.ctx k).Γ f) := Q0f
def QL.ann (k : Nat) : Ann := .nil
theorem QL.body (k : Nat) : Q1j (QL.ctx k) Try.f24 (Func.code Try.f24) (QL.ann k) QL.T QL.os (fun x K => QL.c k  K) := by
 intro ρ x K; kernel_rfl
theorem QL.sem_ok (k : Nat) : Qz Try.prog 24 (QL.sem k) :=
 Q0q (C := QL.ctx k) (QL.gok k) Try.mix (c := Func.code Try.f24) (ann := QL.ann k) (T := QL.T) (os := QL.os) (fun x K => QL.c k  K) Try.func24 (by kernel_rfl) (by kernel_rfl) Q1.nil (QL.body k) (by kernel_rfl) (by kernel_rfl) (by kernel_rfl)
abbrev Qy.τ : Type := (Int × Unit)
def Qy.c (k : Nat) {ρ : Type}  (K : Qy.τ → Option ρ) : Option ρ :=
 K ((0 : Int), ())
def Qy (k : Nat)  : Option Qy.τ := Qy.c k  some
def Qy.T : Q1g := ⟨[.nilp], [], 0⟩
def Qy.os : List Out := [⟨.ret, [.freeze (.slot 0), .auto 0], ⟨[.dat (.int .u64)], []⟩⟩]
def Qy.sem (k : Nat) : QS := Q1i Qy.T Qy.os fun x => Qy k 
noncomputable def Qy.ctx (k : Nat) : Ctx := ⟨Try.prog, gam []⟩
theorem Qy.gok (k : Nat) : ∀ f, Qz Try.prog f ((Qy.ctx k).Γ f) := Q0f
def Qy.ann (k : Nat) : Ann := .nil
theorem Qy.body (k : Nat) : Q1j (Qy.ctx k) Try.f26 (Func.code Try.f26) (Qy.ann k) Qy.T Qy.os (fun x K => Qy.c k  K) := by
 intro ρ x K; kernel_rfl
theorem Qy.sem_ok (k : Nat) : Qz Try.prog 26 (Qy.sem k) :=
 Q0q (C := Qy.ctx k) (Qy.gok k) Try.mix (c := Func.code Try.f26) (ann := Qy.ann k) (T := Qy.T) (os := Qy.os) (fun x K => Qy.c k  K) Try.func26 (by kernel_rfl) (by kernel_rfl) Q1.nil (Qy.body k) (by kernel_rfl) (by kernel_rfl) (by kernel_rfl)
abbrev QE.τ : Type := (Int × Unit)
def QE.c (k : Nat) {ρ : Type}  (K : QE.τ → Option ρ) : Option ρ :=
 K ((0 : Int), ())
def QE (k : Nat)  : Option QE.τ := QE.c k  some
def QE.T : Q1g := ⟨[.nilp], [], 0⟩
def QE.os : List Out := [⟨.ret, [.freeze (.slot 0), .auto 0], ⟨[.dat (.int .i64)], []⟩⟩]
def QE.sem (k : Nat) : QS := Q1i QE.T QE.os fun x => QE k 
noncomputable def QE.ctx (k : Nat) : Ctx := ⟨Try.prog, gam []⟩
theorem QE.gok (k : Nat) : ∀ f, Qz Try.prog f ((QE.ctx k).Γ f) := Q0f
def QE.ann (k : Nat) : Ann := .nil
theorem QE.body (k : Nat) : Q1j (QE.ctx k) Try.f27 (Func.code Try.f27) (QE.ann k) QE.T QE.os (fun x K => QE.c k  K) := by
 intro ρ x K; kernel_rfl
theorem QE.sem_ok (k : Nat) : Qz Try.prog 27 (QE.sem k) :=
 Q0q (C := QE.ctx k) (QE.gok k) Try.mix (c := Func.code Try.f27) (ann := QE.ann k) (T := QE.T) (os := QE.os) (fun x K => QE.c k  K) Try.func27 (by kernel_rfl) (by kernel_rfl) Q1.nil (QE.body k) (by kernel_rfl) (by kernel_rfl) (by kernel_rfl)
abbrev Qq.τ : Type := (Int × Unit)
def Qq.c (k : Nat) {ρ : Type}  (K : Qq.τ → Option ρ) : Option ρ :=
 K ((0 : Int), ())
def Qq (k : Nat)  : Option Qq.τ := Qq.c k  some
def Qq.T : Q1g := ⟨[.nilp], [], 0⟩
def Qq.os : List Out := [⟨.ret, [.freeze (.slot 0), .auto 0], ⟨[.dat (.int .i64)], []⟩⟩]
def Qq.sem (k : Nat) : QS := Q1i Qq.T Qq.os fun x => Qq k 
noncomputable def Qq.ctx (k : Nat) : Ctx := ⟨Try.prog, gam []⟩
theorem Qq.gok (k : Nat) : ∀ f, Qz Try.prog f ((Qq.ctx k).Γ f) := Q0f
def Qq.ann (k : Nat) : Ann := .nil
theorem Qq.body (k : Nat) : Q1j (Qq.ctx k) Try.f28 (Func.code Try.f28) (Qq.ann k) Qq.T Qq.os (fun x K => Qq.c k  K) := by
 intro ρ x K; kernel_rfl
theorem Qq.sem_ok (k : Nat) : Qz Try.prog 28 (Qq.sem k) :=
 Q0q (C := Qq.ctx k) (Qq.gok k) Try.mix (c := Func.code Try.f28) (ann := Qq.ann k) (T := Qq.T) (os := Qq.os) (fun x K => Qq.c k  K) Try.func28 (by kernel_rfl) (by kernel_rfl) Q1.nil (Qq.body k) (by kernel_rfl) (by kernel_rfl) (by kernel_rfl)
def Qq.rsem (k : Nat) : QS := QaQ Qq.T Qq.os fun x => Qq k 
theorem Qq.rsem_ok (k : Nat) : Qz Try.prog 28 (Qq.rsem k) :=
 Qdh (Qq.sem_ok k) (by kernel_rfl) (by
  intro x y h
  try dsimp only at h
  simp only [Qq, Qq.c, Bool.cond_eq_ite] at h
  repeat' split at h
  all_goals first | (cases h; done) | (cases h; rfl))
abbrev QY.τ : Type := (Bool × QfW × Qg0 × Qg4 × Qg4 × (List Int) × Unit)
def QY.c (k : Nat) {ρ : Type} (b0 : QfW) (b1 : Qg0) (b2 : Qg4) (b3 : Qg4) (b4 : (List Int)) (K : QY.τ → Option ρ) : Option ρ :=
 K (b0.2.2.2.2.2.2.1, (((), (b0.2.1, (b0.2.2.1, ((), ((), (b0.2.2.2.2.2.1, (b0.2.2.2.2.2.2.1, ()))))))), (((), ((), ((), (b1.2.2.2.1, ((), (b1.2.2.2.2.2.1, ())))))), (b2, (b3, (b4, ()))))))
def QY (k : Nat) (b0 : QfW) (b1 : Qg0) (b2 : Qg4) (b3 : Qg4) (b4 : (List Int)) : Option QY.τ := QY.c k b0 b1 b2 b3 b4 some
def QY.T : Q1g := ⟨[.ptr 0 []], [.pair (.ptr 1 []) (.pair (.dat .str) (.pair (.dat (.int .u64)) (.pair (.nils) (.pair (.vsl 4) (.dat Qg2))))), .pair (.mp 2) (.pair (.mp 3) (.pair (.nils) (.pair (.dat (.int .i64)) (.pair (.nils) (.dat Qg5))))), .mpd .str .str, .mpd .str .str, .vec (.int .i64)], 4⟩
def QY.os : List Out := [⟨.ret, [.freeze (.slot 0), .auto 4], ⟨[.dat .bool], [.pair (.ptr 1 []) (.pair (.dat .str) (.pair (.dat (.int .u64)) (.pair (.nils) (.pair (.vsl 4) (.dat Qg2))))), .pair (.mp 2) (.pair (.mp 3) (.pair (.nils) (.pair (.dat (.int .i64)) (.pair (.nils) (.dat Qg5))))), .mpd .str .str, .mpd .str .str, .vec (.int .i64)]⟩⟩]
def QY.sem (k : Nat) : QS := Q1i QY.T QY.os fun x => QY k x.1 x.2.1 x.2.2.1 x.2.2.2.1 x.2.2.2.2.1
noncomputable def QY.ctx (k : Nat) : Ctx := ⟨Try.prog, gam []⟩
theorem QY.gok (k : Nat) : ∀ f, Qz Try.prog f ((QY.ctx k).Γ f) := Q0f
def QY.ann (k : Nat) : Ann := .nil
theorem QY.body (k : Nat) : Q1j (QY.ctx k) Try.f21 (Func.code Try.f21) (QY.ann k) QY.T QY.os (fun x K => QY.c k x.1 x.2.1 x.2.2.1 x.2.2.2.1 x.2.2.2.2.1 K) := by
 intro ρ x K; kernel_rfl
theorem QY.sem_ok (k : Nat) : Qz Try.prog 21 (QY.sem k) :=
 Q0q (C := QY.ctx k) (QY.gok k) Try.mix (c := Func.code Try.f21) (ann := QY.ann k) (T := QY.T) (os := QY.os) (fun x K => QY.c k x.1 x.2.1 x.2.2.1 x.2.2.2.1 x.2.2.2.2.1 K) Try.func21 (by kernel_rfl) (by kernel_rfl) Q1.nil (QY.body k) (by kernel_rfl) (by kernel_rfl) (by kernel_rfl)
abbrev Q09.τ : Type := QfH 
def Q09.c (k : Nat) {ρ : Type} (b0 : QfW) (b1 : Qg0) (b2 : Qg4) (b3 : Qg4) (b4 : (List Int)) (K : Q09.τ → Option ρ) : Option ρ :=
 (QY k ((), (b0.2.1, (b0.2.2.1, ((), ((), (b0.2.2.2.2.2.1, (b0.2.2.2.2.2.2.1, ()))))))) ((), ((), ((), (b1.2.2.2.1, ((), (b1.2.2.2.2.2.1, ())))))) b2 b3 b4).bind fun t0 => bif t0.1 then (K ((7 : Int), (((), (t0.2.1.2.1, (t0.2.1.2.2.1, ((), ((), (t0.2.1.2.2.2.2.2.1, (t0.2.1.2.2.2.2.2.2.1, ()))))))), (((), ((), ((), (t0.2.2.1.2.2.2.1, ((), (t0.2.2.1.2.2.2.2.2.1, ())))))), (t0.2.2.2.1, (t0.2.2.2.2.1, (t0.2.2.2.2.2.1, ()))))))) else (K ((0 : Int), (((), (t0.2.1.2.1, (t0.2.1.2.2.1, ((), ((), (t0.2.1.2.2.2.2.2.1, (t0.2.1.2.2.2.2.2.2.1, ()))))))), (((), ((), ((), (t0.2.2.1.2.2.2.1, ((), (t0.2.2.1.2.2.2.2.2.1, ())))))), (t0.2.2.2.1, (t0.2.2.2.2.1, (t0.2.2.2.2.2.1, ())))))))
def Q09 (k : Nat) (b0 : QfW) (b1 : Qg0) (b2 : Qg4) (b3 : Qg4) (b4 : (List Int)) : Option Q09.τ := Q09.c k b0 b1 b2 b3 b4 some
def Q09.T : Q1g := ⟨[.ptr 0 []], [.pair (.ptr 1 []) (.pair (.dat .str) (.pair (.dat (.int .u64)) (.pair (.nils) (.pair (.vsl 4) (.dat Qg2))))), .pair (.mp 2) (.pair (.mp 3) (.pair (.nils) (.pair (.dat (.int .i64)) (.pair (.nils) (.dat Qg5))))), .mpd .str .str, .mpd .str .str, .vec (.int .i64)], 4⟩
def Q09.os : List Out := [⟨.ret, [.freeze (.slot 0), .auto 4], ⟨[.dat (.int .i64)], [.pair (.ptr 1 []) (.pair (.dat .str) (.pair (.dat (.int .u64)) (.pair (.nils) (.pair (.vsl 4) (.dat Qg2))))), .pair (.mp 2) (.pair (.mp 3) (.pair (.nils) (.pair (.dat (.int .i64)) (.pair (.nils) (.dat Qg5))))), .mpd .str .str, .mpd .str .str, .vec (.int .i64)]⟩⟩]
def Q09.sem (k : Nat) : QS := Q1i Q09.T Q09.os fun x => Q09 k x.1 x.2.1 x.2.2.1 x.2.2.2.1 x.2.2.2.2.1
noncomputable def Q09.ctx (k : Nat) : Ctx := ⟨Try.prog, gam [(21, (QY.sem k))]⟩
theorem Q09.gok (k : Nat) : ∀ f, Qz Try.prog f ((Q09.ctx k).Γ f) := (Qk (QY.sem_ok k) Q0f)
def Q09.ann (k : Nat) : Ann := .nil
theorem Q09.body (k : Nat) : Q1j (Q09.ctx k) Try.f58 (Func.code Try.f58) (Q09.ann k) Q09.T Q09.os (fun x K => Q09.c k x.1 x.2.1 x.2.2.1 x.2.2.2.1 x.2.2.2.2.1 K) := by
 intro ρ x K; kernel_rfl
theorem Q09.sem_ok (k : Nat) : Qz Try.prog 58 (Q09.sem k) :=
 Q0q (C := Q09.ctx k) (Q09.gok k) Try.mix (c := Func.code Try.f58) (ann := Q09.ann k) (T := Q09.T) (os := Q09.os) (fun x K => Q09.c k x.1 x.2.1 x.2.2.1 x.2.2.2.1 x.2.2.2.2.1 K) Try.func58 (by kernel_rfl) (by kernel_rfl) Q1.nil (Q09.body k) (by kernel_rfl) (by kernel_rfl) (by kernel_rfl)
abbrev Q0F.τ : Type := QfT ⊕ QfL 
def Q0F.c (k : Nat) {ρ : Type} (name : ByteArray) (s : ByteArray) (b0 : Qg0) (b1 : Qg4) (b2 : Qg4) (K : Q0F.τ → Option ρ) : Option ρ :=
  (Q0G k (List.set (List.replicate 1 ByteArray.empty) 0 name) ((), ((), ((), (b0.2.2.2.1, ((), (b0.2.2.2.2.2.1, ())))))) b1 b2).bind fun t0 => bif (t0.1 != (0 : Int)) then (K (.inl (t0.1, (((), ((), ((), (t0.2.1.2.2.2.1, ((), (t0.2.1.2.2.2.2.2.1, ())))))), (t0.2.2.1, (t0.2.2.2.1, ())))))) else (let v1 : ByteArray := (Option.getD (mget Ty.str name t0.2.2.2.1) ByteArray.empty)
  (Q0a k name (((ByteArray.size v1) : Nat) : Int) s ((), ((), ((), (t0.2.1.2.2.2.1, ((), (t0.2.1.2.2.2.2.2.1, ())))))) t0.2.2.1 t0.2.2.2.1).bind fun t2 => (match t2 with
 | .inl t3 => (K (.inl (t3.1, (((), ((), ((), (t3.2.1.2.2.2.1, ((), (t3.2.1.2.2.2.2.2.1, ())))))), (t3.2.2.1, (t3.2.2.2.1, ()))))))
 | .inr (t4) => (K (.inr (t4.1, (((), ((), ((), (t4.2.1.2.2.2.1, ((), (t4.2.1.2.2.2.2.2.1, ())))))), (t4.2.2.1, (t4.2.2.2.1, (t4.2.2.2.2.1, ())))))))))
def Q0F (k : Nat) (name : ByteArray) (s : ByteArray) (b0 : Qg0) (b1 : Qg4) (b2 : Qg4) : Option Q0F.τ := Q0F.c k name s b0 b1 b2 some
def Q0F.T : Q1g := ⟨[.ptr 0 [], .dat .str, .dat .str], [.pair (.mp 1) (.pair (.mp 2) (.pair (.nils) (.pair (.dat (.int .i64)) (.pair (.nils) (.dat Qg5))))), .mpd .str .str, .mpd .str .str], 3⟩
def Q0F.os : List Out := [⟨.ret, [.freeze (.slot 0), .auto 3], ⟨[.dat (.int .i64)], [.pair (.mp 1) (.pair (.mp 2) (.pair (.nils) (.pair (.dat (.int .i64)) (.pair (.nils) (.dat Qg5))))), .mpd .str .str, .mpd .str .str]⟩⟩, ⟨.ret, [.freeze (.slot 0), .auto 3], ⟨[.dat (.int .i64)], [.pair (.mp 1) (.pair (.mp 2) (.pair (.vsl 3) (.pair (.dat (.int .i64)) (.pair (.nils) (.dat Qg5))))), .mpd .str .str, .mpd .str .str, .vec QfV]⟩⟩]
def Q0F.sem (k : Nat) : QS := Q1i Q0F.T Q0F.os fun x => Q0F k x.1 x.2.1 x.2.2.1 x.2.2.2.1 x.2.2.2.2.1
noncomputable def Q0F.ctx (k : Nat) : Ctx := ⟨Try.prog, gam [(79, (Q0G.sem k)), (72, (Q0a.sem k))]⟩
theorem Q0F.gok (k : Nat) : ∀ f, Qz Try.prog f ((Q0F.ctx k).Γ f) := (Qk (Q0G.sem_ok k) (Qk (Q0a.sem_ok k) Q0f))
def Q0F.ann (k : Nat) : Ann := .nil
theorem Q0F.body (k : Nat) : Q1j (Q0F.ctx k) Try.f60 (Func.code Try.f60) (Q0F.ann k) Q0F.T Q0F.os (fun x K => Q0F.c k x.1 x.2.1 x.2.2.1 x.2.2.2.1 x.2.2.2.2.1 K) := by
 intro ρ x K; kernel_rfl
theorem Q0F.sem_ok (k : Nat) : Qz Try.prog 60 (Q0F.sem k) :=
 Q0q (C := Q0F.ctx k) (Q0F.gok k) Try.mix (c := Func.code Try.f60) (ann := Q0F.ann k) (T := Q0F.T) (os := Q0F.os) (fun x K => Q0F.c k x.1 x.2.1 x.2.2.1 x.2.2.2.1 x.2.2.2.2.1 K) Try.func60 (by kernel_rfl) (by kernel_rfl) Q1.nil (Q0F.body k) (by kernel_rfl) (by kernel_rfl) (by kernel_rfl)
abbrev Q06.τ : Type := QfH 
def Q06.c (k : Nat) {ρ : Type} (e : Int) (b0 : QfW) (b1 : Qg0) (b2 : Qg4) (b3 : Qg4) (b4 : (List Int)) (K : Q06.τ → Option ρ) : Option ρ :=
 bif (e == (7 : Int)) then (K (e, (((), (b0.2.1, (b0.2.2.1, ((), ((), (b0.2.2.2.2.2.1, (true, ()))))))), (((), ((), ((), (b1.2.2.2.1, ((), (b1.2.2.2.2.2.1, ())))))), (b2, (b3, (b4, ()))))))) else (K (e, (((), (b0.2.1, (b0.2.2.1, ((), ((), (b0.2.2.2.2.2.1, (b0.2.2.2.2.2.2.1, ()))))))), (((), ((), ((), (b1.2.2.2.1, ((), (b1.2.2.2.2.2.1, ())))))), (b2, (b3, (b4, ())))))))
def Q06 (k : Nat) (e : Int) (b0 : QfW) (b1 : Qg0) (b2 : Qg4) (b3 : Qg4) (b4 : (List Int)) : Option Q06.τ := Q06.c k e b0 b1 b2 b3 b4 some
def Q06.T : Q1g := ⟨[.ptr 0 [], .dat (.int .i64)], [.pair (.ptr 1 []) (.pair (.dat .str) (.pair (.dat (.int .u64)) (.pair (.nils) (.pair (.vsl 4) (.dat Qg2))))), .pair (.mp 2) (.pair (.mp 3) (.pair (.nils) (.pair (.dat (.int .i64)) (.pair (.nils) (.dat Qg5))))), .mpd .str .str, .mpd .str .str, .vec (.int .i64)], 4⟩
def Q06.os : List Out := [⟨.ret, [.freeze (.slot 0), .auto 4], ⟨[.dat (.int .i64)], [.pair (.ptr 1 []) (.pair (.dat .str) (.pair (.dat (.int .u64)) (.pair (.nils) (.pair (.vsl 4) (.dat Qg2))))), .pair (.mp 2) (.pair (.mp 3) (.pair (.nils) (.pair (.dat (.int .i64)) (.pair (.nils) (.dat Qg5))))), .mpd .str .str, .mpd .str .str, .vec (.int .i64)]⟩⟩]
def Q06.sem (k : Nat) : QS := Q1i Q06.T Q06.os fun x => Q06 k x.1 x.2.1 x.2.2.1 x.2.2.2.1 x.2.2.2.2.1 x.2.2.2.2.2.1
noncomputable def Q06.ctx (k : Nat) : Ctx := ⟨Try.prog, gam []⟩
theorem Q06.gok (k : Nat) : ∀ f, Qz Try.prog f ((Q06.ctx k).Γ f) := Q0f
def Q06.ann (k : Nat) : Ann := .nil
theorem Q06.body (k : Nat) : Q1j (Q06.ctx k) Try.f59 (Func.code Try.f59) (Q06.ann k) Q06.T Q06.os (fun x K => Q06.c k x.1 x.2.1 x.2.2.1 x.2.2.2.1 x.2.2.2.2.1 x.2.2.2.2.2.1 K) := by
 intro ρ x K; kernel_rfl
theorem Q06.sem_ok (k : Nat) : Qz Try.prog 59 (Q06.sem k) :=
 Q0q (C := Q06.ctx k) (Q06.gok k) Try.mix (c := Func.code Try.f59) (ann := Q06.ann k) (T := Q06.T) (os := Q06.os) (fun x K => Q06.c k x.1 x.2.1 x.2.2.1 x.2.2.2.1 x.2.2.2.2.1 x.2.2.2.2.2.1 K) Try.func59 (by kernel_rfl) (by kernel_rfl) Q1.nil (Q06.body k) (by kernel_rfl) (by kernel_rfl) (by kernel_rfl)
abbrev QU.τ : Type := QfH 
def QU.c (k : Nat) {ρ : Type} (b0 : QfW) (b1 : Qg0) (b2 : Qg4) (b3 : Qg4) (b4 : (List Int)) (K : QU.τ → Option ρ) : Option ρ :=
 let v0 : Int := (((List.length b4) : Nat) : Int)
 bif (v0 == (0 : Int)) then (K ((20 : Int), (((), (b0.2.1, (b0.2.2.1, ((), ((), (b0.2.2.2.2.2.1, (b0.2.2.2.2.2.2.1, ()))))))), (((), ((), ((), (b1.2.2.2.1, ((), (b1.2.2.2.2.2.1, ())))))), (b2, (b3, (b4, ()))))))) else (let v1 : Int := (((List.length b4) : Nat) : Int)
 let v2 : Int := (IntKind.wrap IntKind.i64 (v1 - (1 : Int)))
 bif (decide (((0 : Int) ≤ v2) ∧ (v2 < (((List.length b4) : Nat) : Int)))) then (let v3 : Int := (List.getD b4 (Int.toNat v2) (0 : Int))
 K (v3, (((), (b0.2.1, (b0.2.2.1, ((), ((), (b0.2.2.2.2.2.1, (b0.2.2.2.2.2.2.1, ()))))))), (((), ((), ((), (b1.2.2.2.1, ((), (b1.2.2.2.2.2.1, ())))))), (b2, (b3, (b4, ()))))))) else (none))
def QU (k : Nat) (b0 : QfW) (b1 : Qg0) (b2 : Qg4) (b3 : Qg4) (b4 : (List Int)) : Option QU.τ := QU.c k b0 b1 b2 b3 b4 some
def QU.T : Q1g := ⟨[.ptr 0 []], [.pair (.ptr 1 []) (.pair (.dat .str) (.pair (.dat (.int .u64)) (.pair (.nils) (.pair (.vsl 4) (.dat Qg2))))), .pair (.mp 2) (.pair (.mp 3) (.pair (.nils) (.pair (.dat (.int .i64)) (.pair (.nils) (.dat Qg5))))), .mpd .str .str, .mpd .str .str, .vec (.int .i64)], 5⟩
def QU.os : List Out := [⟨.ret, [.freeze (.slot 0), .auto 5], ⟨[.dat (.int .i64)], [.pair (.ptr 1 []) (.pair (.dat .str) (.pair (.dat (.int .u64)) (.pair (.nils) (.pair (.vsl 4) (.dat Qg2))))), .pair (.mp 2) (.pair (.mp 3) (.pair (.nils) (.pair (.dat (.int .i64)) (.pair (.nils) (.dat Qg5))))), .mpd .str .str, .mpd .str .str, .vec (.int .i64)]⟩⟩]
def QU.sem (k : Nat) : QS := Q1i QU.T QU.os fun x => QU k x.1 x.2.1 x.2.2.1 x.2.2.2.1 x.2.2.2.2.1
noncomputable def QU.ctx (k : Nat) : Ctx := ⟨Try.prog, gam []⟩
theorem QU.gok (k : Nat) : ∀ f, Qz Try.prog f ((QU.ctx k).Γ f) := Q0f
def QU.ann (k : Nat) : Ann := .nil
theorem QU.body (k : Nat) : Q1j (QU.ctx k) Try.f28 (Func.code Try.f28) (QU.ann k) QU.T QU.os (fun x K => QU.c k x.1 x.2.1 x.2.2.1 x.2.2.2.1 x.2.2.2.2.1 K) := by
 intro ρ x K; kernel_rfl
theorem QU.sem_ok (k : Nat) : Qz Try.prog 28 (QU.sem k) :=
 Q0q (C := QU.ctx k) (QU.gok k) Try.mix (c := Func.code Try.f28) (ann := QU.ann k) (T := QU.T) (os := QU.os) (fun x K => QU.c k x.1 x.2.1 x.2.2.1 x.2.2.2.1 x.2.2.2.2.1 K) Try.func28 (by kernel_rfl) (by kernel_rfl) Q1.nil (QU.body k) (by kernel_rfl) (by kernel_rfl) (by kernel_rfl)
def QU.rsem (k : Nat) : QS := QaQ QU.T QU.os fun x => QU k x.1 x.2.1 x.2.2.1 x.2.2.2.1 x.2.2.2.2.1
theorem QU.rsem_ok (k : Nat) : Qz Try.prog 28 (QU.rsem k) :=
 Qdh (QU.sem_ok k) (by kernel_rfl) (by
  intro x y h
  try dsimp only at h
  simp only [QU, QU.c, Bool.cond_eq_ite] at h
  repeat' split at h
  all_goals first | (cases h; done) | (cases h; rfl))
abbrev QP.τ : Type := QfF 
def QP.c (k : Nat) {ρ : Type} (e : Int) (b0 : QfW) (b1 : Qg0) (b2 : Qg4) (b3 : Qg4) (b4 : QfX) (b5 : (List Int)) (K : QP.τ → Option ρ) : Option ρ :=
 bif (e == (7 : Int)) then (K (e, (((), (b0.2.1, (b0.2.2.1, ((), ((), (b0.2.2.2.2.2.1, (true, ()))))))), (((), ((), ((), (b1.2.2.2.1, ((), (b1.2.2.2.2.2.1, ())))))), (b2, (b3, (b5, (b4, ())))))))) else (K (e, (((), (b0.2.1, (b0.2.2.1, ((), ((), (b0.2.2.2.2.2.1, (b0.2.2.2.2.2.2.1, ()))))))), (((), ((), ((), (b1.2.2.2.1, ((), (b1.2.2.2.2.2.1, ())))))), (b2, (b3, (b5, (b4, ()))))))))
def QP (k : Nat) (e : Int) (b0 : QfW) (b1 : Qg0) (b2 : Qg4) (b3 : Qg4) (b4 : QfX) (b5 : (List Int)) : Option QP.τ := QP.c k e b0 b1 b2 b3 b4 b5 some
def QP.T : Q1g := ⟨[.ptr 0 [], .dat (.int .i64)], [.pair (.ptr 1 []) (.pair (.dat .str) (.pair (.dat (.int .u64)) (.pair (.nils) (.pair (.vsl 5) (.dat Qg2))))), .pair (.mp 2) (.pair (.mp 3) (.pair (.vsl 4) (.pair (.dat (.int .i64)) (.pair (.nils) (.dat Qg5))))), .mpd .str .str, .mpd .str .str, .vec QfV, .vec (.int .i64)], 4⟩
def QP.os : List Out := [⟨.ret, [.freeze (.slot 0), .auto 4], ⟨[.dat (.int .i64)], .pair (.ptr 1 []) (.pair (.dat .str) (.pair (.dat (.int .u64)) (.pair (.nils) (.pair (.vsl 4) (.dat Qg2))))) :: .pair (.mp 2) (.pair (.mp 3) (.pair (.vsl 5) (.pair (.dat (.int .i64)) (.pair (.nils) (.dat Qg5))))) :: .mpd .str .str :: .mpd .str .str :: .vec (.int .i64) :: .vec QfV :: []⟩⟩]
def QP.sem (k : Nat) : QS := Q1i QP.T QP.os fun x => QP k x.1 x.2.1 x.2.2.1 x.2.2.2.1 x.2.2.2.2.1 x.2.2.2.2.2.1 x.2.2.2.2.2.2.1
noncomputable def QP.ctx (k : Nat) : Ctx := ⟨Try.prog, gam []⟩
theorem QP.gok (k : Nat) : ∀ f, Qz Try.prog f ((QP.ctx k).Γ f) := Q0f
def QP.ann (k : Nat) : Ann := .nil
theorem QP.body (k : Nat) : Q1j (QP.ctx k) Try.f59 (Func.code Try.f59) (QP.ann k) QP.T QP.os (fun x K => QP.c k x.1 x.2.1 x.2.2.1 x.2.2.2.1 x.2.2.2.2.1 x.2.2.2.2.2.1 x.2.2.2.2.2.2.1 K) := by
 intro ρ x K; kernel_rfl
theorem QP.sem_ok (k : Nat) : Qz Try.prog 59 (QP.sem k) :=
 Q0q (C := QP.ctx k) (QP.gok k) Try.mix (c := Func.code Try.f59) (ann := QP.ann k) (T := QP.T) (os := QP.os) (fun x K => QP.c k x.1 x.2.1 x.2.2.1 x.2.2.2.1 x.2.2.2.2.1 x.2.2.2.2.2.1 x.2.2.2.2.2.2.1 K) Try.func59 (by kernel_rfl) (by kernel_rfl) Q1.nil (QP.body k) (by kernel_rfl) (by kernel_rfl) (by kernel_rfl)
abbrev QA.τ : Type := (Int × QfW × Qg0 × Qg4 × Qg4 × QfX × (List Int) × Unit)
def QA.c (k : Nat) {ρ : Type} (b0 : QfW) (b1 : Qg0) (b2 : Qg4) (b3 : Qg4) (b4 : QfX) (b5 : (List Int)) (K : QA.τ → Option ρ) : Option ρ :=
 let v0 : Int := (((List.length b5) : Nat) : Int)
 bif (v0 == (0 : Int)) then (K ((20 : Int), (((), (b0.2.1, (b0.2.2.1, ((), ((), (b0.2.2.2.2.2.1, (b0.2.2.2.2.2.2.1, ()))))))), (((), ((), ((), (b1.2.2.2.1, ((), (b1.2.2.2.2.2.1, ())))))), (b2, (b3, (b4, (b5, ())))))))) else (let v1 : Int := (((List.length b5) : Nat) : Int)
 let v2 : Int := (IntKind.wrap IntKind.i64 (v1 - (1 : Int)))
 bif (decide (((0 : Int) ≤ v2) ∧ (v2 < (((List.length b5) : Nat) : Int)))) then (let v3 : Int := (List.getD b5 (Int.toNat v2) (0 : Int))
 K (v3, (((), (b0.2.1, (b0.2.2.1, ((), ((), (b0.2.2.2.2.2.1, (b0.2.2.2.2.2.2.1, ()))))))), (((), ((), ((), (b1.2.2.2.1, ((), (b1.2.2.2.2.2.1, ())))))), (b2, (b3, (b4, (b5, ())))))))) else (none))
def QA (k : Nat) (b0 : QfW) (b1 : Qg0) (b2 : Qg4) (b3 : Qg4) (b4 : QfX) (b5 : (List Int)) : Option QA.τ := QA.c k b0 b1 b2 b3 b4 b5 some
def QA.T : Q1g := ⟨[.ptr 0 []], [.pair (.ptr 1 []) (.pair (.dat .str) (.pair (.dat (.int .u64)) (.pair (.nils) (.pair (.vsl 5) (.dat Qg2))))), .pair (.mp 2) (.pair (.mp 3) (.pair (.vsl 4) (.pair (.dat (.int .i64)) (.pair (.nils) (.dat Qg5))))), .mpd .str .str, .mpd .str .str, .vec QfV, .vec (.int .i64)], 6⟩
def QA.os : List Out := [⟨.ret, [.freeze (.slot 0), .auto 6], ⟨[.dat (.int .i64)], .pair (.ptr 1 []) (.pair (.dat .str) (.pair (.dat (.int .u64)) (.pair (.nils) (.pair (.vsl 5) (.dat Qg2))))) :: .pair (.mp 2) (.pair (.mp 3) (.pair (.vsl 4) (.pair (.dat (.int .i64)) (.pair (.nils) (.dat Qg5))))) :: .mpd .str .str :: .mpd .str .str :: .vec QfV :: .vec (.int .i64) :: []⟩⟩]
def QA.sem (k : Nat) : QS := Q1i QA.T QA.os fun x => QA k x.1 x.2.1 x.2.2.1 x.2.2.2.1 x.2.2.2.2.1 x.2.2.2.2.2.1
noncomputable def QA.ctx (k : Nat) : Ctx := ⟨Try.prog, gam []⟩
theorem QA.gok (k : Nat) : ∀ f, Qz Try.prog f ((QA.ctx k).Γ f) := Q0f
def QA.ann (k : Nat) : Ann := .nil
theorem QA.body (k : Nat) : Q1j (QA.ctx k) Try.f28 (Func.code Try.f28) (QA.ann k) QA.T QA.os (fun x K => QA.c k x.1 x.2.1 x.2.2.1 x.2.2.2.1 x.2.2.2.2.1 x.2.2.2.2.2.1 K) := by
 intro ρ x K; kernel_rfl
theorem QA.sem_ok (k : Nat) : Qz Try.prog 28 (QA.sem k) :=
 Q0q (C := QA.ctx k) (QA.gok k) Try.mix (c := Func.code Try.f28) (ann := QA.ann k) (T := QA.T) (os := QA.os) (fun x K => QA.c k x.1 x.2.1 x.2.2.1 x.2.2.2.1 x.2.2.2.2.1 x.2.2.2.2.2.1 K) Try.func28 (by kernel_rfl) (by kernel_rfl) Q1.nil (QA.body k) (by kernel_rfl) (by kernel_rfl) (by kernel_rfl)
def QA.rsem (k : Nat) : QS := QaQ QA.T QA.os fun x => QA k x.1 x.2.1 x.2.2.1 x.2.2.2.1 x.2.2.2.2.1 x.2.2.2.2.2.1
theorem QA.rsem_ok (k : Nat) : Qz Try.prog 28 (QA.rsem k) :=
 Qdh (QA.sem_ok k) (by kernel_rfl) (by
  intro x y h
  try dsimp only at h
  simp only [QA, QA.c, Bool.cond_eq_ite] at h
  repeat' split at h
  all_goals first | (cases h; done) | (cases h; rfl))
abbrev Q0d.τ : Type := QfH ⊕ QfG ⊕ QfF ⊕ (Int × QfW × Qg0 × Qg4 × Qg4 × (List ByteArray) × (List Int) × QfX × Unit)
def Q0d.c (k : Nat) {ρ : Type} (s : ByteArray) (b0 : QfW) (b1 : Qg0) (b2 : Qg4) (b3 : Qg4) (b4 : (List Int)) (K : Q0d.τ → Option ρ) : Option ρ :=
  (Q09 k ((), (b0.2.1, (b0.2.2.1, ((), ((), (b0.2.2.2.2.2.1, (b0.2.2.2.2.2.2.1, ()))))))) ((), ((), ((), (b1.2.2.2.1, ((), (b1.2.2.2.2.2.1, ())))))) b2 b3 b4).bind fun t0 => bif (t0.1 != (0 : Int)) then (K (.inl (t0.1, (((), (t0.2.1.2.1, (t0.2.1.2.2.1, ((), ((), (t0.2.1.2.2.2.2.2.1, (t0.2.1.2.2.2.2.2.2.1, ()))))))), (((), ((), ((), (t0.2.2.1.2.2.2.1, ((), (t0.2.2.1.2.2.2.2.2.1, ())))))), (t0.2.2.2.1, (t0.2.2.2.2.1, (t0.2.2.2.2.2.1, ())))))))) else (let v1 : Int := t0.2.1.2.2.1
  (Q05 k v1 (IntKind.wrap IntKind.u64 (0 : Int)) s).bind fun t2 => let v3 : ByteArray := t2.1
  let v4 : Int := t2.2.1
  bif (v4 != (0 : Int)) then (K (.inl (v4, (((), (t0.2.1.2.1, (t0.2.1.2.2.1, ((), ((), (t0.2.1.2.2.2.2.2.1, (t0.2.1.2.2.2.2.2.2.1, ()))))))), (((), ((), ((), (t0.2.2.1.2.2.2.1, ((), (t0.2.2.1.2.2.2.2.2.1, ())))))), (t0.2.2.2.1, (t0.2.2.2.2.1, (t0.2.2.2.2.2.1, ())))))))) else (let v5 : ByteArray := t0.2.1.2.1
  (Q0F k v5 v3 ((), ((), ((), (t0.2.2.1.2.2.2.1, ((), (t0.2.2.1.2.2.2.2.2.1, ())))))) t0.2.2.2.1 t0.2.2.2.2.1).bind fun t6 => (match t6 with
 | .inl t7 => ((Q06 k t7.1 ((), (t0.2.1.2.1, (t0.2.1.2.2.1, ((), ((), (t0.2.1.2.2.2.2.2.1, (t0.2.1.2.2.2.2.2.2.1, ()))))))) ((), ((), ((), (t7.2.1.2.2.2.1, ((), (t7.2.1.2.2.2.2.2.1, ())))))) t7.2.2.1 t7.2.2.2.1 t0.2.2.2.2.2.1).bind fun t8 => bif (t8.1 != (0 : Int)) then (K (.inl (t8.1, (((), (t8.2.1.2.1, (t8.2.1.2.2.1, ((), ((), (t8.2.1.2.2.2.2.2.1, (t8.2.1.2.2.2.2.2.2.1, ()))))))), (((), ((), ((), (t8.2.2.1.2.2.2.1, ((), (t8.2.2.1.2.2.2.2.2.1, ())))))), (t8.2.2.2.1, (t8.2.2.2.2.1, (t8.2.2.2.2.2.1, ())))))))) else (bif (Nat.ble ((List.length (List.set (List.replicate 1 ByteArray.empty) 0 s)) * 16) 140737488355328) then ((QU k ((), (t8.2.1.2.1, (t8.2.1.2.2.1, ((), ((), (t8.2.1.2.2.2.2.2.1, (t8.2.1.2.2.2.2.2.2.1, ()))))))) ((), ((), ((), (t8.2.2.1.2.2.2.1, ((), (t8.2.2.1.2.2.2.2.2.1, ())))))) t8.2.2.2.1 t8.2.2.2.2.1 t8.2.2.2.2.2.1).bind fun t9 => let v10 : Int := (IntKind.wrap IntKind.i64 (t9.1 + (((ByteArray.size v3) : Nat) : Int)))
  bif (Nat.ble (((List.length t8.2.2.2.2.2.1) + (List.length (List.set (List.replicate 1 (0 : Int)) 0 v10))) * 8) 140737488355328) then (K (.inr (.inl ((0 : Int), (((), (t8.2.1.2.1, (t8.2.1.2.2.1, ((), ((), (t8.2.1.2.2.2.2.2.1, (t8.2.1.2.2.2.2.2.2.1, ()))))))), (((), ((), ((), (t8.2.2.1.2.2.2.1, ((), (t8.2.2.1.2.2.2.2.2.1, ())))))), (t8.2.2.2.1, (t8.2.2.2.2.1, ((List.set (List.replicate 1 ByteArray.empty) 0 s), ((t8.2.2.2.2.2.1 ++ (List.set (List.replicate 1 (0 : Int)) 0 v10)), ())))))))))) else (none)) else (none)))
 | .inr (t11) => ((QP k t11.1 ((), (t0.2.1.2.1, (t0.2.1.2.2.1, ((), ((), (t0.2.1.2.2.2.2.2.1, (t0.2.1.2.2.2.2.2.2.1, ()))))))) ((), ((), ((), (t11.2.1.2.2.2.1, ((), (t11.2.1.2.2.2.2.2.1, ())))))) t11.2.2.1 t11.2.2.2.1 t11.2.2.2.2.1 t0.2.2.2.2.2.1).bind fun t12 => bif (t12.1 != (0 : Int)) then (K (.inr (.inr (.inl (t12.1, (((), (t12.2.1.2.1, (t12.2.1.2.2.1, ((), ((), (t12.2.1.2.2.2.2.2.1, (t12.2.1.2.2.2.2.2.2.1, ()))))))), (((), ((), ((), (t12.2.2.1.2.2.2.1, ((), (t12.2.2.1.2.2.2.2.2.1, ())))))), (t12.2.2.2.1, (t12.2.2.2.2.1, (t12.2.2.2.2.2.1, (t12.2.2.2.2.2.2.1, ()))))))))))) else (bif (Nat.ble ((List.length (List.set (List.replicate 1 ByteArray.empty) 0 s)) * 16) 140737488355328) then ((QA k ((), (t12.2.1.2.1, (t12.2.1.2.2.1, ((), ((), (t12.2.1.2.2.2.2.2.1, (t12.2.1.2.2.2.2.2.2.1, ()))))))) ((), ((), ((), (t12.2.2.1.2.2.2.1, ((), (t12.2.2.1.2.2.2.2.2.1, ())))))) t12.2.2.2.1 t12.2.2.2.2.1 t12.2.2.2.2.2.2.1 t12.2.2.2.2.2.1).bind fun t13 => let v14 : Int := (IntKind.wrap IntKind.i64 (t13.1 + (((ByteArray.size v3) : Nat) : Int)))
  bif (Nat.ble (((List.length t12.2.2.2.2.2.1) + (List.length (List.set (List.replicate 1 (0 : Int)) 0 v14))) * 8) 140737488355328) then (K (.inr (.inr (.inr ((0 : Int), (((), (t12.2.1.2.1, (t12.2.1.2.2.1, ((), ((), (t12.2.1.2.2.2.2.2.1, (t12.2.1.2.2.2.2.2.2.1, ()))))))), (((), ((), ((), (t12.2.2.1.2.2.2.1, ((), (t12.2.2.1.2.2.2.2.2.1, ())))))), (t12.2.2.2.1, (t12.2.2.2.2.1, ((List.set (List.replicate 1 ByteArray.empty) 0 s), ((t12.2.2.2.2.2.1 ++ (List.set (List.replicate 1 (0 : Int)) 0 v14)), (t12.2.2.2.2.2.2.1, ())))))))))))) else (none)) else (none))))))
def Q0d (k : Nat) (s : ByteArray) (b0 : QfW) (b1 : Qg0) (b2 : Qg4) (b3 : Qg4) (b4 : (List Int)) : Option Q0d.τ := Q0d.c k s b0 b1 b2 b3 b4 some
def Q0d.T : Q1g := ⟨[.ptr 0 [], .dat .str], [.pair (.ptr 1 []) (.pair (.dat .str) (.pair (.dat (.int .u64)) (.pair (.nils) (.pair (.vsl 4) (.dat Qg2))))), .pair (.mp 2) (.pair (.mp 3) (.pair (.nils) (.pair (.dat (.int .i64)) (.pair (.nils) (.dat Qg5))))), .mpd .str .str, .mpd .str .str, .vec (.int .i64)], 4⟩
def Q0d.os : List Out := [⟨.ret, [.freeze (.slot 0), .auto 4], ⟨[.dat (.int .i64)], [.pair (.ptr 1 []) (.pair (.dat .str) (.pair (.dat (.int .u64)) (.pair (.nils) (.pair (.vsl 4) (.dat Qg2))))), .pair (.mp 2) (.pair (.mp 3) (.pair (.nils) (.pair (.dat (.int .i64)) (.pair (.nils) (.dat Qg5))))), .mpd .str .str, .mpd .str .str, .vec (.int .i64)]⟩⟩, ⟨.ret, [.freeze (.slot 0), .auto 4], ⟨[.dat (.int .i64)], .pair (.ptr 1 []) (.pair (.dat .str) (.pair (.dat (.int .u64)) (.pair (.vsl 4) (.pair (.vsl 5) (.dat Qg2))))) :: .pair (.mp 2) (.pair (.mp 3) (.pair (.nils) (.pair (.dat (.int .i64)) (.pair (.nils) (.dat Qg5))))) :: .mpd .str .str :: .mpd .str .str :: .vec .str :: .vec (.int .i64) :: []⟩⟩, ⟨.ret, [.freeze (.slot 0), .auto 4], ⟨[.dat (.int .i64)], .pair (.ptr 1 []) (.pair (.dat .str) (.pair (.dat (.int .u64)) (.pair (.nils) (.pair (.vsl 4) (.dat Qg2))))) :: .pair (.mp 2) (.pair (.mp 3) (.pair (.vsl 5) (.pair (.dat (.int .i64)) (.pair (.nils) (.dat Qg5))))) :: .mpd .str .str :: .mpd .str .str :: .vec (.int .i64) :: .vec QfV :: []⟩⟩, ⟨.ret, [.freeze (.slot 0), .auto 4], ⟨[.dat (.int .i64)], .pair (.ptr 1 []) (.pair (.dat .str) (.pair (.dat (.int .u64)) (.pair (.vsl 4) (.pair (.vsl 5) (.dat Qg2))))) :: .pair (.mp 2) (.pair (.mp 3) (.pair (.vsl 6) (.pair (.dat (.int .i64)) (.pair (.nils) (.dat Qg5))))) :: .mpd .str .str :: .mpd .str .str :: .vec .str :: .vec (.int .i64) :: .vec QfV :: []⟩⟩]
def Q0d.sem (k : Nat) : QS := Q1i Q0d.T Q0d.os fun x => Q0d k x.1 x.2.1 x.2.2.1 x.2.2.2.1 x.2.2.2.2.1 x.2.2.2.2.2.1
noncomputable def Q0d.ctx (k : Nat) : Ctx := ⟨Try.prog, gam [(58, (Q09.sem k)), (7, (Q05.sem k)), (60, (Q0F.sem k)), (59, (Q25 (Q2b Q06.T) (Q06.sem k) (QP.sem k))), (28, (Q25 (Q2b QU.T) (QU.rsem k) (QA.rsem k)))]⟩
theorem Q0d.gok (k : Nat) : ∀ f, Qz Try.prog f ((Q0d.ctx k).Γ f) := (Qk (Q09.sem_ok k) (Qk (Q05.sem_ok k) (Qk (Q0F.sem_ok k) (Qk (Q1z (Q06.sem_ok k) (QP.sem_ok k)) (Qk (Q1z (QU.rsem_ok k) (QA.rsem_ok k)) Q0f)))))
def Q0d.ann (k : Nat) : Ann := .nil
theorem Q0d.body (k : Nat) : Q1j (Q0d.ctx k) Try.f18 (Func.code Try.f18) (Q0d.ann k) Q0d.T Q0d.os (fun x K => Q0d.c k x.1 x.2.1 x.2.2.1 x.2.2.2.1 x.2.2.2.2.1 x.2.2.2.2.2.1 K) := by
 intro ρ x K; kernel_rfl
theorem Q0d.sem_ok (k : Nat) : Qz Try.prog 18 (Q0d.sem k) :=
 Q0q (C := Q0d.ctx k) (Q0d.gok k) Try.mix (c := Func.code Try.f18) (ann := Q0d.ann k) (T := Q0d.T) (os := Q0d.os) (fun x K => Q0d.c k x.1 x.2.1 x.2.2.1 x.2.2.2.1 x.2.2.2.2.1 x.2.2.2.2.2.1 K) Try.func18 (by kernel_rfl) (by kernel_rfl) Q1.nil (Q0d.body k) (by kernel_rfl) (by kernel_rfl) (by kernel_rfl)
abbrev Q07.τ : Type := QfH 
def Q07.c (k : Nat) {ρ : Type} (b0 : QfW) (b1 : Qg0) (b2 : Qg4) (b3 : Qg4) (b4 : (List Int)) (K : Q07.τ → Option ρ) : Option ρ :=
 (Q09 k ((), (b0.2.1, (b0.2.2.1, ((), ((), (b0.2.2.2.2.2.1, (b0.2.2.2.2.2.2.1, ()))))))) ((), ((), ((), (b1.2.2.2.1, ((), (b1.2.2.2.2.2.1, ())))))) b2 b3 b4).bind fun t0 => bif (t0.1 != (0 : Int)) then (K (t0.1, (((), (t0.2.1.2.1, (t0.2.1.2.2.1, ((), ((), (t0.2.1.2.2.2.2.2.1, (t0.2.1.2.2.2.2.2.2.1, ()))))))), (((), ((), ((), (t0.2.2.1.2.2.2.1, ((), (t0.2.2.1.2.2.2.2.2.1, ())))))), (t0.2.2.2.1, (t0.2.2.2.2.1, (t0.2.2.2.2.2.1, ()))))))) else ((Qg k ((), ((), ((), (t0.2.2.1.2.2.2.1, ((), (t0.2.2.1.2.2.2.2.2.1, ())))))) t0.2.2.2.1 t0.2.2.2.2.1).bind fun t1 => (Q06 k t1.1 ((), (t0.2.1.2.1, (t0.2.1.2.2.1, ((), ((), (t0.2.1.2.2.2.2.2.1, (t0.2.1.2.2.2.2.2.2.1, ()))))))) ((), ((), ((), (t1.2.1.2.2.2.1, ((), (t1.2.1.2.2.2.2.2.1, ())))))) t1.2.2.1 t1.2.2.2.1 t0.2.2.2.2.2.1).bind fun t2 => K (t2.1, (((), (t2.2.1.2.1, (t2.2.1.2.2.1, ((), ((), (t2.2.1.2.2.2.2.2.1, (t2.2.1.2.2.2.2.2.2.1, ()))))))), (((), ((), ((), (t2.2.2.1.2.2.2.1, ((), (t2.2.2.1.2.2.2.2.2.1, ())))))), (t2.2.2.2.1, (t2.2.2.2.2.1, (t2.2.2.2.2.2.1, ())))))))
def Q07 (k : Nat) (b0 : QfW) (b1 : Qg0) (b2 : Qg4) (b3 : Qg4) (b4 : (List Int)) : Option Q07.τ := Q07.c k b0 b1 b2 b3 b4 some
def Q07.T : Q1g := ⟨[.ptr 0 []], [.pair (.ptr 1 []) (.pair (.dat .str) (.pair (.dat (.int .u64)) (.pair (.nils) (.pair (.vsl 4) (.dat Qg2))))), .pair (.mp 2) (.pair (.mp 3) (.pair (.nils) (.pair (.dat (.int .i64)) (.pair (.nils) (.dat Qg5))))), .mpd .str .str, .mpd .str .str, .vec (.int .i64)], 4⟩
def Q07.os : List Out := [⟨.ret, [.freeze (.slot 0), .auto 4], ⟨[.dat (.int .i64)], [.pair (.ptr 1 []) (.pair (.dat .str) (.pair (.dat (.int .u64)) (.pair (.nils) (.pair (.vsl 4) (.dat Qg2))))), .pair (.mp 2) (.pair (.mp 3) (.pair (.nils) (.pair (.dat (.int .i64)) (.pair (.nils) (.dat Qg5))))), .mpd .str .str, .mpd .str .str, .vec (.int .i64)]⟩⟩]
def Q07.sem (k : Nat) : QS := Q1i Q07.T Q07.os fun x => Q07 k x.1 x.2.1 x.2.2.1 x.2.2.2.1 x.2.2.2.2.1
noncomputable def Q07.ctx (k : Nat) : Ctx := ⟨Try.prog, gam [(58, (Q09.sem k)), (56, (Qg.sem k)), (59, (Q06.sem k))]⟩
theorem Q07.gok (k : Nat) : ∀ f, Qz Try.prog f ((Q07.ctx k).Γ f) := (Qk (Q09.sem_ok k) (Qk (Qg.sem_ok k) (Qk (Q06.sem_ok k) Q0f)))
def Q07.ann (k : Nat) : Ann := .nil
theorem Q07.body (k : Nat) : Q1j (Q07.ctx k) Try.f19 (Func.code Try.f19) (Q07.ann k) Q07.T Q07.os (fun x K => Q07.c k x.1 x.2.1 x.2.2.1 x.2.2.2.1 x.2.2.2.2.1 K) := by
 intro ρ x K; kernel_rfl
theorem Q07.sem_ok (k : Nat) : Qz Try.prog 19 (Q07.sem k) :=
 Q0q (C := Q07.ctx k) (Q07.gok k) Try.mix (c := Func.code Try.f19) (ann := Q07.ann k) (T := Q07.T) (os := Q07.os) (fun x K => Q07.c k x.1 x.2.1 x.2.2.1 x.2.2.2.1 x.2.2.2.2.1 K) Try.func19 (by kernel_rfl) (by kernel_rfl) Q1.nil (Q07.body k) (by kernel_rfl) (by kernel_rfl) (by kernel_rfl)
abbrev Q8.l0.σ : Type := (List ByteArray) × (List ByteArray) × Int × Int × QfW × Qg0 × Qg4 × Qg4 × (List Int) × Unit
abbrev Q8.l0.τ : Type := QfH ⊕ ((List ByteArray) × QfW × Qg0 × Qg4 × Qg4 × (List Int) × Unit)
def Q8.l0.r (k : Nat) {ρ : Type} (x : Q8.l0.σ) (kn : Q8.l0.σ → Option ρ) (ke : Q8.l0.τ → Option ρ) : Option ρ :=
 bif (decide (x.2.2.2.1 < x.2.2.1)) then (bif (decide (((0 : Int) ≤ x.2.2.2.1) ∧ (x.2.2.2.1 < (((List.length x.2.1) : Nat) : Int)))) then (let v1 : ByteArray := (List.getD x.2.1 (Int.toNat x.2.2.2.1) ByteArray.empty)
 bif (decide ((((ByteArray.size v1) : Nat) : Int) > (65536 : Int))) then (ke (.inl ((121 : Int), (((), (x.2.2.2.2.1.2.1, (x.2.2.2.2.1.2.2.1, ((), ((), (x.2.2.2.2.1.2.2.2.2.2.1, (x.2.2.2.2.1.2.2.2.2.2.2.1, ()))))))), (((), ((), ((), (x.2.2.2.2.2.1.2.2.2.1, ((), (x.2.2.2.2.2.1.2.2.2.2.2.1, ())))))), (x.2.2.2.2.2.2.1, (x.2.2.2.2.2.2.2.1, (x.2.2.2.2.2.2.2.2.1, ())))))))) else (let v2 : Int := (IntKind.wrap IntKind.i64 (x.2.2.2.1 + (1 : Int)))
 kn (x.1, (x.2.1, (x.2.2.1, (v2, (((), (x.2.2.2.2.1.2.1, (x.2.2.2.2.1.2.2.1, ((), ((), (x.2.2.2.2.1.2.2.2.2.2.1, (x.2.2.2.2.1.2.2.2.2.2.2.1, ()))))))), (((), ((), ((), (x.2.2.2.2.2.1.2.2.2.1, ((), (x.2.2.2.2.2.1.2.2.2.2.2.1, ())))))), (x.2.2.2.2.2.2.1, (x.2.2.2.2.2.2.2.1, (x.2.2.2.2.2.2.2.2.1, ()))))))))))) else (none)) else (ke (.inr (x.1, (((), (x.2.2.2.2.1.2.1, (x.2.2.2.2.1.2.2.1, ((), ((), (x.2.2.2.2.1.2.2.2.2.2.1, (x.2.2.2.2.1.2.2.2.2.2.2.1, ()))))))), (((), ((), ((), (x.2.2.2.2.2.1.2.2.2.1, ((), (x.2.2.2.2.2.1.2.2.2.2.2.1, ())))))), (x.2.2.2.2.2.2.1, (x.2.2.2.2.2.2.2.1, (x.2.2.2.2.2.2.2.2.1, ()))))))))
def Q8.l0 (k : Nat) : Nat → Q8.l0.σ → Option Q8.l0.τ := Q1p (Q8.l0.r k)
def Q8.l0.T : StT := ⟨.ptr 0 [] :: .dat (.sl .str) :: us 19 ++ .dat (.sl .str) :: .dat (.int .i64) :: .dat (.int .i64) :: us 75, [.pair (.ptr 1 []) (.pair (.dat .str) (.pair (.dat (.int .u64)) (.pair (.nils) (.pair (.vsl 4) (.dat Qg2))))), .pair (.mp 2) (.pair (.mp 3) (.pair (.nils) (.pair (.dat (.int .i64)) (.pair (.nils) (.dat Qg5))))), .mpd .str .str, .mpd .str .str, .vec (.int .i64)]⟩
def Q8.l0.os : List Out := [⟨.ret, [.mask [4], .auto 4], ⟨us 4 ++ .dat (.int .i64) :: us 94, [.pair (.ptr 1 []) (.pair (.dat .str) (.pair (.dat (.int .u64)) (.pair (.nils) (.pair (.vsl 4) (.dat Qg2))))), .pair (.mp 2) (.pair (.mp 3) (.pair (.nils) (.pair (.dat (.int .i64)) (.pair (.nils) (.dat Qg5))))), .mpd .str .str, .mpd .str .str, .vec (.int .i64)]⟩⟩, ⟨(.exit 0), [.mask [0, 1], .auto 4], ⟨.ptr 0 [] :: .dat (.sl .str) :: us 97, [.pair (.ptr 1 []) (.pair (.dat .str) (.pair (.dat (.int .u64)) (.pair (.nils) (.pair (.vsl 4) (.dat Qg2))))), .pair (.mp 2) (.pair (.mp 3) (.pair (.nils) (.pair (.dat (.int .i64)) (.pair (.nils) (.dat Qg5))))), .mpd .str .str, .mpd .str .str, .vec (.int .i64)]⟩⟩]
abbrev Q8.l1.σ : Type := (List ByteArray) × ByteArray × (List ByteArray) × Int × Int × QfW × Qg0 × Qg4 × Qg4 × (List Int) × Unit
abbrev Q8.l1.τ : Type := ((List ByteArray) × ByteArray × QfW × Qg0 × Qg4 × Qg4 × (List Int) × Unit)
def Q8.l1.r (k : Nat) {ρ : Type} (x : Q8.l1.σ) (kn : Q8.l1.σ → Option ρ) (ke : Q8.l1.τ → Option ρ) : Option ρ :=
 bif (decide (x.2.2.2.2.1 < x.2.2.2.1)) then (bif (decide (((0 : Int) ≤ x.2.2.2.2.1) ∧ (x.2.2.2.2.1 < (((List.length x.2.2.1) : Nat) : Int)))) then (let v12 : ByteArray := (List.getD x.2.2.1 (Int.toNat x.2.2.2.2.1) ByteArray.empty)
 let v13 : Int := x.2.2.2.2.2.1.2.2.1
 let v14 : Int := (IntKind.wrap IntKind.u64 (v13 + (1 : Int)))
 let v15 : Int := (IntKind.wrap IntKind.u64 x.2.2.2.2.1)
 (Q05 k v14 v15 v12).bind fun t16 => let v17 : ByteArray := t16.1
 let v18 : Int := t16.2.1
 bif (Nat.ble ((ByteArray.size x.2.1) + (ByteArray.size v17)) 9223372036854775807) then (let v19 : ByteArray := (x.2.1 ++ v17)
 let v20 : Int := (IntKind.wrap IntKind.i64 (x.2.2.2.2.1 + (1 : Int)))
 kn (x.1, (v19, (x.2.2.1, (x.2.2.2.1, (v20, (((), (x.2.2.2.2.2.1.2.1, (x.2.2.2.2.2.1.2.2.1, ((), ((), (x.2.2.2.2.2.1.2.2.2.2.2.1, (x.2.2.2.2.2.1.2.2.2.2.2.2.1, ()))))))), (((), ((), ((), (x.2.2.2.2.2.2.1.2.2.2.1, ((), (x.2.2.2.2.2.2.1.2.2.2.2.2.1, ())))))), (x.2.2.2.2.2.2.2.1, (x.2.2.2.2.2.2.2.2.1, (x.2.2.2.2.2.2.2.2.2.1, ()))))))))))) else (none)) else (none)) else (ke (x.1, (x.2.1, (((), (x.2.2.2.2.2.1.2.1, (x.2.2.2.2.2.1.2.2.1, ((), ((), (x.2.2.2.2.2.1.2.2.2.2.2.1, (x.2.2.2.2.2.1.2.2.2.2.2.2.1, ()))))))), (((), ((), ((), (x.2.2.2.2.2.2.1.2.2.2.1, ((), (x.2.2.2.2.2.2.1.2.2.2.2.2.1, ())))))), (x.2.2.2.2.2.2.2.1, (x.2.2.2.2.2.2.2.2.1, (x.2.2.2.2.2.2.2.2.2.1, ()))))))))
def Q8.l1 (k : Nat) : Nat → Q8.l1.σ → Option Q8.l1.τ := Q1p (Q8.l1.r k)
def Q8.l1.T : StT := ⟨.ptr 0 [] :: .dat (.sl .str) :: us 6 ++ .dat .str :: us 34 ++ .dat (.sl .str) :: .dat (.int .i64) :: .dat (.int .i64) :: us 53, [.pair (.ptr 1 []) (.pair (.dat .str) (.pair (.dat (.int .u64)) (.pair (.nils) (.pair (.vsl 4) (.dat Qg2))))), .pair (.mp 2) (.pair (.mp 3) (.pair (.nils) (.pair (.dat (.int .i64)) (.pair (.nils) (.dat Qg5))))), .mpd .str .str, .mpd .str .str, .vec (.int .i64)]⟩
def Q8.l1.os : List Out := [⟨(.exit 2), [.mask [0, 1, 8], .auto 4], ⟨.ptr 0 [] :: .dat (.sl .str) :: us 6 ++ .dat .str :: us 90, [.pair (.ptr 1 []) (.pair (.dat .str) (.pair (.dat (.int .u64)) (.pair (.nils) (.pair (.vsl 4) (.dat Qg2))))), .pair (.mp 2) (.pair (.mp 3) (.pair (.nils) (.pair (.dat (.int .i64)) (.pair (.nils) (.dat Qg5))))), .mpd .str .str, .mpd .str .str, .vec (.int .i64)]⟩⟩]
abbrev Q8.τ : Type := QfH 
def Q8.c (k : Nat) {ρ : Type} (l : (List ByteArray)) (b0 : QfW) (b1 : Qg0) (b2 : Qg4) (b3 : Qg4) (b4 : (List Int)) (K : Q8.τ → Option ρ) : Option ρ :=
  (Q09 k ((), (b0.2.1, (b0.2.2.1, ((), ((), (b0.2.2.2.2.2.1, (b0.2.2.2.2.2.2.1, ()))))))) ((), ((), ((), (b1.2.2.2.1, ((), (b1.2.2.2.2.2.1, ())))))) b2 b3 b4).bind fun t0 => bif (t0.1 != (0 : Int)) then (K (t0.1, (((), (t0.2.1.2.1, (t0.2.1.2.2.1, ((), ((), (t0.2.1.2.2.2.2.2.1, (t0.2.1.2.2.2.2.2.2.1, ()))))))), (((), ((), ((), (t0.2.2.1.2.2.2.1, ((), (t0.2.2.1.2.2.2.2.2.1, ())))))), (t0.2.2.2.1, (t0.2.2.2.2.1, (t0.2.2.2.2.2.1, ()))))))) else ((Q8.l0 k k (l, (l, ((((List.length l) : Nat) : Int), ((0 : Int), (((), (t0.2.1.2.1, (t0.2.1.2.2.1, ((), ((), (t0.2.1.2.2.2.2.2.1, (t0.2.1.2.2.2.2.2.2.1, ()))))))), (((), ((), ((), (t0.2.2.1.2.2.2.1, ((), (t0.2.2.1.2.2.2.2.2.1, ())))))), (t0.2.2.2.1, (t0.2.2.2.2.1, (t0.2.2.2.2.2.1, ())))))))))).bind fun t3 => (match t3 with
 | .inl t4 => (K (t4.1, (((), (t4.2.1.2.1, (t4.2.1.2.2.1, ((), ((), (t4.2.1.2.2.2.2.2.1, (t4.2.1.2.2.2.2.2.2.1, ()))))))), (((), ((), ((), (t4.2.2.1.2.2.2.1, ((), (t4.2.2.1.2.2.2.2.2.1, ())))))), (t4.2.2.2.1, (t4.2.2.2.2.1, (t4.2.2.2.2.2.1, ())))))))
 | .inr (t5) => (let v6 : Int := t5.2.1.2.2.1
  let v7 : Int := (IntKind.wrap IntKind.u64 (v6 + (1 : Int)))
  bif (v7 == (0 : Int)) then (K ((122 : Int), (((), (t5.2.1.2.1, (t5.2.1.2.2.1, ((), ((), (t5.2.1.2.2.2.2.2.1, (t5.2.1.2.2.2.2.2.2.1, ()))))))), (((), ((), ((), (t5.2.2.1.2.2.2.1, ((), (t5.2.2.1.2.2.2.2.2.1, ())))))), (t5.2.2.2.1, (t5.2.2.2.2.1, (t5.2.2.2.2.2.1, ()))))))) else (let v8 : Int := t5.2.1.2.2.1
  let v9 : Int := (IntKind.wrap IntKind.u64 (v8 + (1 : Int)))
  (Q08 k v9).bind fun t10 => let v11 : Int := (((List.length t5.1) : Nat) : Int)
  (Q8.l1 k k (t5.1, (t10.1, (t5.1, (v11, ((0 : Int), (((), (t5.2.1.2.1, (t5.2.1.2.2.1, ((), ((), (t5.2.1.2.2.2.2.2.1, (t5.2.1.2.2.2.2.2.2.1, ()))))))), (((), ((), ((), (t5.2.2.1.2.2.2.1, ((), (t5.2.2.1.2.2.2.2.2.1, ())))))), (t5.2.2.2.1, (t5.2.2.2.2.1, (t5.2.2.2.2.2.1, ()))))))))))).bind fun t21 => none))))
def Q8 (k : Nat) (l : (List ByteArray)) (b0 : QfW) (b1 : Qg0) (b2 : Qg4) (b3 : Qg4) (b4 : (List Int)) : Option Q8.τ := Q8.c k l b0 b1 b2 b3 b4 some
def Q8.T : Q1g := ⟨[.ptr 0 [], .dat (.sl .str)], [.pair (.ptr 1 []) (.pair (.dat .str) (.pair (.dat (.int .u64)) (.pair (.nils) (.pair (.vsl 4) (.dat Qg2))))), .pair (.mp 2) (.pair (.mp 3) (.pair (.nils) (.pair (.dat (.int .i64)) (.pair (.nils) (.dat Qg5))))), .mpd .str .str, .mpd .str .str, .vec (.int .i64)], 4⟩
def Q8.os : List Out := [⟨.ret, [.freeze (.slot 0), .auto 4], ⟨[.dat (.int .i64)], [.pair (.ptr 1 []) (.pair (.dat .str) (.pair (.dat (.int .u64)) (.pair (.nils) (.pair (.vsl 4) (.dat Qg2))))), .pair (.mp 2) (.pair (.mp 3) (.pair (.nils) (.pair (.dat (.int .i64)) (.pair (.nils) (.dat Qg5))))), .mpd .str .str, .mpd .str .str, .vec (.int .i64)]⟩⟩]
def Q8.sem (k : Nat) : QS := Q1i Q8.T Q8.os fun x => Q8 k x.1 x.2.1 x.2.2.1 x.2.2.2.1 x.2.2.2.2.1 x.2.2.2.2.2.1
noncomputable def Q8.ctx (k : Nat) : Ctx := ⟨Try.prog, gam [(58, (Q09.sem k)), (9, (Q08.sem k)), (7, (Q05.sem k))]⟩
theorem Q8.gok (k : Nat) : ∀ f, Qz Try.prog f ((Q8.ctx k).Γ f) := (Qk (Q09.sem_ok k) (Qk (Q08.sem_ok k) (Qk (Q05.sem_ok k) Q0f)))
theorem Q8.l1.round (k : Nat) : Q1n (Q8.ctx k) (QV (Func.code Try.f20) [1, 1, 1, 1, 1, 0, 1, 0, 0]) (.nil) Q8.l1.T [.mask [0, 1, 8, 43, 44, 45], .auto 4] Q8.l1.os (Q8.l1.r k) := by
 intro ρ x kn ke; kernel_rfl
theorem Q8.l1.ok (k : Nat) : StOK 4 Try.prog (.loop (QV (Func.code Try.f20) [1, 1, 1, 1, 1, 0, 1, 0, 0])) (Qf Q8.l1.T Q8.l1.os (Q8.l1 k k)) :=
 Q1o (C := Q8.ctx k) (Q8.gok k) Try.mix Q1.nil (by kernel_rfl) (by kernel_rfl) (by kernel_rfl) (Q8.l1.round k) k
theorem Q8.l0.round (k : Nat) : Q1n (Q8.ctx k) (QV (Func.code Try.f20) [1, 1, 0, 1, 0, 0]) (.nil) Q8.l0.T [.mask [0, 1, 21, 22, 23], .auto 4] Q8.l0.os (Q8.l0.r k) := by
 intro ρ x kn ke; kernel_rfl
theorem Q8.l0.ok (k : Nat) : StOK 4 Try.prog (.loop (QV (Func.code Try.f20) [1, 1, 0, 1, 0, 0])) (Qf Q8.l0.T Q8.l0.os (Q8.l0 k k)) :=
 Q1o (C := Q8.ctx k) (Q8.gok k) Try.mix Q1.nil (by kernel_rfl) (by kernel_rfl) (by kernel_rfl) (Q8.l0.round k) k
def Q8.ann (k : Nat) : Ann := .node [] none (.nil) (.node [] none (.nil) (.node [] none (.node [] none (.nil) (.node [] none (.node [.mask [0, 1, 21, 22, 23], .auto 4] (some (Qf Q8.l0.T Q8.l0.os (Q8.l0 k k))) .nil .nil) (.nil))) (.node [] none (.nil) (.node [] none (.nil) (.node [] none (.node [] none (.nil) (.node [] none (.node [.mask [0, 1, 8, 43, 44, 45], .auto 4] (some (Qf Q8.l1.T Q8.l1.os (Q8.l1 k k))) .nil .nil) (.nil))) (.nil))))))
theorem Q8.body (k : Nat) : Q1j (Q8.ctx k) Try.f20 (Func.code Try.f20) (Q8.ann k) Q8.T Q8.os (fun x K => Q8.c k x.1 x.2.1 x.2.2.1 x.2.2.2.1 x.2.2.2.2.1 x.2.2.2.2.2.1 K) := by
 intro ρ x K; kernel_rfl
theorem Q8.sem_ok (k : Nat) : Qz Try.prog 20 (Q8.sem k) :=
 Q0q (C := Q8.ctx k) (Q8.gok k) Try.mix (c := Func.code Try.f20) (ann := Q8.ann k) (T := Q8.T) (os := Q8.os) (fun x K => Q8.c k x.1 x.2.1 x.2.2.1 x.2.2.2.1 x.2.2.2.2.1 x.2.2.2.2.2.1 K) Try.func20 (by kernel_rfl) (by kernel_rfl) (Q1.seq Q1.nil (Q1.seq Q1.nil (Q1.seq (Q1.seq Q1.nil (Q1.block (Q1.loop (by kernel_rfl) (Q8.l0.ok k)))) (Q1.seq Q1.nil (Q1.seq Q1.nil (Q1.seq (Q1.seq Q1.nil (Q1.block (Q1.loop (by kernel_rfl) (Q8.l1.ok k)))) Q1.nil)))))) (Q8.body k) (by kernel_rfl) (by kernel_rfl) (by kernel_rfl)
abbrev QI.τ : Type := (Bool × QfW × Qg0 × Qg4 × Qg4 × (List ByteArray) × (List Int) × Unit)
def QI.c (k : Nat) {ρ : Type} (b0 : QfW) (b1 : Qg0) (b2 : Qg4) (b3 : Qg4) (b4 : (List ByteArray)) (b5 : (List Int)) (K : QI.τ → Option ρ) : Option ρ :=
 K (b0.2.2.2.2.2.2.1, (((), (b0.2.1, (b0.2.2.1, ((), ((), (b0.2.2.2.2.2.1, (b0.2.2.2.2.2.2.1, ()))))))), (((), ((), ((), (b1.2.2.2.1, ((), (b1.2.2.2.2.2.1, ())))))), (b2, (b3, (b4, (b5, ())))))))
def QI (k : Nat) (b0 : QfW) (b1 : Qg0) (b2 : Qg4) (b3 : Qg4) (b4 : (List ByteArray)) (b5 : (List Int)) : Option QI.τ := QI.c k b0 b1 b2 b3 b4 b5 some
def QI.T : Q1g := ⟨[.ptr 0 []], [.pair (.ptr 1 []) (.pair (.dat .str) (.pair (.dat (.int .u64)) (.pair (.vsl 4) (.pair (.vsl 5) (.dat Qg2))))), .pair (.mp 2) (.pair (.mp 3) (.pair (.nils) (.pair (.dat (.int .i64)) (.pair (.nils) (.dat Qg5))))), .mpd .str .str, .mpd .str .str, .vec .str, .vec (.int .i64)], 4⟩
def QI.os : List Out := [⟨.ret, [.freeze (.slot 0), .auto 4], ⟨[.dat .bool], .pair (.ptr 1 []) (.pair (.dat .str) (.pair (.dat (.int .u64)) (.pair (.vsl 4) (.pair (.vsl 5) (.dat Qg2))))) :: .pair (.mp 2) (.pair (.mp 3) (.pair (.nils) (.pair (.dat (.int .i64)) (.pair (.nils) (.dat Qg5))))) :: .mpd .str .str :: .mpd .str .str :: .vec .str :: .vec (.int .i64) :: []⟩⟩]
def QI.sem (k : Nat) : QS := Q1i QI.T QI.os fun x => QI k x.1 x.2.1 x.2.2.1 x.2.2.2.1 x.2.2.2.2.1 x.2.2.2.2.2.1
noncomputable def QI.ctx (k : Nat) : Ctx := ⟨Try.prog, gam []⟩
theorem QI.gok (k : Nat) : ∀ f, Qz Try.prog f ((QI.ctx k).Γ f) := Q0f
def QI.ann (k : Nat) : Ann := .nil
theorem QI.body (k : Nat) : Q1j (QI.ctx k) Try.f21 (Func.code Try.f21) (QI.ann k) QI.T QI.os (fun x K => QI.c k x.1 x.2.1 x.2.2.1 x.2.2.2.1 x.2.2.2.2.1 x.2.2.2.2.2.1 K) := by
 intro ρ x K; kernel_rfl
theorem QI.sem_ok (k : Nat) : Qz Try.prog 21 (QI.sem k) :=
 Q0q (C := QI.ctx k) (QI.gok k) Try.mix (c := Func.code Try.f21) (ann := QI.ann k) (T := QI.T) (os := QI.os) (fun x K => QI.c k x.1 x.2.1 x.2.2.1 x.2.2.2.1 x.2.2.2.2.1 x.2.2.2.2.2.1 K) Try.func21 (by kernel_rfl) (by kernel_rfl) Q1.nil (QI.body k) (by kernel_rfl) (by kernel_rfl) (by kernel_rfl)
abbrev Q01.τ : Type := QfG 
def Q01.c (k : Nat) {ρ : Type} (b0 : QfW) (b1 : Qg0) (b2 : Qg4) (b3 : Qg4) (b4 : (List ByteArray)) (b5 : (List Int)) (K : Q01.τ → Option ρ) : Option ρ :=
 (QI k ((), (b0.2.1, (b0.2.2.1, ((), ((), (b0.2.2.2.2.2.1, (b0.2.2.2.2.2.2.1, ()))))))) ((), ((), ((), (b1.2.2.2.1, ((), (b1.2.2.2.2.2.1, ())))))) b2 b3 b4 b5).bind fun t0 => bif t0.1 then (K ((7 : Int), (((), (t0.2.1.2.1, (t0.2.1.2.2.1, ((), ((), (t0.2.1.2.2.2.2.2.1, (t0.2.1.2.2.2.2.2.2.1, ()))))))), (((), ((), ((), (t0.2.2.1.2.2.2.1, ((), (t0.2.2.1.2.2.2.2.2.1, ())))))), (t0.2.2.2.1, (t0.2.2.2.2.1, (t0.2.2.2.2.2.1, (t0.2.2.2.2.2.2.1, ())))))))) else (K ((0 : Int), (((), (t0.2.1.2.1, (t0.2.1.2.2.1, ((), ((), (t0.2.1.2.2.2.2.2.1, (t0.2.1.2.2.2.2.2.2.1, ()))))))), (((), ((), ((), (t0.2.2.1.2.2.2.1, ((), (t0.2.2.1.2.2.2.2.2.1, ())))))), (t0.2.2.2.1, (t0.2.2.2.2.1, (t0.2.2.2.2.2.1, (t0.2.2.2.2.2.2.1, ()))))))))
def Q01 (k : Nat) (b0 : QfW) (b1 : Qg0) (b2 : Qg4) (b3 : Qg4) (b4 : (List ByteArray)) (b5 : (List Int)) : Option Q01.τ := Q01.c k b0 b1 b2 b3 b4 b5 some
def Q01.T : Q1g := ⟨[.ptr 0 []], [.pair (.ptr 1 []) (.pair (.dat .str) (.pair (.dat (.int .u64)) (.pair (.vsl 4) (.pair (.vsl 5) (.dat Qg2))))), .pair (.mp 2) (.pair (.mp 3) (.pair (.nils) (.pair (.dat (.int .i64)) (.pair (.nils) (.dat Qg5))))), .mpd .str .str, .mpd .str .str, .vec .str, .vec (.int .i64)], 4⟩
def Q01.os : List Out := [⟨.ret, [.freeze (.slot 0), .auto 4], ⟨[.dat (.int .i64)], .pair (.ptr 1 []) (.pair (.dat .str) (.pair (.dat (.int .u64)) (.pair (.vsl 4) (.pair (.vsl 5) (.dat Qg2))))) :: .pair (.mp 2) (.pair (.mp 3) (.pair (.nils) (.pair (.dat (.int .i64)) (.pair (.nils) (.dat Qg5))))) :: .mpd .str .str :: .mpd .str .str :: .vec .str :: .vec (.int .i64) :: []⟩⟩]
def Q01.sem (k : Nat) : QS := Q1i Q01.T Q01.os fun x => Q01 k x.1 x.2.1 x.2.2.1 x.2.2.2.1 x.2.2.2.2.1 x.2.2.2.2.2.1
noncomputable def Q01.ctx (k : Nat) : Ctx := ⟨Try.prog, gam [(21, (QI.sem k))]⟩
theorem Q01.gok (k : Nat) : ∀ f, Qz Try.prog f ((Q01.ctx k).Γ f) := (Qk (QI.sem_ok k) Q0f)
def Q01.ann (k : Nat) : Ann := .nil
theorem Q01.body (k : Nat) : Q1j (Q01.ctx k) Try.f58 (Func.code Try.f58) (Q01.ann k) Q01.T Q01.os (fun x K => Q01.c k x.1 x.2.1 x.2.2.1 x.2.2.2.1 x.2.2.2.2.1 x.2.2.2.2.2.1 K) := by
 intro ρ x K; kernel_rfl
theorem Q01.sem_ok (k : Nat) : Qz Try.prog 58 (Q01.sem k) :=
 Q0q (C := Q01.ctx k) (Q01.gok k) Try.mix (c := Func.code Try.f58) (ann := Q01.ann k) (T := Q01.T) (os := Q01.os) (fun x K => Q01.c k x.1 x.2.1 x.2.2.1 x.2.2.2.1 x.2.2.2.2.1 x.2.2.2.2.2.1 K) Try.func58 (by kernel_rfl) (by kernel_rfl) Q1.nil (Q01.body k) (by kernel_rfl) (by kernel_rfl) (by kernel_rfl)
abbrev QO.τ : Type := QfG 
def QO.c (k : Nat) {ρ : Type} (e : Int) (b0 : QfW) (b1 : Qg0) (b2 : Qg4) (b3 : Qg4) (b4 : (List ByteArray)) (b5 : (List Int)) (K : QO.τ → Option ρ) : Option ρ :=
 bif (e == (7 : Int)) then (K (e, (((), (b0.2.1, (b0.2.2.1, ((), ((), (b0.2.2.2.2.2.1, (true, ()))))))), (((), ((), ((), (b1.2.2.2.1, ((), (b1.2.2.2.2.2.1, ())))))), (b2, (b3, (b4, (b5, ())))))))) else (K (e, (((), (b0.2.1, (b0.2.2.1, ((), ((), (b0.2.2.2.2.2.1, (b0.2.2.2.2.2.2.1, ()))))))), (((), ((), ((), (b1.2.2.2.1, ((), (b1.2.2.2.2.2.1, ())))))), (b2, (b3, (b4, (b5, ()))))))))
def QO (k : Nat) (e : Int) (b0 : QfW) (b1 : Qg0) (b2 : Qg4) (b3 : Qg4) (b4 : (List ByteArray)) (b5 : (List Int)) : Option QO.τ := QO.c k e b0 b1 b2 b3 b4 b5 some
def QO.T : Q1g := ⟨[.ptr 0 [], .dat (.int .i64)], [.pair (.ptr 1 []) (.pair (.dat .str) (.pair (.dat (.int .u64)) (.pair (.vsl 4) (.pair (.vsl 5) (.dat Qg2))))), .pair (.mp 2) (.pair (.mp 3) (.pair (.nils) (.pair (.dat (.int .i64)) (.pair (.nils) (.dat Qg5))))), .mpd .str .str, .mpd .str .str, .vec .str, .vec (.int .i64)], 4⟩
def QO.os : List Out := [⟨.ret, [.freeze (.slot 0), .auto 4], ⟨[.dat (.int .i64)], .pair (.ptr 1 []) (.pair (.dat .str) (.pair (.dat (.int .u64)) (.pair (.vsl 4) (.pair (.vsl 5) (.dat Qg2))))) :: .pair (.mp 2) (.pair (.mp 3) (.pair (.nils) (.pair (.dat (.int .i64)) (.pair (.nils) (.dat Qg5))))) :: .mpd .str .str :: .mpd .str .str :: .vec .str :: .vec (.int .i64) :: []⟩⟩]
def QO.sem (k : Nat) : QS := Q1i QO.T QO.os fun x => QO k x.1 x.2.1 x.2.2.1 x.2.2.2.1 x.2.2.2.2.1 x.2.2.2.2.2.1 x.2.2.2.2.2.2.1
noncomputable def QO.ctx (k : Nat) : Ctx := ⟨Try.prog, gam []⟩
theorem QO.gok (k : Nat) : ∀ f, Qz Try.prog f ((QO.ctx k).Γ f) := Q0f
def QO.ann (k : Nat) : Ann := .nil
theorem QO.body (k : Nat) : Q1j (QO.ctx k) Try.f59 (Func.code Try.f59) (QO.ann k) QO.T QO.os (fun x K => QO.c k x.1 x.2.1 x.2.2.1 x.2.2.2.1 x.2.2.2.2.1 x.2.2.2.2.2.1 x.2.2.2.2.2.2.1 K) := by
 intro ρ x K; kernel_rfl
theorem QO.sem_ok (k : Nat) : Qz Try.prog 59 (QO.sem k) :=
 Q0q (C := QO.ctx k) (QO.gok k) Try.mix (c := Func.code Try.f59) (ann := QO.ann k) (T := QO.T) (os := QO.os) (fun x K => QO.c k x.1 x.2.1 x.2.2.1 x.2.2.2.1 x.2.2.2.2.1 x.2.2.2.2.2.1 x.2.2.2.2.2.2.1 K) Try.func59 (by kernel_rfl) (by kernel_rfl) Q1.nil (QO.body k) (by kernel_rfl) (by kernel_rfl) (by kernel_rfl)
abbrev Q04.τ : Type := QfG 
def Q04.c (k : Nat) {ρ : Type} (b0 : QfW) (b1 : Qg0) (b2 : Qg4) (b3 : Qg4) (b4 : (List ByteArray)) (b5 : (List Int)) (K : Q04.τ → Option ρ) : Option ρ :=
 (Q01 k ((), (b0.2.1, (b0.2.2.1, ((), ((), (b0.2.2.2.2.2.1, (b0.2.2.2.2.2.2.1, ()))))))) ((), ((), ((), (b1.2.2.2.1, ((), (b1.2.2.2.2.2.1, ())))))) b2 b3 b4 b5).bind fun t0 => bif (t0.1 != (0 : Int)) then (K (t0.1, (((), (t0.2.1.2.1, (t0.2.1.2.2.1, ((), ((), (t0.2.1.2.2.2.2.2.1, (t0.2.1.2.2.2.2.2.2.1, ()))))))), (((), ((), ((), (t0.2.2.1.2.2.2.1, ((), (t0.2.2.1.2.2.2.2.2.1, ())))))), (t0.2.2.2.1, (t0.2.2.2.2.1, (t0.2.2.2.2.2.1, (t0.2.2.2.2.2.2.1, ())))))))) else ((Qg k ((), ((), ((), (t0.2.2.1.2.2.2.1, ((), (t0.2.2.1.2.2.2.2.2.1, ())))))) t0.2.2.2.1 t0.2.2.2.2.1).bind fun t1 => (QO k t1.1 ((), (t0.2.1.2.1, (t0.2.1.2.2.1, ((), ((), (t0.2.1.2.2.2.2.2.1, (t0.2.1.2.2.2.2.2.2.1, ()))))))) ((), ((), ((), (t1.2.1.2.2.2.1, ((), (t1.2.1.2.2.2.2.2.1, ())))))) t1.2.2.1 t1.2.2.2.1 t0.2.2.2.2.2.1 t0.2.2.2.2.2.2.1).bind fun t2 => K (t2.1, (((), (t2.2.1.2.1, (t2.2.1.2.2.1, ((), ((), (t2.2.1.2.2.2.2.2.1, (t2.2.1.2.2.2.2.2.2.1, ()))))))), (((), ((), ((), (t2.2.2.1.2.2.2.1, ((), (t2.2.2.1.2.2.2.2.2.1, ())))))), (t2.2.2.2.1, (t2.2.2.2.2.1, (t2.2.2.2.2.2.1, (t2.2.2.2.2.2.2.1, ()))))))))
def Q04 (k : Nat) (b0 : QfW) (b1 : Qg0) (b2 : Qg4) (b3 : Qg4) (b4 : (List ByteArray)) (b5 : (List Int)) : Option Q04.τ := Q04.c k b0 b1 b2 b3 b4 b5 some
def Q04.T : Q1g := ⟨[.ptr 0 []], [.pair (.ptr 1 []) (.pair (.dat .str) (.pair (.dat (.int .u64)) (.pair (.vsl 4) (.pair (.vsl 5) (.dat Qg2))))), .pair (.mp 2) (.pair (.mp 3) (.pair (.nils) (.pair (.dat (.int .i64)) (.pair (.nils) (.dat Qg5))))), .mpd .str .str, .mpd .str .str, .vec .str, .vec (.int .i64)], 4⟩
def Q04.os : List Out := [⟨.ret, [.freeze (.slot 0), .auto 4], ⟨[.dat (.int .i64)], .pair (.ptr 1 []) (.pair (.dat .str) (.pair (.dat (.int .u64)) (.pair (.vsl 4) (.pair (.vsl 5) (.dat Qg2))))) :: .pair (.mp 2) (.pair (.mp 3) (.pair (.nils) (.pair (.dat (.int .i64)) (.pair (.nils) (.dat Qg5))))) :: .mpd .str .str :: .mpd .str .str :: .vec .str :: .vec (.int .i64) :: []⟩⟩]
def Q04.sem (k : Nat) : QS := Q1i Q04.T Q04.os fun x => Q04 k x.1 x.2.1 x.2.2.1 x.2.2.2.1 x.2.2.2.2.1 x.2.2.2.2.2.1
noncomputable def Q04.ctx (k : Nat) : Ctx := ⟨Try.prog, gam [(58, (Q01.sem k)), (56, (Qg.sem k)), (59, (QO.sem k))]⟩
theorem Q04.gok (k : Nat) : ∀ f, Qz Try.prog f ((Q04.ctx k).Γ f) := (Qk (Q01.sem_ok k) (Qk (Qg.sem_ok k) (Qk (QO.sem_ok k) Q0f)))
def Q04.ann (k : Nat) : Ann := .nil
theorem Q04.body (k : Nat) : Q1j (Q04.ctx k) Try.f19 (Func.code Try.f19) (Q04.ann k) Q04.T Q04.os (fun x K => Q04.c k x.1 x.2.1 x.2.2.1 x.2.2.2.1 x.2.2.2.2.1 x.2.2.2.2.2.1 K) := by
 intro ρ x K; kernel_rfl
theorem Q04.sem_ok (k : Nat) : Qz Try.prog 19 (Q04.sem k) :=
 Q0q (C := Q04.ctx k) (Q04.gok k) Try.mix (c := Func.code Try.f19) (ann := Q04.ann k) (T := Q04.T) (os := Q04.os) (fun x K => Q04.c k x.1 x.2.1 x.2.2.1 x.2.2.2.1 x.2.2.2.2.1 x.2.2.2.2.2.1 K) Try.func19 (by kernel_rfl) (by kernel_rfl) Q1.nil (Q04.body k) (by kernel_rfl) (by kernel_rfl) (by kernel_rfl)
end Go.Am
