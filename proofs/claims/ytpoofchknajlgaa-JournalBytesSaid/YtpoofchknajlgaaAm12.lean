/- A part of a proof: a machine of abstract values that tells what functions of the program compute, and the plain facts on them. -/
import Derived.Test.YtpoofchknajlgaaAm9
import Derived.Test.YtpoofchknajlgaaAm6
import Derived.KernelRfl
set_option linter.unusedVariables false
set_option linter.unusedSimpArgs false
set_option linter.unnecessarySimpa false
set_option linter.unusedSectionVars false
namespace Go.Am
abbrev QeH : Ty := (.pair .bool .unit)
abbrev QeG : Type := (List (ByteArray × ByteArray))
abbrev QeF : Type := (ByteArray × (Int × (Int × Unit)))
abbrev QeE : Ty := (.pair (.int .i64)  QeH )
abbrev QeD : Type := (Int ×  QeF  × Unit)
abbrev QeC : Type := (Unit × (Unit × (Unit × (Int × (Unit × (Bool × Unit))))))
abbrev QeB : Ty := (.pair .str (.pair (.int .i64) (.pair (.int .i64) .unit)))
abbrev QeA : Type := (Int × (ByteArray × (ByteArray × (Int × (ByteArray × Unit)))))
abbrev Qez : Type := (List  QeA )
abbrev Qey : Type := (Unit × (ByteArray × (Int × (Unit × (Unit × (Int × (Bool × Unit)))))))
abbrev Qex : Ty := (.pair (.int .i64) (.pair .str (.pair .str (.pair (.int .i64) (.pair .str .unit)))))
abbrev Qew : Type := ( QeC  ×  QeG  ×  QeG  × Unit)
abbrev Qev : Type := (Int ×  QeC  ×  QeG  ×  QeG  × Unit)
abbrev Qeu : Type := (Bool ×  QeC  ×  QeG  ×  QeG  × Unit)
abbrev Qet : Type := (ByteArray ×  QeC  ×  QeG  ×  QeG  × Unit)
abbrev Qes : Type := (ByteArray × Int ×  QeC  ×  QeG  ×  QeG  × Unit)
abbrev Qer : Type := (ByteArray × ByteArray ×  QeC  ×  QeG  ×  QeG  × Unit)
abbrev Qeq : Type := ( QeC  ×  QeG  ×  QeG  ×  Qez  × Unit)
abbrev Qep : Type := (Int ×  QeC  ×  QeG  ×  QeG  ×  Qez  × Unit)
abbrev Qeo : Type := (Bool ×  QeC  ×  QeG  ×  QeG  ×  Qez  × Unit)
abbrev Qen : Type := (ByteArray ×  QeC  ×  QeG  ×  QeG  ×  Qez  × Unit)
abbrev Qem : Type := (ByteArray × Int ×  QeC  ×  QeG  ×  QeG  ×  Qez  × Unit)
abbrev Qel : Type := (Int ×  Qey  ×  QeC  ×  QeG  ×  QeG  × (List Int) × Unit)
abbrev Qek : Type := (Int ×  Qey  ×  QeC  ×  QeG  ×  QeG  × (List ByteArray) × (List Int) × Unit)
abbrev Qej : Type := (Int ×  Qey  ×  QeC  ×  QeG  ×  QeG  × (List Int) ×  Qez  × Unit)
abbrev Qei : Type := (Int ×  Qey  ×  QeC  ×  QeG  ×  QeG  × (List ByteArray) × (List Int) ×  Qez  × Unit)
end Go.Am
namespace Go.Am
open Go Go.Proofs
set_option maxRecDepth 100000
abbrev Q19.τ : Type := Qew 
def Q19.c (k : Nat) {ρ : Type}  (K : Q19.τ → Option ρ) : Option ρ :=
 K (((), ((), ((), ((0 : Int), ((), (false, ())))))), ([], ([], ())))
def Q19 (k : Nat)  : Option Q19.τ := Q19.c k  some
def Q19.T : Q13 := ⟨[], [], 0⟩
def Q19.os : List Out := [⟨.ret, [.auto 0], ⟨[.ptr 0 []], [.pair (.mp 1) (.pair (.mp 2) (.pair (.nils) (.pair (.dat (.int .i64)) (.pair (.nils) (.dat QeH))))), .mpd .str .str, .mpd .str .str]⟩⟩]
def Q19.sem (k : Nat) : QP := Q14 Q19.T Q19.os fun x => Q19 k 
noncomputable def Q19.ctx (k : Nat) : Ctx := ⟨Try.prog, gam []⟩
theorem Q19.gok (k : Nat) : ∀ f, Qw Try.prog f ((Q19.ctx k).Γ f) := Q0b
def Q19.ann (k : Nat) : Ann := .nil
theorem Q19.body (k : Nat) : Q16 (Q19.ctx k) Try.f15 (Func.code Try.f15) (Q19.ann k) Q19.T Q19.os (fun x K => Q19.c k  K) := by
 intro ρ x K; kernel_rfl
theorem Q19.sem_ok (k : Nat) : Qw Try.prog 15 (Q19.sem k) :=
 Q0r (C := Q19.ctx k) (Q19.gok k) Try.mix (c := Func.code Try.f15) (ann := Q19.ann k) (T := Q19.T) (os := Q19.os) (fun x K => Q19.c k  K) Try.func15 (by kernel_rfl) (by kernel_rfl) Q1.nil (Q19.body k) (by kernel_rfl) (by kernel_rfl) (by kernel_rfl)
abbrev Q0B.τ : Type := Qeu 
def Q0B.c (k : Nat) {ρ : Type} (b0 : QeC) (b1 : QeG) (b2 : QeG) (K : Q0B.τ → Option ρ) : Option ρ :=
 K (b0.2.2.2.2.2.1, (((), ((), ((), (b0.2.2.2.1, ((), (b0.2.2.2.2.2.1, ())))))), (b1, (b2, ()))))
def Q0B (k : Nat) (b0 : QeC) (b1 : QeG) (b2 : QeG) : Option Q0B.τ := Q0B.c k b0 b1 b2 some
def Q0B.T : Q13 := ⟨[.ptr 0 []], [.pair (.mp 1) (.pair (.mp 2) (.pair (.nils) (.pair (.dat (.int .i64)) (.pair (.nils) (.dat QeH))))), .mpd .str .str, .mpd .str .str], 3⟩
def Q0B.os : List Out := [⟨.ret, [.freeze (.slot 0), .auto 3], ⟨[.dat .bool], [.pair (.mp 1) (.pair (.mp 2) (.pair (.nils) (.pair (.dat (.int .i64)) (.pair (.nils) (.dat QeH))))), .mpd .str .str, .mpd .str .str]⟩⟩]
def Q0B.sem (k : Nat) : QP := Q14 Q0B.T Q0B.os fun x => Q0B k x.1 x.2.1 x.2.2.1
noncomputable def Q0B.ctx (k : Nat) : Ctx := ⟨Try.prog, gam []⟩
theorem Q0B.gok (k : Nat) : ∀ f, Qw Try.prog f ((Q0B.ctx k).Γ f) := Q0b
def Q0B.ann (k : Nat) : Ann := .nil
theorem Q0B.body (k : Nat) : Q16 (Q0B.ctx k) Try.f30 (Func.code Try.f30) (Q0B.ann k) Q0B.T Q0B.os (fun x K => Q0B.c k x.1 x.2.1 x.2.2.1 K) := by
 intro ρ x K; kernel_rfl
theorem Q0B.sem_ok (k : Nat) : Qw Try.prog 30 (Q0B.sem k) :=
 Q0r (C := Q0B.ctx k) (Q0B.gok k) Try.mix (c := Func.code Try.f30) (ann := Q0B.ann k) (T := Q0B.T) (os := Q0B.os) (fun x K => Q0B.c k x.1 x.2.1 x.2.2.1 K) Try.func30 (by kernel_rfl) (by kernel_rfl) Q1.nil (Q0B.body k) (by kernel_rfl) (by kernel_rfl) (by kernel_rfl)
abbrev Qi.p1.σ : Type := ByteArray × (List ByteArray) × Int × Int × Unit
abbrev Qi.p1.τ : Type := (Int × Unit) ⊕ (ByteArray × (List ByteArray) × Int × Int × Unit)
def Qi.p1.r (k : Nat) {ρ : Type} (x : Qi.p1.σ) (K : Qi.p1.τ → Option ρ) : Option ρ :=
 let v1 : Int := (((ByteArray.size x.1) : Nat) : Int)
 bif (decide (v1 < (1 : Int))) then (K (.inl ((70 : Int), ()))) else (let v2 : Int := (((ByteArray.size x.1) : Nat) : Int)
 bif (decide (v2 > (32 : Int))) then (K (.inl ((70 : Int), ()))) else (K (.inr (x.1, (x.2.1, (x.2.2.1, (x.2.2.2.1, ())))))))
def Qi.p1 (k : Nat) (x : Qi.p1.σ) : Option Qi.p1.τ := Qi.p1.r k x some
def Qi.p1.T : StT := ⟨us 4 ++ .dat .str :: us 2 ++ .dat (.sl .str) :: .dat (.int .i64) :: .dat (.int .i64) :: us 43, []⟩
def Qi.p1.os : List Out := [⟨.ret, [.mask [2], .auto 0], ⟨us 2 ++ .dat (.int .i64) :: us 50, []⟩⟩, ⟨.normal, [.mask [4, 7, 8, 9], .auto 0], ⟨us 4 ++ .dat .str :: us 2 ++ .dat (.sl .str) :: .dat (.int .i64) :: .dat (.int .i64) :: us 43, []⟩⟩]
abbrev Qi.l2.σ : Type := ByteArray × (List ByteArray) × Int × Int × Int × Int × Unit
abbrev Qi.l2.τ : Type := (Int × Unit) ⊕ ((List ByteArray) × Int × Int × Unit)
def Qi.l2.r (k : Nat) {ρ : Type} (x : Qi.l2.σ) (kn : Qi.l2.σ → Option ρ) (ke : Qi.l2.τ → Option ρ) : Option ρ :=
 bif (decide (x.2.2.2.2.2.1 < x.2.2.2.2.1)) then (bif (decide (((0 : Int) ≤ x.2.2.2.2.2.1) ∧ (x.2.2.2.2.2.1 < (((ByteArray.size x.1) : Nat) : Int)))) then (let v7 : Int := (Q2S x.1 (Int.toNat x.2.2.2.2.2.1))
 bif (decide (v7 < (97 : Int))) then (bif (decide (v7 < (48 : Int))) then (bif (v7 != (46 : Int)) then (bif (v7 != (45 : Int)) then (ke (.inl ((70 : Int), ()))) else (let v8 : Int := (IntKind.wrap IntKind.i64 (x.2.2.2.2.2.1 + (1 : Int)))
 kn (x.1, (x.2.1, (x.2.2.1, (x.2.2.2.1, (x.2.2.2.2.1, (v8, ())))))))) else (let v9 : Int := (IntKind.wrap IntKind.i64 (x.2.2.2.2.2.1 + (1 : Int)))
 kn (x.1, (x.2.1, (x.2.2.1, (x.2.2.2.1, (x.2.2.2.2.1, (v9, ())))))))) else (bif (decide (v7 > (57 : Int))) then (bif (v7 != (46 : Int)) then (bif (v7 != (45 : Int)) then (ke (.inl ((70 : Int), ()))) else (let v10 : Int := (IntKind.wrap IntKind.i64 (x.2.2.2.2.2.1 + (1 : Int)))
 kn (x.1, (x.2.1, (x.2.2.1, (x.2.2.2.1, (x.2.2.2.2.1, (v10, ())))))))) else (let v11 : Int := (IntKind.wrap IntKind.i64 (x.2.2.2.2.2.1 + (1 : Int)))
 kn (x.1, (x.2.1, (x.2.2.1, (x.2.2.2.1, (x.2.2.2.2.1, (v11, ())))))))) else (let v12 : Int := (IntKind.wrap IntKind.i64 (x.2.2.2.2.2.1 + (1 : Int)))
 kn (x.1, (x.2.1, (x.2.2.1, (x.2.2.2.1, (x.2.2.2.2.1, (v12, ()))))))))) else (bif (decide (v7 > (122 : Int))) then (bif (decide (v7 < (48 : Int))) then (bif (v7 != (46 : Int)) then (bif (v7 != (45 : Int)) then (ke (.inl ((70 : Int), ()))) else (let v13 : Int := (IntKind.wrap IntKind.i64 (x.2.2.2.2.2.1 + (1 : Int)))
 kn (x.1, (x.2.1, (x.2.2.1, (x.2.2.2.1, (x.2.2.2.2.1, (v13, ())))))))) else (let v14 : Int := (IntKind.wrap IntKind.i64 (x.2.2.2.2.2.1 + (1 : Int)))
 kn (x.1, (x.2.1, (x.2.2.1, (x.2.2.2.1, (x.2.2.2.2.1, (v14, ())))))))) else (bif (decide (v7 > (57 : Int))) then (bif (v7 != (46 : Int)) then (bif (v7 != (45 : Int)) then (ke (.inl ((70 : Int), ()))) else (let v15 : Int := (IntKind.wrap IntKind.i64 (x.2.2.2.2.2.1 + (1 : Int)))
 kn (x.1, (x.2.1, (x.2.2.1, (x.2.2.2.1, (x.2.2.2.2.1, (v15, ())))))))) else (let v16 : Int := (IntKind.wrap IntKind.i64 (x.2.2.2.2.2.1 + (1 : Int)))
 kn (x.1, (x.2.1, (x.2.2.1, (x.2.2.2.1, (x.2.2.2.2.1, (v16, ())))))))) else (let v17 : Int := (IntKind.wrap IntKind.i64 (x.2.2.2.2.2.1 + (1 : Int)))
 kn (x.1, (x.2.1, (x.2.2.1, (x.2.2.2.1, (x.2.2.2.2.1, (v17, ()))))))))) else (let v18 : Int := (IntKind.wrap IntKind.i64 (x.2.2.2.2.2.1 + (1 : Int)))
 kn (x.1, (x.2.1, (x.2.2.1, (x.2.2.2.1, (x.2.2.2.2.1, (v18, ()))))))))) else (none)) else (ke (.inr (x.2.1, (x.2.2.1, (x.2.2.2.1, ())))))
def Qi.l2 (k : Nat) : Nat → Qi.l2.σ → Option Qi.l2.τ := Q1j (Qi.l2.r k)
def Qi.l2.T : StT := ⟨us 4 ++ .dat .str :: us 2 ++ .dat (.sl .str) :: .dat (.int .i64) :: .dat (.int .i64) :: us 12 ++ .dat (.int .i64) :: .dat (.int .i64) :: us 29, []⟩
def Qi.l2.os : List Out := [⟨.ret, [.mask [2], .auto 0], ⟨us 2 ++ .dat (.int .i64) :: us 50, []⟩⟩, ⟨(.exit 2), [.mask [7, 8, 9], .auto 0], ⟨us 7 ++ .dat (.sl .str) :: .dat (.int .i64) :: .dat (.int .i64) :: us 43, []⟩⟩]
abbrev Qi.l0.σ : Type := (List ByteArray) × Int × Int × Unit
abbrev Qi.l0.τ : Type := (Int × Unit) ⊕ (Unit)
def Qi.l0.r (k : Nat) {ρ : Type} (x : Qi.l0.σ) (kn : Qi.l0.σ → Option ρ) (ke : Qi.l0.τ → Option ρ) : Option ρ :=
  bif (decide (x.2.2.1 < x.2.1)) then (bif (decide (((0 : Int) ≤ x.2.2.1) ∧ (x.2.2.1 < (((List.length x.1) : Nat) : Int)))) then (let v0 : ByteArray := (List.getD x.1 (Int.toNat x.2.2.1) ByteArray.empty)
  (Qi.p1 k (v0, (x.1, (x.2.1, (x.2.2.1, ()))))).bind fun t3 => (match t3 with
 | .inl t4 => (ke (.inl (t4.1, ())))
 | .inr (t5) => (let v6 : Int := (((ByteArray.size t5.1) : Nat) : Int)
  (Qi.l2 k k (t5.1, (t5.2.1, (t5.2.2.1, (t5.2.2.2.1, (v6, ((0 : Int), ()))))))).bind fun t19 => (match t19 with
 | .inl t20 => (ke (.inl (t20.1, ())))
 | .inr (t21) => (let v22 : Int := (IntKind.wrap IntKind.i64 (t21.2.2.1 + (1 : Int)))
  kn (t21.1, (t21.2.1, (v22, ())))))))) else (none)) else (ke (.inr ()))
def Qi.l0 (k : Nat) : Nat → Qi.l0.σ → Option Qi.l0.τ := Q1j (Qi.l0.r k)
def Qi.l0.T : StT := ⟨us 7 ++ .dat (.sl .str) :: .dat (.int .i64) :: .dat (.int .i64) :: us 43, []⟩
def Qi.l0.os : List Out := [⟨.ret, [.mask [2], .auto 0], ⟨us 2 ++ .dat (.int .i64) :: us 50, []⟩⟩, ⟨(.exit 0), [.mask [], .auto 0], ⟨us 53, []⟩⟩]
def Qi.c (k : Nat) {ρ : Type} (names : (List ByteArray)) (K : Int × Unit → Option ρ) : Option ρ :=
  (Qi.l0 k k (names, ((((List.length names) : Nat) : Int), ((0 : Int), ())))).bind fun t23 => (match t23 with
 | .inl t24 => (K (t24.1, ()))
 | .inr (t25) => (K ((0 : Int), ())))
def Qi (k : Nat) (names : (List ByteArray)) : Option (Int × Unit) := Qi.c k names some
def Qi.tin : List Ty := [(.sl .str)]
def Qi.tout : List Ty := [(.int .i64)]
def Qi.sem (k : Nat) : QP := Q15 Qi.tin Qi.tout fun x => Qi k x.1
noncomputable def Qi.ctx (k : Nat) : Ctx := ⟨Try.prog, gam []⟩
theorem Qi.gok (k : Nat) : ∀ f, Qw Try.prog f ((Qi.ctx k).Γ f) := Q0b
theorem Qi.p1.is (k : Nat) : Q20 (Qi.ctx k) (Q0K (Func.code Try.f89) [1, 0, 1, 0, 0, 1, 1, 0, 0, 1, 0]) (.nil) Qi.p1.T Qi.p1.os (Qi.p1.r k) := by
 intro ρ x K; kernel_rfl
theorem Qi.p1.ok (k : Nat) : StOK 0 Try.prog (Q0K (Func.code Try.f89) [1, 0, 1, 0, 0, 1, 1, 0, 0, 1, 0]) (Q01 Qi.p1.T Qi.p1.os (Qi.p1 k)) :=
 Q1O (C := Qi.ctx k) (T := Qi.p1.T) (os := Qi.p1.os) (Qi.gok k) Try.mix (fun x K => Qi.p1.r k x K) Q1.nil (by kernel_rfl) (by kernel_rfl) (Qi.p1.is k)
theorem Qi.l2.round (k : Nat) : Q1e (Qi.ctx k) (Q0K (Func.code Try.f89) [1, 0, 1, 0, 0, 1, 1, 0, 0, 1, 1, 1, 0, 0]) (.nil) Qi.l2.T [.mask [4, 7, 8, 9, 22, 23], .auto 0] Qi.l2.os (Qi.l2.r k) := by
 intro ρ x kn ke; kernel_rfl
theorem Qi.l2.ok (k : Nat) : StOK 0 Try.prog (.loop (Q0K (Func.code Try.f89) [1, 0, 1, 0, 0, 1, 1, 0, 0, 1, 1, 1, 0, 0])) (Q01 Qi.l2.T Qi.l2.os (Qi.l2 k k)) :=
 Q1i (C := Qi.ctx k) (Qi.gok k) Try.mix Q1.nil (by kernel_rfl) (by kernel_rfl) (by kernel_rfl) (Qi.l2.round k) k
theorem Qi.l0.round (k : Nat) : Q1e (Qi.ctx k) (Q0K (Func.code Try.f89) [1, 0, 1, 0, 0]) (.node [] none (.nil) (.node [] none (.nil) (.node [] none (.node [] none (.node [] none (.nil) (.node [] none (.node [] (some (Q01 Qi.p1.T Qi.p1.os (Qi.p1 k))) .nil .nil) (.node [] none (.nil) (.node [] none (.node [] (some (Q01 Qi.l2.T Qi.l2.os (Qi.l2 k k))) .nil .nil) (.nil))))) (.nil)) (.nil)))) Qi.l0.T [.mask [7, 8, 9], .auto 0] Qi.l0.os (Qi.l0.r k) := by
 intro ρ x kn ke; kernel_rfl
theorem Qi.l0.ok (k : Nat) : StOK 0 Try.prog (.loop (Q0K (Func.code Try.f89) [1, 0, 1, 0, 0])) (Q01 Qi.l0.T Qi.l0.os (Qi.l0 k k)) :=
 Q1i (C := Qi.ctx k) (Qi.gok k) Try.mix (Q1.seq Q1.nil (Q1.seq Q1.nil (Q1.seq (Q1.block (Q1.seq Q1.nil (Q1.seq (Q1.loop (by kernel_rfl) (Qi.p1.ok k)) (Q1.seq Q1.nil (Q1.block (Q1.loop (by kernel_rfl) (Qi.l2.ok k))))))) Q1.nil))) (by kernel_rfl) (by kernel_rfl) (by kernel_rfl) (Qi.l0.round k) k
def Qi.ann (k : Nat) : Ann := .node [] none (.nil) (.node [] none (.node [] none (.nil) (.node [] none (.node [] (some (Q01 Qi.l0.T Qi.l0.os (Qi.l0 k k))) .nil .nil) (.nil))) (.nil))
theorem Qi.body (k : Nat) : Q1n (Qi.ctx k) Try.f89 (Func.code Try.f89) (Qi.ann k) Qi.tin Qi.tout (fun x K => Qi.c k x.1 K) := by
 intro ρ x K; kernel_rfl
theorem Qi.sem_ok (k : Nat) : Qw Try.prog 89 (Qi.sem k) :=
 Q11 (C := Qi.ctx k) (Qi.gok k) Try.mix (c := Func.code Try.f89) (ann := Qi.ann k) (tin := Qi.tin) (tout := Qi.tout) (fun x K => Qi.c k x.1 K) Try.func89 (by kernel_rfl) (by kernel_rfl) (Q1.seq Q1.nil (Q1.seq (Q1.seq Q1.nil (Q1.block (Q1.loop (by kernel_rfl) (Qi.l0.ok k)))) Q1.nil)) (Qi.body k)
abbrev Q0E.τ : Type := Qev 
def Q0E.c (k : Nat) {ρ : Type} (names : (List ByteArray)) (b0 : QeC) (b1 : QeG) (b2 : QeG) (K : Q0E.τ → Option ρ) : Option ρ :=
 (Q0B k ((), ((), ((), (b0.2.2.2.1, ((), (b0.2.2.2.2.2.1, ())))))) b1 b2).bind fun t0 => bif t0.1 then (K ((7 : Int), (((), ((), ((), (t0.2.1.2.2.2.1, ((), (t0.2.1.2.2.2.2.2.1, ())))))), (t0.2.2.1, (t0.2.2.2.1, ()))))) else ((Qi k names).bind fun t1 => K (t1.1, (((), ((), ((), (t0.2.1.2.2.2.1, ((), (t0.2.1.2.2.2.2.2.1, ())))))), (t0.2.2.1, (t0.2.2.2.1, ())))))
def Q0E (k : Nat) (names : (List ByteArray)) (b0 : QeC) (b1 : QeG) (b2 : QeG) : Option Q0E.τ := Q0E.c k names b0 b1 b2 some
def Q0E.T : Q13 := ⟨[.ptr 0 [], .dat (.sl .str)], [.pair (.mp 1) (.pair (.mp 2) (.pair (.nils) (.pair (.dat (.int .i64)) (.pair (.nils) (.dat QeH))))), .mpd .str .str, .mpd .str .str], 3⟩
def Q0E.os : List Out := [⟨.ret, [.freeze (.slot 0), .auto 3], ⟨[.dat (.int .i64)], [.pair (.mp 1) (.pair (.mp 2) (.pair (.nils) (.pair (.dat (.int .i64)) (.pair (.nils) (.dat QeH))))), .mpd .str .str, .mpd .str .str]⟩⟩]
def Q0E.sem (k : Nat) : QP := Q14 Q0E.T Q0E.os fun x => Q0E k x.1 x.2.1 x.2.2.1 x.2.2.2.1
noncomputable def Q0E.ctx (k : Nat) : Ctx := ⟨Try.prog, gam [(30, (Q0B.sem k)), (89, (Qi.sem k))]⟩
theorem Q0E.gok (k : Nat) : ∀ f, Qw Try.prog f ((Q0E.ctx k).Γ f) := (Qe (Q0B.sem_ok k) (Qe (Qi.sem_ok k) Q0b))
def Q0E.ann (k : Nat) : Ann := .nil
theorem Q0E.body (k : Nat) : Q16 (Q0E.ctx k) Try.f79 (Func.code Try.f79) (Q0E.ann k) Q0E.T Q0E.os (fun x K => Q0E.c k x.1 x.2.1 x.2.2.1 x.2.2.2.1 K) := by
 intro ρ x K; kernel_rfl
theorem Q0E.sem_ok (k : Nat) : Qw Try.prog 79 (Q0E.sem k) :=
 Q0r (C := Q0E.ctx k) (Q0E.gok k) Try.mix (c := Func.code Try.f79) (ann := Q0E.ann k) (T := Q0E.T) (os := Q0E.os) (fun x K => Q0E.c k x.1 x.2.1 x.2.2.1 x.2.2.2.1 K) Try.func79 (by kernel_rfl) (by kernel_rfl) Q1.nil (Q0E.body k) (by kernel_rfl) (by kernel_rfl) (by kernel_rfl)
abbrev Qh.l0.σ : Type := Bool × Int × Int × QeC × QeG × QeG × Unit
abbrev Qh.l0.τ : Type := Qew 
def Qh.l0.r (k : Nat) {ρ : Type} (x : Qh.l0.σ) (kn : Qh.l0.σ → Option ρ) (ke : Qh.l0.τ → Option ρ) : Option ρ :=
 bif (decide (x.2.2.1 < x.2.1)) then (none) else (ke (((), ((), ((), (x.2.2.2.1.2.2.2.1, ((), (x.2.2.2.1.2.2.2.2.2.1, ())))))), (x.2.2.2.2.1, (x.2.2.2.2.2.1, ()))))
def Qh.l0 (k : Nat) : Nat → Qh.l0.σ → Option Qh.l0.τ := Q1j (Qh.l0.r k)
def Qh.l0.T : StT := ⟨.ptr 0 [] :: .dat .bool :: us 8 ++ .nils :: .dat (.int .i64) :: .dat (.int .i64) :: us 36, [.pair (.mp 1) (.pair (.mp 2) (.pair (.nils) (.pair (.dat (.int .i64)) (.pair (.nils) (.dat QeH))))), .mpd .str .str, .mpd .str .str]⟩
def Qh.l0.os : List Out := [⟨(.exit 0), [.mask [], .auto 3], ⟨us 49, [.pair (.mp 1) (.pair (.mp 2) (.pair (.nils) (.pair (.dat (.int .i64)) (.pair (.nils) (.dat QeH))))), .mpd .str .str, .mpd .str .str]⟩⟩]
abbrev Qh.τ : Type := Qeu 
def Qh.c (k : Nat) {ρ : Type} (sync : Bool) (b0 : QeC) (b1 : QeG) (b2 : QeG) (K : Qh.τ → Option ρ) : Option ρ :=
 (Qh.l0 k k (sync, ((0 : Int), ((0 : Int), (((), ((), ((), (b0.2.2.2.1, ((), (b0.2.2.2.2.2.1, ())))))), (b1, (b2, ()))))))).bind fun t0 => K (false, (((), ((), ((), (t0.1.2.2.2.1, ((), (t0.1.2.2.2.2.2.1, ())))))), (t0.2.1, (t0.2.2.1, ()))))
def Qh (k : Nat) (sync : Bool) (b0 : QeC) (b1 : QeG) (b2 : QeG) : Option Qh.τ := Qh.c k sync b0 b1 b2 some
def Qh.T : Q13 := ⟨[.ptr 0 [], .dat .bool], [.pair (.mp 1) (.pair (.mp 2) (.pair (.nils) (.pair (.dat (.int .i64)) (.pair (.nils) (.dat QeH))))), .mpd .str .str, .mpd .str .str], 3⟩
def Qh.os : List Out := [⟨.ret, [.freeze (.slot 0), .auto 3], ⟨[.dat .bool], [.pair (.mp 1) (.pair (.mp 2) (.pair (.nils) (.pair (.dat (.int .i64)) (.pair (.nils) (.dat QeH))))), .mpd .str .str, .mpd .str .str]⟩⟩]
def Qh.sem (k : Nat) : QP := Q14 Qh.T Qh.os fun x => Qh k x.1 x.2.1 x.2.2.1 x.2.2.2.1
noncomputable def Qh.ctx (k : Nat) : Ctx := ⟨Try.prog, gam []⟩
theorem Qh.gok (k : Nat) : ∀ f, Qw Try.prog f ((Qh.ctx k).Γ f) := Q0b
theorem Qh.l0.round (k : Nat) : Q1e (Qh.ctx k) (Q0K (Func.code Try.f76) [1, 0, 1, 0, 0]) (.nil) Qh.l0.T [] Qh.l0.os (Qh.l0.r k) := by
 intro ρ x kn ke; kernel_rfl
theorem Qh.l0.ok (k : Nat) : StOK 3 Try.prog (.loop (Q0K (Func.code Try.f76) [1, 0, 1, 0, 0])) (Q01 Qh.l0.T Qh.l0.os (Qh.l0 k k)) :=
 Q1i (C := Qh.ctx k) (Qh.gok k) Try.mix Q1.nil (by kernel_rfl) (by kernel_rfl) (by kernel_rfl) (Qh.l0.round k) k
def Qh.ann (k : Nat) : Ann := .node [] none (.nil) (.node [] none (.node [] none (.nil) (.node [] none (.node [.mask [0, 1, 10, 11, 12], .auto 3] (some (Q01 Qh.l0.T Qh.l0.os (Qh.l0 k k))) .nil .nil) (.nil))) (.nil))
theorem Qh.body (k : Nat) : Q16 (Qh.ctx k) Try.f76 (Func.code Try.f76) (Qh.ann k) Qh.T Qh.os (fun x K => Qh.c k x.1 x.2.1 x.2.2.1 x.2.2.2.1 K) := by
 intro ρ x K; kernel_rfl
theorem Qh.sem_ok (k : Nat) : Qw Try.prog 76 (Qh.sem k) :=
 Q0r (C := Qh.ctx k) (Qh.gok k) Try.mix (c := Func.code Try.f76) (ann := Qh.ann k) (T := Qh.T) (os := Qh.os) (fun x K => Qh.c k x.1 x.2.1 x.2.2.1 x.2.2.2.1 K) Try.func76 (by kernel_rfl) (by kernel_rfl) (Q1.seq Q1.nil (Q1.seq (Q1.seq Q1.nil (Q1.block (Q1.loop (by kernel_rfl) (Qh.l0.ok k)))) Q1.nil)) (Qh.body k) (by kernel_rfl) (by kernel_rfl) (by kernel_rfl)
abbrev Q0D.τ : Type := (QeG × Unit)
def Q0D.c (k : Nat) {ρ : Type} (c : QeA) (b0 : QeG) (K : Q0D.τ → Option ρ) : Option ρ :=
 let v0 : Int := c.1
 bif (v0 == (0 : Int)) then (let v1 : ByteArray := c.2.1
 let v2 : ByteArray := (Option.getD (mget Ty.str v1 b0) ByteArray.empty)
 let v3 : ByteArray := c.2.1
 let v4 : Int := c.2.2.2.1
 bif (decide (((0 : Int) ≤ (0 : Int)) ∧ (((0 : Int) ≤ v4) ∧ (v4 ≤ (((ByteArray.size v2) : Nat) : Int))))) then (let v5 : ByteArray := c.2.2.2.2.1
 bif (Nat.ble ((ByteArray.size (ByteArray.extract v2 0 (Int.toNat v4))) + (ByteArray.size v5)) 9223372036854775807) then (let v6 : ByteArray := ((ByteArray.extract v2 0 (Int.toNat v4)) ++ v5)
 let v7 : Int := c.2.2.2.1
 let v8 : ByteArray := c.2.2.2.2.1
 let v9 : Int := (IntKind.wrap IntKind.i64 (v7 + (((ByteArray.size v8) : Nat) : Int)))
 let v10 : Int := (if (v9 < (((ByteArray.size v2) : Nat) : Int)) then v9 else (((ByteArray.size v2) : Nat) : Int))
 bif (decide (((0 : Int) ≤ v10) ∧ ((v10 ≤ (((ByteArray.size v2) : Nat) : Int)) ∧ ((((ByteArray.size v2) : Nat) : Int) ≤ (((ByteArray.size v2) : Nat) : Int))))) then (let v11 : ByteArray := (ByteArray.extract v2 (Int.toNat v10) (Int.toNat (((ByteArray.size v2) : Nat) : Int)))
 bif (Nat.ble ((ByteArray.size v6) + (ByteArray.size v11)) 9223372036854775807) then (let v12 : ByteArray := (v6 ++ v11)
 K ((mset Ty.str v3 v12 b0), ())) else (none)) else (none)) else (none)) else (none)) else (bif (v0 == (1 : Int)) then (let v13 : ByteArray := c.2.1
 let v14 : ByteArray := c.2.1
 let v15 : ByteArray := (Option.getD (mget Ty.str v14 b0) ByteArray.empty)
 let v16 : Int := c.2.2.2.1
 bif (decide (((0 : Int) ≤ (0 : Int)) ∧ (((0 : Int) ≤ v16) ∧ (v16 ≤ (((ByteArray.size v15) : Nat) : Int))))) then (K ((mset Ty.str v13 (ByteArray.extract v15 0 (Int.toNat v16)) b0), ())) else (none)) else (bif (v0 == (2 : Int)) then (let v17 : ByteArray := c.2.1
 let v18 : ByteArray := (Option.getD (mget Ty.str v17 b0) ByteArray.empty)
 let v19 : ByteArray := c.2.1
 let v20 : ByteArray := c.2.2.1
 K ((mset Ty.str v20 v18 (mdel Ty.str v19 b0)), ())) else (bif (v0 == (3 : Int)) then (let v21 : ByteArray := c.2.1
 K ((mdel Ty.str v21 b0), ())) else (K (b0, ())))))
def Q0D (k : Nat) (c : QeA) (b0 : QeG) : Option Q0D.τ := Q0D.c k c b0 some
def Q0D.T : Q13 := ⟨[.mp 0, .dat Qex], [.mpd .str .str], 1⟩
def Q0D.os : List Out := [⟨.ret, [.auto 1], ⟨[], [.mpd .str .str]⟩⟩]
def Q0D.sem (k : Nat) : QP := Q14 Q0D.T Q0D.os fun x => Q0D k x.1 x.2.1
noncomputable def Q0D.ctx (k : Nat) : Ctx := ⟨Try.prog, gam []⟩
theorem Q0D.gok (k : Nat) : ∀ f, Qw Try.prog f ((Q0D.ctx k).Γ f) := Q0b
def Q0D.ann (k : Nat) : Ann := .nil
theorem Q0D.body (k : Nat) : Q16 (Q0D.ctx k) Try.f77 (Func.code Try.f77) (Q0D.ann k) Q0D.T Q0D.os (fun x K => Q0D.c k x.1 x.2.1 K) := by
 intro ρ x K; kernel_rfl
theorem Q0D.sem_ok (k : Nat) : Qw Try.prog 77 (Q0D.sem k) :=
 Q0r (C := Q0D.ctx k) (Q0D.gok k) Try.mix (c := Func.code Try.f77) (ann := Q0D.ann k) (T := Q0D.T) (os := Q0D.os) (fun x K => Q0D.c k x.1 x.2.1 K) Try.func77 (by kernel_rfl) (by kernel_rfl) Q1.nil (Q0D.body k) (by kernel_rfl) (by kernel_rfl) (by kernel_rfl)
abbrev Q0s.τ : Type := Qev ⊕ Qep 
def Q0s.c (k : Nat) {ρ : Type} (c : QeA) (b0 : QeC) (b1 : QeG) (b2 : QeG) (K : Q0s.τ → Option ρ) : Option ρ :=
 (Qh k false ((), ((), ((), (b0.2.2.2.1, ((), (b0.2.2.2.2.2.1, ())))))) b1 b2).bind fun t0 => bif t0.1 then (K (.inl ((7 : Int), (((), ((), ((), (t0.2.1.2.2.2.1, ((), (t0.2.1.2.2.2.2.2.1, ())))))), (t0.2.2.1, (t0.2.2.2.1, ())))))) else ((Q0D k (c.1, (c.2.1, (c.2.2.1, (c.2.2.2.1, (c.2.2.2.2.1, ()))))) t0.2.2.2.1).bind fun t1 => bif (Nat.ble ((List.length (List.set (List.replicate 1 ((0 : Int), (ByteArray.empty, (ByteArray.empty, ((0 : Int), (ByteArray.empty, ())))))) 0 (c.1, (c.2.1, (c.2.2.1, (c.2.2.2.1, (c.2.2.2.2.1, ()))))))) * 64) 140737488355328) then (let v2 : Int := t0.2.1.2.2.2.1
 let v3 : Int := (IntKind.wrap IntKind.i64 (v2 + (1 : Int)))
 K (.inr ((0 : Int), (((), ((), ((), (v3, ((), (t0.2.1.2.2.2.2.2.1, ())))))), (t0.2.2.1, (t1.1, ((List.set (List.replicate 1 ((0 : Int), (ByteArray.empty, (ByteArray.empty, ((0 : Int), (ByteArray.empty, ())))))) 0 (c.1, (c.2.1, (c.2.2.1, (c.2.2.2.1, (c.2.2.2.2.1, ())))))), ()))))))) else (none))
def Q0s (k : Nat) (c : QeA) (b0 : QeC) (b1 : QeG) (b2 : QeG) : Option Q0s.τ := Q0s.c k c b0 b1 b2 some
def Q0s.T : Q13 := ⟨[.ptr 0 [], .dat Qex], [.pair (.mp 1) (.pair (.mp 2) (.pair (.nils) (.pair (.dat (.int .i64)) (.pair (.nils) (.dat QeH))))), .mpd .str .str, .mpd .str .str], 3⟩
def Q0s.os : List Out := [⟨.ret, [.freeze (.slot 0), .auto 3], ⟨[.dat (.int .i64)], [.pair (.mp 1) (.pair (.mp 2) (.pair (.nils) (.pair (.dat (.int .i64)) (.pair (.nils) (.dat QeH))))), .mpd .str .str, .mpd .str .str]⟩⟩, ⟨.ret, [.freeze (.slot 0), .auto 3], ⟨[.dat (.int .i64)], [.pair (.mp 1) (.pair (.mp 2) (.pair (.vsl 3) (.pair (.dat (.int .i64)) (.pair (.nils) (.dat QeH))))), .mpd .str .str, .mpd .str .str, .vec Qex]⟩⟩]
def Q0s.sem (k : Nat) : QP := Q14 Q0s.T Q0s.os fun x => Q0s k x.1 x.2.1 x.2.2.1 x.2.2.2.1
noncomputable def Q0s.ctx (k : Nat) : Ctx := ⟨Try.prog, gam [(76, (Qh.sem k)), (77, (Q0D.sem k))]⟩
theorem Q0s.gok (k : Nat) : ∀ f, Qw Try.prog f ((Q0s.ctx k).Γ f) := (Qe (Qh.sem_ok k) (Qe (Q0D.sem_ok k) Q0b))
def Q0s.ann (k : Nat) : Ann := .nil
theorem Q0s.body (k : Nat) : Q16 (Q0s.ctx k) Try.f74 (Func.code Try.f74) (Q0s.ann k) Q0s.T Q0s.os (fun x K => Q0s.c k x.1 x.2.1 x.2.2.1 x.2.2.2.1 K) := by
 intro ρ x K; kernel_rfl
theorem Q0s.sem_ok (k : Nat) : Qw Try.prog 74 (Q0s.sem k) :=
 Q0r (C := Q0s.ctx k) (Q0s.gok k) Try.mix (c := Func.code Try.f74) (ann := Q0s.ann k) (T := Q0s.T) (os := Q0s.os) (fun x K => Q0s.c k x.1 x.2.1 x.2.2.1 x.2.2.2.1 K) Try.func74 (by kernel_rfl) (by kernel_rfl) Q1.nil (Q0s.body k) (by kernel_rfl) (by kernel_rfl) (by kernel_rfl)
abbrev Q0g.τ : Type := Qev ⊕ Qep 
def Q0g.c (k : Nat) {ρ : Type} (name : ByteArray) (at_2 : Int) (s : ByteArray) (b0 : QeC) (b1 : QeG) (b2 : QeG) (K : Q0g.τ → Option ρ) : Option ρ :=
  (Q0E k (List.set (List.replicate 1 ByteArray.empty) 0 name) ((), ((), ((), (b0.2.2.2.1, ((), (b0.2.2.2.2.2.1, ())))))) b1 b2).bind fun t0 => bif (t0.1 != (0 : Int)) then (K (.inl (t0.1, (((), ((), ((), (t0.2.1.2.2.2.1, ((), (t0.2.1.2.2.2.2.2.1, ())))))), (t0.2.2.1, (t0.2.2.2.1, ())))))) else (let v1 : ByteArray := (Option.getD (mget Ty.str name t0.2.2.2.1) ByteArray.empty)
  bif (decide (at_2 < (0 : Int))) then (K (.inl ((1 : Int), (((), ((), ((), (t0.2.1.2.2.2.1, ((), (t0.2.1.2.2.2.2.2.1, ())))))), (t0.2.2.1, (t0.2.2.2.1, ())))))) else (bif (decide (at_2 > (((ByteArray.size v1) : Nat) : Int))) then (K (.inl ((1 : Int), (((), ((), ((), (t0.2.1.2.2.2.1, ((), (t0.2.1.2.2.2.2.2.1, ())))))), (t0.2.2.1, (t0.2.2.2.1, ())))))) else (let v2 : Int := (IntKind.wrap IntKind.i64 ((16777216 : Int) - at_2))
  bif (decide ((((ByteArray.size s) : Nat) : Int) > v2)) then (K (.inl ((71 : Int), (((), ((), ((), (t0.2.1.2.2.2.1, ((), (t0.2.1.2.2.2.2.2.1, ())))))), (t0.2.2.1, (t0.2.2.2.1, ())))))) else (bif (!(Option.isSome (mget Ty.str name t0.2.2.2.1))) then (let v3 : Int := (((List.length t0.2.2.2.1) : Nat) : Int)
  bif (decide (v3 ≥ (64 : Int))) then (K (.inl ((71 : Int), (((), ((), ((), (t0.2.1.2.2.2.1, ((), (t0.2.1.2.2.2.2.2.1, ())))))), (t0.2.2.1, (t0.2.2.2.1, ())))))) else ((Q0s k ((0 : Int), (name, ((⟨(List.toArray [])⟩ : ByteArray), (at_2, (s, ()))))) ((), ((), ((), (t0.2.1.2.2.2.1, ((), (t0.2.1.2.2.2.2.2.1, ())))))) t0.2.2.1 t0.2.2.2.1).bind fun t4 => (match t4 with
 | .inl t5 => (K (.inl (t5.1, (((), ((), ((), (t5.2.1.2.2.2.1, ((), (t5.2.1.2.2.2.2.2.1, ())))))), (t5.2.2.1, (t5.2.2.2.1, ()))))))
 | .inr (t6) => (K (.inr (t6.1, (((), ((), ((), (t6.2.1.2.2.2.1, ((), (t6.2.1.2.2.2.2.2.1, ())))))), (t6.2.2.1, (t6.2.2.2.1, (t6.2.2.2.2.1, ())))))))))) else ((Q0s k ((0 : Int), (name, ((⟨(List.toArray [])⟩ : ByteArray), (at_2, (s, ()))))) ((), ((), ((), (t0.2.1.2.2.2.1, ((), (t0.2.1.2.2.2.2.2.1, ())))))) t0.2.2.1 t0.2.2.2.1).bind fun t7 => (match t7 with
 | .inl t8 => (K (.inl (t8.1, (((), ((), ((), (t8.2.1.2.2.2.1, ((), (t8.2.1.2.2.2.2.2.1, ())))))), (t8.2.2.1, (t8.2.2.2.1, ()))))))
 | .inr (t9) => (K (.inr (t9.1, (((), ((), ((), (t9.2.1.2.2.2.1, ((), (t9.2.1.2.2.2.2.2.1, ())))))), (t9.2.2.1, (t9.2.2.2.1, (t9.2.2.2.2.1, ())))))))))))))
def Q0g (k : Nat) (name : ByteArray) (at_2 : Int) (s : ByteArray) (b0 : QeC) (b1 : QeG) (b2 : QeG) : Option Q0g.τ := Q0g.c k name at_2 s b0 b1 b2 some
def Q0g.T : Q13 := ⟨[.ptr 0 [], .dat .str, .dat (.int .i64), .dat .str], [.pair (.mp 1) (.pair (.mp 2) (.pair (.nils) (.pair (.dat (.int .i64)) (.pair (.nils) (.dat QeH))))), .mpd .str .str, .mpd .str .str], 3⟩
def Q0g.os : List Out := [⟨.ret, [.freeze (.slot 0), .auto 3], ⟨[.dat (.int .i64)], [.pair (.mp 1) (.pair (.mp 2) (.pair (.nils) (.pair (.dat (.int .i64)) (.pair (.nils) (.dat QeH))))), .mpd .str .str, .mpd .str .str]⟩⟩, ⟨.ret, [.freeze (.slot 0), .auto 3], ⟨[.dat (.int .i64)], [.pair (.mp 1) (.pair (.mp 2) (.pair (.vsl 3) (.pair (.dat (.int .i64)) (.pair (.nils) (.dat QeH))))), .mpd .str .str, .mpd .str .str, .vec Qex]⟩⟩]
def Q0g.sem (k : Nat) : QP := Q14 Q0g.T Q0g.os fun x => Q0g k x.1 x.2.1 x.2.2.1 x.2.2.2.1 x.2.2.2.2.1 x.2.2.2.2.2.1
noncomputable def Q0g.ctx (k : Nat) : Ctx := ⟨Try.prog, gam [(79, (Q0E.sem k)), (74, (Q0s.sem k))]⟩
theorem Q0g.gok (k : Nat) : ∀ f, Qw Try.prog f ((Q0g.ctx k).Γ f) := (Qe (Q0E.sem_ok k) (Qe (Q0s.sem_ok k) Q0b))
def Q0g.ann (k : Nat) : Ann := .nil
theorem Q0g.body (k : Nat) : Q16 (Q0g.ctx k) Try.f72 (Func.code Try.f72) (Q0g.ann k) Q0g.T Q0g.os (fun x K => Q0g.c k x.1 x.2.1 x.2.2.1 x.2.2.2.1 x.2.2.2.2.1 x.2.2.2.2.2.1 K) := by
 intro ρ x K; kernel_rfl
theorem Q0g.sem_ok (k : Nat) : Qw Try.prog 72 (Q0g.sem k) :=
 Q0r (C := Q0g.ctx k) (Q0g.gok k) Try.mix (c := Func.code Try.f72) (ann := Q0g.ann k) (T := Q0g.T) (os := Q0g.os) (fun x K => Q0g.c k x.1 x.2.1 x.2.2.1 x.2.2.2.1 x.2.2.2.2.1 x.2.2.2.2.2.1 K) Try.func72 (by kernel_rfl) (by kernel_rfl) Q1.nil (Q0g.body k) (by kernel_rfl) (by kernel_rfl) (by kernel_rfl)
def Q10.c (k : Nat) {ρ : Type} (name : ByteArray) (K : Bool × Unit → Option ρ) : Option ρ :=
  (Q19 k ).bind fun t0 => (Q0g k name (0 : Int) (⟨(List.toArray [])⟩ : ByteArray) ((), ((), ((), (t0.1.2.2.2.1, ((), (t0.1.2.2.2.2.2.1, ())))))) t0.2.1 t0.2.2.1).bind fun t1 => (match t1 with
 | .inl t2 => (K ((t2.1 == (0 : Int)), ()))
 | .inr (t3) => (K ((t3.1 == (0 : Int)), ())))
def Q10 (k : Nat) (name : ByteArray) : Option (Bool × Unit) := Q10.c k name some
def Q10.tin : List Ty := [.str]
def Q10.tout : List Ty := [.bool]
def Q10.sem (k : Nat) : QP := Q15 Q10.tin Q10.tout fun x => Q10 k x.1
noncomputable def Q10.ctx (k : Nat) : Ctx := ⟨Try.prog, gam [(15, (Q19.sem k)), (72, (Q0g.sem k))]⟩
theorem Q10.gok (k : Nat) : ∀ f, Qw Try.prog f ((Q10.ctx k).Γ f) := (Qe (Q19.sem_ok k) (Qe (Q0g.sem_ok k) Q0b))
def Q10.ann (k : Nat) : Ann := .nil
theorem Q10.body (k : Nat) : Q1n (Q10.ctx k) Try.f50 (Func.code Try.f50) (Q10.ann k) Q10.tin Q10.tout (fun x K => Q10.c k x.1 K) := by
 intro ρ x K; kernel_rfl
theorem Q10.sem_ok (k : Nat) : Qw Try.prog 50 (Q10.sem k) :=
 Q11 (C := Q10.ctx k) (Q10.gok k) Try.mix (c := Func.code Try.f50) (ann := Q10.ann k) (tin := Q10.tin) (tout := Q10.tout) (fun x K => Q10.c k x.1 K) Try.func50 (by kernel_rfl) (by kernel_rfl) Q1.nil (Q10.body k)
abbrev Q0c.τ : Type := Qes 
def Q0c.c (k : Nat) {ρ : Type} (name : ByteArray) (b0 : QeC) (b1 : QeG) (b2 : QeG) (K : Q0c.τ → Option ρ) : Option ρ :=
 (Q0E k (List.set (List.replicate 1 ByteArray.empty) 0 name) ((), ((), ((), (b0.2.2.2.1, ((), (b0.2.2.2.2.2.1, ())))))) b1 b2).bind fun t0 => bif (t0.1 != (0 : Int)) then (K ((⟨(List.toArray [])⟩ : ByteArray), (t0.1, (((), ((), ((), (t0.2.1.2.2.2.1, ((), (t0.2.1.2.2.2.2.2.1, ())))))), (t0.2.2.1, (t0.2.2.2.1, ())))))) else (let v1 : ByteArray := (Option.getD (mget Ty.str name t0.2.2.2.1) ByteArray.empty)
 bif (!(Option.isSome (mget Ty.str name t0.2.2.2.1))) then (K ((⟨(List.toArray [])⟩ : ByteArray), ((2 : Int), (((), ((), ((), (t0.2.1.2.2.2.1, ((), (t0.2.1.2.2.2.2.2.1, ())))))), (t0.2.2.1, (t0.2.2.2.1, ())))))) else (K (v1, ((0 : Int), (((), ((), ((), (t0.2.1.2.2.2.1, ((), (t0.2.1.2.2.2.2.2.1, ())))))), (t0.2.2.1, (t0.2.2.2.1, ())))))))
def Q0c (k : Nat) (name : ByteArray) (b0 : QeC) (b1 : QeG) (b2 : QeG) : Option Q0c.τ := Q0c.c k name b0 b1 b2 some
def Q0c.T : Q13 := ⟨[.ptr 0 [], .dat .str], [.pair (.mp 1) (.pair (.mp 2) (.pair (.nils) (.pair (.dat (.int .i64)) (.pair (.nils) (.dat QeH))))), .mpd .str .str, .mpd .str .str], 3⟩
def Q0c.os : List Out := [⟨.ret, [.freeze (.slot 0), .freeze (.slot 1), .auto 3], ⟨[.dat .str, .dat (.int .i64)], [.pair (.mp 1) (.pair (.mp 2) (.pair (.nils) (.pair (.dat (.int .i64)) (.pair (.nils) (.dat QeH))))), .mpd .str .str, .mpd .str .str]⟩⟩]
def Q0c.sem (k : Nat) : QP := Q14 Q0c.T Q0c.os fun x => Q0c k x.1 x.2.1 x.2.2.1 x.2.2.2.1
noncomputable def Q0c.ctx (k : Nat) : Ctx := ⟨Try.prog, gam [(79, (Q0E.sem k))]⟩
theorem Q0c.gok (k : Nat) : ∀ f, Qw Try.prog f ((Q0c.ctx k).Γ f) := (Qe (Q0E.sem_ok k) Q0b)
def Q0c.ann (k : Nat) : Ann := .nil
theorem Q0c.body (k : Nat) : Q16 (Q0c.ctx k) Try.f73 (Func.code Try.f73) (Q0c.ann k) Q0c.T Q0c.os (fun x K => Q0c.c k x.1 x.2.1 x.2.2.1 x.2.2.2.1 K) := by
 intro ρ x K; kernel_rfl
theorem Q0c.sem_ok (k : Nat) : Qw Try.prog 73 (Q0c.sem k) :=
 Q0r (C := Q0c.ctx k) (Q0c.gok k) Try.mix (c := Func.code Try.f73) (ann := Q0c.ann k) (T := Q0c.T) (os := Q0c.os) (fun x K => Q0c.c k x.1 x.2.1 x.2.2.1 x.2.2.2.1 K) Try.func73 (by kernel_rfl) (by kernel_rfl) Q1.nil (Q0c.body k) (by kernel_rfl) (by kernel_rfl) (by kernel_rfl)
abbrev Q0A.τ : Type := Qes 
def Q0A.c (k : Nat) {ρ : Type} (name : ByteArray) (b0 : QeC) (b1 : QeG) (b2 : QeG) (K : Q0A.τ → Option ρ) : Option ρ :=
 (Q0c k name ((), ((), ((), (b0.2.2.2.1, ((), (b0.2.2.2.2.2.1, ())))))) b1 b2).bind fun t0 => let v1 : ByteArray := t0.1
 let v2 : Int := t0.2.1
 K (v1, (v2, (((), ((), ((), (t0.2.2.1.2.2.2.1, ((), (t0.2.2.1.2.2.2.2.2.1, ())))))), (t0.2.2.2.1, (t0.2.2.2.2.1, ())))))
def Q0A (k : Nat) (name : ByteArray) (b0 : QeC) (b1 : QeG) (b2 : QeG) : Option Q0A.τ := Q0A.c k name b0 b1 b2 some
def Q0A.T : Q13 := ⟨[.ptr 0 [], .dat .str], [.pair (.mp 1) (.pair (.mp 2) (.pair (.nils) (.pair (.dat (.int .i64)) (.pair (.nils) (.dat QeH))))), .mpd .str .str, .mpd .str .str], 3⟩
def Q0A.os : List Out := [⟨.ret, [.freeze (.slot 0), .freeze (.slot 1), .auto 3], ⟨[.dat .str, .dat (.int .i64)], [.pair (.mp 1) (.pair (.mp 2) (.pair (.nils) (.pair (.dat (.int .i64)) (.pair (.nils) (.dat QeH))))), .mpd .str .str, .mpd .str .str]⟩⟩]
def Q0A.sem (k : Nat) : QP := Q14 Q0A.T Q0A.os fun x => Q0A k x.1 x.2.1 x.2.2.1 x.2.2.2.1
noncomputable def Q0A.ctx (k : Nat) : Ctx := ⟨Try.prog, gam [(73, (Q0c.sem k))]⟩
theorem Q0A.gok (k : Nat) : ∀ f, Qw Try.prog f ((Q0A.ctx k).Γ f) := (Qe (Q0c.sem_ok k) Q0b)
def Q0A.ann (k : Nat) : Ann := .nil
theorem Q0A.body (k : Nat) : Q16 (Q0A.ctx k) Try.f51 (Func.code Try.f51) (Q0A.ann k) Q0A.T Q0A.os (fun x K => Q0A.c k x.1 x.2.1 x.2.2.1 x.2.2.2.1 K) := by
 intro ρ x K; kernel_rfl
theorem Q0A.sem_ok (k : Nat) : Qw Try.prog 51 (Q0A.sem k) :=
 Q0r (C := Q0A.ctx k) (Q0A.gok k) Try.mix (c := Func.code Try.f51) (ann := Q0A.ann k) (T := Q0A.T) (os := Q0A.os) (fun x K => Q0A.c k x.1 x.2.1 x.2.2.1 x.2.2.2.1 K) Try.func51 (by kernel_rfl) (by kernel_rfl) Q1.nil (Q0A.body k) (by kernel_rfl) (by kernel_rfl) (by kernel_rfl)
abbrev Q0N.τ : Type := (QeF × Unit)
def Q0N.c (k : Nat) {ρ : Type} (s : ByteArray) (K : Q0N.τ → Option ρ) : Option ρ :=
 K ((s, ((0 : Int), ((0 : Int), ()))), ())
def Q0N (k : Nat) (s : ByteArray) : Option Q0N.τ := Q0N.c k s some
def Q0N.T : Q13 := ⟨[.dat .str], [], 0⟩
def Q0N.os : List Out := [⟨.ret, [.auto 0], ⟨[.ptr 0 []], [.dat QeB]⟩⟩]
def Q0N.sem (k : Nat) : QP := Q14 Q0N.T Q0N.os fun x => Q0N k x.1
noncomputable def Q0N.ctx (k : Nat) : Ctx := ⟨Try.prog, gam []⟩
theorem Q0N.gok (k : Nat) : ∀ f, Qw Try.prog f ((Q0N.ctx k).Γ f) := Q0b
def Q0N.ann (k : Nat) : Ann := .nil
theorem Q0N.body (k : Nat) : Q16 (Q0N.ctx k) Try.f43 (Func.code Try.f43) (Q0N.ann k) Q0N.T Q0N.os (fun x K => Q0N.c k x.1 K) := by
 intro ρ x K; kernel_rfl
theorem Q0N.sem_ok (k : Nat) : Qw Try.prog 43 (Q0N.sem k) :=
 Q0r (C := Q0N.ctx k) (Q0N.gok k) Try.mix (c := Func.code Try.f43) (ann := Q0N.ann k) (T := Q0N.T) (os := Q0N.os) (fun x K => Q0N.c k x.1 K) Try.func43 (by kernel_rfl) (by kernel_rfl) Q1.nil (Q0N.body k) (by kernel_rfl) (by kernel_rfl) (by kernel_rfl)
abbrev Q0x.τ : Type := QeD 
def Q0x.c (k : Nat) {ρ : Type} (b0 : QeF) (K : Q0x.τ → Option ρ) : Option ρ :=
 let v0 : Int := b0.2.2.1
 K (v0, ((b0.1, (b0.2.1, (b0.2.2.1, ()))), ()))
def Q0x (k : Nat) (b0 : QeF) : Option Q0x.τ := Q0x.c k b0 some
def Q0x.T : Q13 := ⟨[.ptr 0 []], [.dat QeB], 1⟩
def Q0x.os : List Out := [⟨.ret, [.freeze (.slot 0), .auto 1], ⟨[.dat (.int .i64)], [.dat QeB]⟩⟩]
def Q0x.sem (k : Nat) : QP := Q14 Q0x.T Q0x.os fun x => Q0x k x.1
noncomputable def Q0x.ctx (k : Nat) : Ctx := ⟨Try.prog, gam []⟩
theorem Q0x.gok (k : Nat) : ∀ f, Qw Try.prog f ((Q0x.ctx k).Γ f) := Q0b
def Q0x.ann (k : Nat) : Ann := .nil
theorem Q0x.body (k : Nat) : Q16 (Q0x.ctx k) Try.f47 (Func.code Try.f47) (Q0x.ann k) Q0x.T Q0x.os (fun x K => Q0x.c k x.1 K) := by
 intro ρ x K; kernel_rfl
theorem Q0x.sem_ok (k : Nat) : Qw Try.prog 47 (Q0x.sem k) :=
 Q0r (C := Q0x.ctx k) (Q0x.gok k) Try.mix (c := Func.code Try.f47) (ann := Q0x.ann k) (T := Q0x.T) (os := Q0x.os) (fun x K => Q0x.c k x.1 K) Try.func47 (by kernel_rfl) (by kernel_rfl) Q1.nil (Q0x.body k) (by kernel_rfl) (by kernel_rfl) (by kernel_rfl)
abbrev Q0C.τ : Type := QeD 
def Q0C.c (k : Nat) {ρ : Type} (b0 : QeF) (K : Q0C.τ → Option ρ) : Option ρ :=
 let v0 : ByteArray := b0.1
 let v1 : Int := b0.2.1
 let v2 : Int := (IntKind.wrap IntKind.i64 ((((ByteArray.size v0) : Nat) : Int) - v1))
 K (v2, ((b0.1, (b0.2.1, (b0.2.2.1, ()))), ()))
def Q0C (k : Nat) (b0 : QeF) : Option Q0C.τ := Q0C.c k b0 some
def Q0C.T : Q13 := ⟨[.ptr 0 []], [.dat QeB], 1⟩
def Q0C.os : List Out := [⟨.ret, [.freeze (.slot 0), .auto 1], ⟨[.dat (.int .i64)], [.dat QeB]⟩⟩]
def Q0C.sem (k : Nat) : QP := Q14 Q0C.T Q0C.os fun x => Q0C k x.1
noncomputable def Q0C.ctx (k : Nat) : Ctx := ⟨Try.prog, gam []⟩
theorem Q0C.gok (k : Nat) : ∀ f, Qw Try.prog f ((Q0C.ctx k).Γ f) := Q0b
def Q0C.ann (k : Nat) : Ann := .nil
theorem Q0C.body (k : Nat) : Q16 (Q0C.ctx k) Try.f71 (Func.code Try.f71) (Q0C.ann k) Q0C.T Q0C.os (fun x K => Q0C.c k x.1 K) := by
 intro ρ x K; kernel_rfl
theorem Q0C.sem_ok (k : Nat) : Qw Try.prog 71 (Q0C.sem k) :=
 Q0r (C := Q0C.ctx k) (Q0C.gok k) Try.mix (c := Func.code Try.f71) (ann := Q0C.ann k) (T := Q0C.T) (os := Q0C.os) (fun x K => Q0C.c k x.1 K) Try.func71 (by kernel_rfl) (by kernel_rfl) Q1.nil (Q0C.body k) (by kernel_rfl) (by kernel_rfl) (by kernel_rfl)
abbrev Q04.τ : Type := (ByteArray × QeF × Unit)
def Q04.c (k : Nat) {ρ : Type} (n : Int) (b0 : QeF) (K : Q04.τ → Option ρ) : Option ρ :=
 (Q0x k (b0.1, (b0.2.1, (b0.2.2.1, ())))).bind fun t0 => bif (t0.1 != (0 : Int)) then (K ((⟨(List.toArray [])⟩ : ByteArray), ((t0.2.1.1, (t0.2.1.2.1, (t0.2.1.2.2.1, ()))), ()))) else (bif (decide (n < (0 : Int))) then (K ((⟨(List.toArray [])⟩ : ByteArray), ((t0.2.1.1, (t0.2.1.2.1, ((1 : Int), ()))), ()))) else ((Q0C k (t0.2.1.1, (t0.2.1.2.1, (t0.2.1.2.2.1, ())))).bind fun t1 => bif (decide (n > t1.1)) then (K ((⟨(List.toArray [])⟩ : ByteArray), ((t1.2.1.1, (t1.2.1.2.1, ((4 : Int), ()))), ()))) else (let v2 : Int := t1.2.1.2.1
 let v3 : Int := (IntKind.wrap IntKind.i64 (v2 + n))
 let v4 : ByteArray := t1.2.1.1
 let v5 : Int := (IntKind.wrap IntKind.i64 (v3 - n))
 bif (decide (((0 : Int) ≤ v5) ∧ ((v5 ≤ v3) ∧ (v3 ≤ (((ByteArray.size v4) : Nat) : Int))))) then (K ((ByteArray.extract v4 (Int.toNat v5) (Int.toNat v3)), ((t1.2.1.1, (v3, (t1.2.1.2.2.1, ()))), ()))) else (none))))
def Q04 (k : Nat) (n : Int) (b0 : QeF) : Option Q04.τ := Q04.c k n b0 some
def Q04.T : Q13 := ⟨[.ptr 0 [], .dat (.int .i64)], [.dat QeB], 1⟩
def Q04.os : List Out := [⟨.ret, [.freeze (.slot 0), .auto 1], ⟨[.dat .str], [.dat QeB]⟩⟩]
def Q04.sem (k : Nat) : QP := Q14 Q04.T Q04.os fun x => Q04 k x.1 x.2.1
noncomputable def Q04.ctx (k : Nat) : Ctx := ⟨Try.prog, gam [(47, (Q0x.sem k)), (71, (Q0C.sem k))]⟩
theorem Q04.gok (k : Nat) : ∀ f, Qw Try.prog f ((Q04.ctx k).Γ f) := (Qe (Q0x.sem_ok k) (Qe (Q0C.sem_ok k) Q0b))
def Q04.ann (k : Nat) : Ann := .nil
theorem Q04.body (k : Nat) : Q16 (Q04.ctx k) Try.f46 (Func.code Try.f46) (Q04.ann k) Q04.T Q04.os (fun x K => Q04.c k x.1 x.2.1 K) := by
 intro ρ x K; kernel_rfl
theorem Q04.sem_ok (k : Nat) : Qw Try.prog 46 (Q04.sem k) :=
 Q0r (C := Q04.ctx k) (Q04.gok k) Try.mix (c := Func.code Try.f46) (ann := Q04.ann k) (T := Q04.T) (os := Q04.os) (fun x K => Q04.c k x.1 x.2.1 K) Try.func46 (by kernel_rfl) (by kernel_rfl) Q1.nil (Q04.body k) (by kernel_rfl) (by kernel_rfl) (by kernel_rfl)
abbrev Q0P.l0.σ : Type := ByteArray × Int × Int × Int × Unit
abbrev Q0P.l0.τ : Type := (Int × Unit)
def Q0P.l0.r (k : Nat) {ρ : Type} (x : Q0P.l0.σ) (kn : Q0P.l0.σ → Option ρ) (ke : Q0P.l0.τ → Option ρ) : Option ρ :=
 bif (decide (x.2.2.2.1 < x.2.2.1)) then (bif (decide (((0 : Int) ≤ x.2.2.2.1) ∧ (x.2.2.2.1 < (((ByteArray.size x.1) : Nat) : Int)))) then (let v0 : Int := (Q2S x.1 (Int.toNat x.2.2.2.1))
 let v1 : Int := (IntKind.wrap IntKind.i64 ((8 : Int) * x.2.2.2.1))
 bif (decide ((0 : Int) ≤ v1)) then (let v2 : Int := (Q0Z BinOp.or IntKind.u64 x.2.1 (Q2T IntKind.u64 (IntKind.wrap IntKind.u64 v0) v1))
 let v3 : Int := (IntKind.wrap IntKind.i64 (x.2.2.2.1 + (1 : Int)))
 kn (x.1, (v2, (x.2.2.1, (v3, ()))))) else (none)) else (none)) else (ke (x.2.1, ()))
def Q0P.l0 (k : Nat) : Nat → Q0P.l0.σ → Option Q0P.l0.τ := Q1j (Q0P.l0.r k)
def Q0P.l0.T : StT := ⟨.dat .str :: us 2 ++ .dat (.int .u64) :: us 2 ++ .dat (.int .i64) :: .dat (.int .i64) :: us 13, []⟩
def Q0P.l0.os : List Out := [⟨(.exit 0), [.mask [3], .auto 0], ⟨us 3 ++ .dat (.int .u64) :: us 17, []⟩⟩]
def Q0P.c (k : Nat) {ρ : Type} (s : ByteArray) (K : Int × Unit → Option ρ) : Option ρ :=
 (Q0P.l0 k k (s, ((0 : Int), ((((ByteArray.size s) : Nat) : Int), ((0 : Int), ()))))).bind fun t4 => K (t4.1, ())
def Q0P (k : Nat) (s : ByteArray) : Option (Int × Unit) := Q0P.c k s some
def Q0P.tin : List Ty := [.str]
def Q0P.tout : List Ty := [(.int .u64)]
def Q0P.sem (k : Nat) : QP := Q15 Q0P.tin Q0P.tout fun x => Q0P k x.1
noncomputable def Q0P.ctx (k : Nat) : Ctx := ⟨Try.prog, gam []⟩
theorem Q0P.gok (k : Nat) : ∀ f, Qw Try.prog f ((Q0P.ctx k).Γ f) := Q0b
theorem Q0P.l0.round (k : Nat) : Q1e (Q0P.ctx k) (Q0K (Func.code Try.f70) [1, 1, 0, 1, 0, 0]) (.nil) Q0P.l0.T [.mask [0, 3, 6, 7], .auto 0] Q0P.l0.os (Q0P.l0.r k) := by
 intro ρ x kn ke; kernel_rfl
theorem Q0P.l0.ok (k : Nat) : StOK 0 Try.prog (.loop (Q0K (Func.code Try.f70) [1, 1, 0, 1, 0, 0])) (Q01 Q0P.l0.T Q0P.l0.os (Q0P.l0 k k)) :=
 Q1i (C := Q0P.ctx k) (Q0P.gok k) Try.mix Q1.nil (by kernel_rfl) (by kernel_rfl) (by kernel_rfl) (Q0P.l0.round k) k
def Q0P.ann (k : Nat) : Ann := .node [] none (.nil) (.node [] none (.nil) (.node [] none (.node [] none (.nil) (.node [] none (.node [] (some (Q01 Q0P.l0.T Q0P.l0.os (Q0P.l0 k k))) .nil .nil) (.nil))) (.nil)))
theorem Q0P.body (k : Nat) : Q1n (Q0P.ctx k) Try.f70 (Func.code Try.f70) (Q0P.ann k) Q0P.tin Q0P.tout (fun x K => Q0P.c k x.1 K) := by
 intro ρ x K; kernel_rfl
theorem Q0P.sem_ok (k : Nat) : Qw Try.prog 70 (Q0P.sem k) :=
 Q11 (C := Q0P.ctx k) (Q0P.gok k) Try.mix (c := Func.code Try.f70) (ann := Q0P.ann k) (tin := Q0P.tin) (tout := Q0P.tout) (fun x K => Q0P.c k x.1 K) Try.func70 (by kernel_rfl) (by kernel_rfl) (Q1.seq Q1.nil (Q1.seq Q1.nil (Q1.seq (Q1.seq Q1.nil (Q1.block (Q1.loop (by kernel_rfl) (Q0P.l0.ok k)))) Q1.nil))) (Q0P.body k)
abbrev Q0F.τ : Type := QeD 
def Q0F.c (k : Nat) {ρ : Type} (b0 : QeF) (K : Q0F.τ → Option ρ) : Option ρ :=
 (Q04 k (8 : Int) (b0.1, (b0.2.1, (b0.2.2.1, ())))).bind fun t0 => (Q0P k t0.1).bind fun t1 => K (t1.1, ((t0.2.1.1, (t0.2.1.2.1, (t0.2.1.2.2.1, ()))), ()))
def Q0F (k : Nat) (b0 : QeF) : Option Q0F.τ := Q0F.c k b0 some
def Q0F.T : Q13 := ⟨[.ptr 0 []], [.dat QeB], 1⟩
def Q0F.os : List Out := [⟨.ret, [.freeze (.slot 0), .auto 1], ⟨[.dat (.int .u64)], [.dat QeB]⟩⟩]
def Q0F.sem (k : Nat) : QP := Q14 Q0F.T Q0F.os fun x => Q0F k x.1
noncomputable def Q0F.ctx (k : Nat) : Ctx := ⟨Try.prog, gam [(46, (Q04.sem k)), (70, (Q0P.sem k))]⟩
theorem Q0F.gok (k : Nat) : ∀ f, Qw Try.prog f ((Q0F.ctx k).Γ f) := (Qe (Q04.sem_ok k) (Qe (Q0P.sem_ok k) Q0b))
def Q0F.ann (k : Nat) : Ann := .nil
theorem Q0F.body (k : Nat) : Q16 (Q0F.ctx k) Try.f44 (Func.code Try.f44) (Q0F.ann k) Q0F.T Q0F.os (fun x K => Q0F.c k x.1 K) := by
 intro ρ x K; kernel_rfl
theorem Q0F.sem_ok (k : Nat) : Qw Try.prog 44 (Q0F.sem k) :=
 Q0r (C := Q0F.ctx k) (Q0F.gok k) Try.mix (c := Func.code Try.f44) (ann := Q0F.ann k) (T := Q0F.T) (os := Q0F.os) (fun x K => Q0F.c k x.1 K) Try.func44 (by kernel_rfl) (by kernel_rfl) Q1.nil (Q0F.body k) (by kernel_rfl) (by kernel_rfl) (by kernel_rfl)
abbrev Q0H.τ : Type := QeD 
def Q0H.c (k : Nat) {ρ : Type} (b0 : QeF) (K : Q0H.τ → Option ρ) : Option ρ :=
 (Q04 k (4 : Int) (b0.1, (b0.2.1, (b0.2.2.1, ())))).bind fun t0 => (Q0P k t0.1).bind fun t1 => let v2 : Int := (IntKind.wrap IntKind.u32 t1.1)
 K (v2, ((t0.2.1.1, (t0.2.1.2.1, (t0.2.1.2.2.1, ()))), ()))
def Q0H (k : Nat) (b0 : QeF) : Option Q0H.τ := Q0H.c k b0 some
def Q0H.T : Q13 := ⟨[.ptr 0 []], [.dat QeB], 1⟩
def Q0H.os : List Out := [⟨.ret, [.freeze (.slot 0), .auto 1], ⟨[.dat (.int .u32)], [.dat QeB]⟩⟩]
def Q0H.sem (k : Nat) : QP := Q14 Q0H.T Q0H.os fun x => Q0H k x.1
noncomputable def Q0H.ctx (k : Nat) : Ctx := ⟨Try.prog, gam [(46, (Q04.sem k)), (70, (Q0P.sem k))]⟩
theorem Q0H.gok (k : Nat) : ∀ f, Qw Try.prog f ((Q0H.ctx k).Γ f) := (Qe (Q04.sem_ok k) (Qe (Q0P.sem_ok k) Q0b))
def Q0H.ann (k : Nat) : Ann := .nil
theorem Q0H.body (k : Nat) : Q16 (Q0H.ctx k) Try.f45 (Func.code Try.f45) (Q0H.ann k) Q0H.T Q0H.os (fun x K => Q0H.c k x.1 K) := by
 intro ρ x K; kernel_rfl
theorem Q0H.sem_ok (k : Nat) : Qw Try.prog 45 (Q0H.sem k) :=
 Q0r (C := Q0H.ctx k) (Q0H.gok k) Try.mix (c := Func.code Try.f45) (ann := Q0H.ann k) (T := Q0H.T) (os := Q0H.os) (fun x K => Q0H.c k x.1 K) Try.func45 (by kernel_rfl) (by kernel_rfl) Q1.nil (Q0H.body k) (by kernel_rfl) (by kernel_rfl) (by kernel_rfl)
abbrev Q0L.τ : Type := QeD 
def Q0L.c (k : Nat) {ρ : Type} (b0 : QeF) (K : Q0L.τ → Option ρ) : Option ρ :=
 let v0 : Int := b0.2.1
 K (v0, ((b0.1, (b0.2.1, (b0.2.2.1, ()))), ()))
def Q0L (k : Nat) (b0 : QeF) : Option Q0L.τ := Q0L.c k b0 some
def Q0L.T : Q13 := ⟨[.ptr 0 []], [.dat QeB], 1⟩
def Q0L.os : List Out := [⟨.ret, [.freeze (.slot 0), .auto 1], ⟨[.dat (.int .i64)], [.dat QeB]⟩⟩]
def Q0L.sem (k : Nat) : QP := Q14 Q0L.T Q0L.os fun x => Q0L k x.1
noncomputable def Q0L.ctx (k : Nat) : Ctx := ⟨Try.prog, gam []⟩
theorem Q0L.gok (k : Nat) : ∀ f, Qw Try.prog f ((Q0L.ctx k).Γ f) := Q0b
def Q0L.ann (k : Nat) : Ann := .nil
theorem Q0L.body (k : Nat) : Q16 (Q0L.ctx k) Try.f48 (Func.code Try.f48) (Q0L.ann k) Q0L.T Q0L.os (fun x K => Q0L.c k x.1 K) := by
 intro ρ x K; kernel_rfl
theorem Q0L.sem_ok (k : Nat) : Qw Try.prog 48 (Q0L.sem k) :=
 Q0r (C := Q0L.ctx k) (Q0L.gok k) Try.mix (c := Func.code Try.f48) (ann := Q0L.ann k) (T := Q0L.T) (os := Q0L.os) (fun x K => Q0L.c k x.1 K) Try.func48 (by kernel_rfl) (by kernel_rfl) Q1.nil (Q0L.body k) (by kernel_rfl) (by kernel_rfl) (by kernel_rfl)
abbrev Qd.p0.σ : Type := ByteArray × Int × Int × Unit
abbrev Qd.p0.τ : Type := (ByteArray × Int × Int × Unit) ⊕ (ByteArray × Int × Int × (List ByteArray) × Unit)
def Qd.p0.r (k : Nat) {ρ : Type} (x : Qd.p0.σ) (K : Qd.p0.τ → Option ρ) : Option ρ :=
 bif (decide (((0 : Int) ≤ x.2.2.1) ∧ ((x.2.2.1 ≤ (((ByteArray.size x.1) : Nat) : Int)) ∧ ((((ByteArray.size x.1) : Nat) : Int) ≤ (((ByteArray.size x.1) : Nat) : Int))))) then (let v3 : ByteArray := (ByteArray.extract x.1 (Int.toNat x.2.2.1) (Int.toNat (((ByteArray.size x.1) : Nat) : Int)))
 (Q0N k v3).bind fun t4 => (Q0H k (t4.1.1, (t4.1.2.1, (t4.1.2.2.1, ())))).bind fun t5 => let v6 : Int := (IntKind.wrap IntKind.i64 t5.1)
 (Q0F k (t5.2.1.1, (t5.2.1.2.1, (t5.2.1.2.2.1, ())))).bind fun t7 => (Q04 k v6 (t7.2.1.1, (t7.2.1.2.1, (t7.2.1.2.2.1, ())))).bind fun t8 => (Q04 k (4 : Int) (t8.2.1.1, (t8.2.1.2.1, (t8.2.1.2.2.1, ())))).bind fun t9 => (Q0x k (t9.2.1.1, (t9.2.1.2.1, (t9.2.1.2.2.1, ())))).bind fun t10 => bif (t10.1 != (0 : Int)) then (K (.inl (x.1, (x.2.1, (x.2.2.1, ()))))) else ((Q05 k x.2.1 (IntKind.wrap IntKind.u64 (0 : Int)) t8.1).bind fun t11 => let v12 : ByteArray := t11.1
 let v13 : Int := t11.2.1
 bif (v13 != (0 : Int)) then (K (.inl (x.1, (x.2.1, (x.2.2.1, ()))))) else ((Q0L k (t10.2.1.1, (t10.2.1.2.1, (t10.2.1.2.2.1, ())))).bind fun t14 => let v15 : Int := (IntKind.wrap IntKind.i64 (x.2.2.1 + t14.1))
 bif (decide (((0 : Int) ≤ x.2.2.1) ∧ ((x.2.2.1 ≤ v15) ∧ (v15 ≤ (((ByteArray.size x.1) : Nat) : Int))))) then (let v16 : ByteArray := (ByteArray.extract x.1 (Int.toNat x.2.2.1) (Int.toNat v15))
 bif (!(Q1J v16 v12)) then (K (.inl (x.1, (x.2.1, (x.2.2.1, ()))))) else (bif (Nat.ble ((List.length (List.set (List.replicate 1 ByteArray.empty) 0 t8.1)) * 16) 140737488355328) then ((Q0L k (t14.2.1.1, (t14.2.1.2.1, (t14.2.1.2.2.1, ())))).bind fun t17 => let v18 : Int := (IntKind.wrap IntKind.i64 (x.2.2.1 + t17.1))
 K (.inr (x.1, (x.2.1, (v18, ((List.set (List.replicate 1 ByteArray.empty) 0 t8.1), ())))))) else (none))) else (none)))) else (none)
def Qd.p0 (k : Nat) (x : Qd.p0.σ) : Option Qd.p0.τ := Qd.p0.r k x some
def Qd.p0.T : StT := ⟨.dat .str :: us 5 ++ .dat (.int .u64) :: .nils :: .dat (.int .i64) :: us 70, []⟩
def Qd.p0.os : List Out := [⟨(.exit 0), [.mask [0, 6, 7, 8], .auto 0], ⟨.dat .str :: us 5 ++ .dat (.int .u64) :: .nils :: .dat (.int .i64) :: us 70, []⟩⟩, ⟨.normal, [.mask [0, 6, 7, 8], .auto 0], ⟨.dat .str :: us 5 ++ .dat (.int .u64) :: .vsl 0 :: .dat (.int .i64) :: us 70, [.vec .str]⟩⟩]
abbrev Qd.l1.σ : Type := ByteArray × Int × Int × (List ByteArray) × Unit
abbrev Qd.l1.τ : Type := (ByteArray × Int × Int × (List ByteArray) × Unit)
def Qd.l1.r (k : Nat) {ρ : Type} (x : Qd.l1.σ) (kn : Qd.l1.σ → Option ρ) (ke : Qd.l1.τ → Option ρ) : Option ρ :=
 bif (decide (((0 : Int) ≤ x.2.2.1) ∧ ((x.2.2.1 ≤ (((ByteArray.size x.1) : Nat) : Int)) ∧ ((((ByteArray.size x.1) : Nat) : Int) ≤ (((ByteArray.size x.1) : Nat) : Int))))) then (let v24 : ByteArray := (ByteArray.extract x.1 (Int.toNat x.2.2.1) (Int.toNat (((ByteArray.size x.1) : Nat) : Int)))
 (Q0N k v24).bind fun t25 => (Q0H k (t25.1.1, (t25.1.2.1, (t25.1.2.2.1, ())))).bind fun t26 => let v27 : Int := (IntKind.wrap IntKind.i64 t26.1)
 (Q0F k (t26.2.1.1, (t26.2.1.2.1, (t26.2.1.2.2.1, ())))).bind fun t28 => (Q04 k v27 (t28.2.1.1, (t28.2.1.2.1, (t28.2.1.2.2.1, ())))).bind fun t29 => (Q04 k (4 : Int) (t29.2.1.1, (t29.2.1.2.1, (t29.2.1.2.2.1, ())))).bind fun t30 => (Q0x k (t30.2.1.1, (t30.2.1.2.1, (t30.2.1.2.2.1, ())))).bind fun t31 => bif (t31.1 != (0 : Int)) then (ke (x.1, (x.2.1, (x.2.2.1, (x.2.2.2.1, ()))))) else (let v32 : Int := (((List.length x.2.2.2.1) : Nat) : Int)
 (Q05 k x.2.1 (IntKind.wrap IntKind.u64 v32) t29.1).bind fun t33 => let v34 : ByteArray := t33.1
 let v35 : Int := t33.2.1
 bif (v35 != (0 : Int)) then (ke (x.1, (x.2.1, (x.2.2.1, (x.2.2.2.1, ()))))) else ((Q0L k (t31.2.1.1, (t31.2.1.2.1, (t31.2.1.2.2.1, ())))).bind fun t36 => let v37 : Int := (IntKind.wrap IntKind.i64 (x.2.2.1 + t36.1))
 bif (decide (((0 : Int) ≤ x.2.2.1) ∧ ((x.2.2.1 ≤ v37) ∧ (v37 ≤ (((ByteArray.size x.1) : Nat) : Int))))) then (let v38 : ByteArray := (ByteArray.extract x.1 (Int.toNat x.2.2.1) (Int.toNat v37))
 bif (!(Q1J v38 v34)) then (ke (x.1, (x.2.1, (x.2.2.1, (x.2.2.2.1, ()))))) else (bif (Nat.ble (((List.length x.2.2.2.1) + (List.length (List.set (List.replicate 1 ByteArray.empty) 0 t29.1))) * 16) 140737488355328) then ((Q0L k (t36.2.1.1, (t36.2.1.2.1, (t36.2.1.2.2.1, ())))).bind fun t39 => let v40 : Int := (IntKind.wrap IntKind.i64 (x.2.2.1 + t39.1))
 kn (x.1, (x.2.1, (v40, ((x.2.2.2.1 ++ (List.set (List.replicate 1 ByteArray.empty) 0 t29.1)), ()))))) else (none))) else (none)))) else (none)
def Qd.l1 (k : Nat) : Nat → Qd.l1.σ → Option Qd.l1.τ := Q1j (Qd.l1.r k)
def Qd.l1.T : StT := ⟨.dat .str :: us 5 ++ .dat (.int .u64) :: .vsl 0 :: .dat (.int .i64) :: us 70, [.vec .str]⟩
def Qd.l1.os : List Out := [⟨(.exit 0), [.mask [0, 6, 7, 8], .auto 0], ⟨.dat .str :: us 5 ++ .dat (.int .u64) :: .vsl 0 :: .dat (.int .i64) :: us 70, [.vec .str]⟩⟩]
abbrev Qd.τ : Type := (Int × Int × Int × Unit) ⊕ (Int × Int × Int × (List ByteArray) × Unit)
def Qd.c (k : Nat) {ρ : Type} (s : ByteArray) (K : Qd.τ → Option ρ) : Option ρ :=
  bif (decide ((((ByteArray.size s) : Nat) : Int) < (20 : Int))) then (K (.inl ((0 : Int), ((0 : Int), ((120 : Int), ()))))) else (bif (decide (((0 : Int) ≤ (8 : Int)) ∧ (((8 : Int) ≤ (20 : Int)) ∧ ((20 : Int) ≤ (((ByteArray.size s) : Nat) : Int))))) then ((Q0N k (ByteArray.extract s 8 20)).bind fun t0 => (Q0F k (t0.1.1, (t0.1.2.1, (t0.1.2.2.1, ())))).bind fun t1 => bif (decide (((0 : Int) ≤ (0 : Int)) ∧ (((0 : Int) ≤ (20 : Int)) ∧ ((20 : Int) ≤ (((ByteArray.size s) : Nat) : Int))))) then ((Q0n k t1.1).bind fun t2 => bif (!(Q1J (ByteArray.extract s 0 20) t2.1)) then (K (.inl ((0 : Int), ((0 : Int), ((120 : Int), ()))))) else ((Qd.p0 k (s, (t1.1, ((20 : Int), ())))).bind fun t19 => (match t19 with
 | .inl t20 => (let v21 : Int := (((ByteArray.size t20.1) : Nat) : Int)
  let v22 : Int := (IntKind.wrap IntKind.i64 (v21 - t20.2.2.1))
  K (.inl (t20.2.1, (v22, ((0 : Int), ())))))
 | .inr (t23) => ((Qd.l1 k k (t23.1, (t23.2.1, (t23.2.2.1, (t23.2.2.2.1, ()))))).bind fun t41 => let v42 : Int := (((ByteArray.size t41.1) : Nat) : Int)
  let v43 : Int := (IntKind.wrap IntKind.i64 (v42 - t41.2.2.1))
  K (.inr (t41.2.1, (v43, ((0 : Int), (t41.2.2.2.1, ()))))))))) else (none)) else (none))
def Qd (k : Nat) (s : ByteArray) : Option Qd.τ := Qd.c k s some
def Qd.T : Q13 := ⟨[.dat .str], [], 0⟩
def Qd.os : List Out := [⟨.ret, [.auto 0], ⟨[.dat (.int .u64), .nils, .dat (.int .i64), .dat (.int .i64)], []⟩⟩, ⟨.ret, [.auto 0], ⟨[.dat (.int .u64), .vsl 0, .dat (.int .i64), .dat (.int .i64)], [.vec .str]⟩⟩]
def Qd.sem (k : Nat) : QP := Q14 Qd.T Qd.os fun x => Qd k x.1
noncomputable def Qd.ctx (k : Nat) : Ctx := ⟨Try.prog, gam [(43, (Q0N.sem k)), (44, (Q0F.sem k)), (9, (Q0n.sem k)), (45, (Q0H.sem k)), (46, (Q04.sem k)), (47, (Q0x.sem k)), (7, (Q05.sem k)), (48, (Q0L.sem k))]⟩
theorem Qd.gok (k : Nat) : ∀ f, Qw Try.prog f ((Qd.ctx k).Γ f) := (Qe (Q0N.sem_ok k) (Qe (Q0F.sem_ok k) (Qe (Q0n.sem_ok k) (Qe (Q0H.sem_ok k) (Qe (Q04.sem_ok k) (Qe (Q0x.sem_ok k) (Qe (Q05.sem_ok k) (Qe (Q0L.sem_ok k) Q0b))))))))
theorem Qd.p0.is (k : Nat) : Q20 (Qd.ctx k) (Q0K (Func.code Try.f12) [1, 1, 1, 1, 1, 1, 0, 0, 0]) (.nil) Qd.p0.T Qd.p0.os (Qd.p0.r k) := by
 intro ρ x K; kernel_rfl
theorem Qd.p0.ok (k : Nat) : StOK 0 Try.prog (Q0K (Func.code Try.f12) [1, 1, 1, 1, 1, 1, 0, 0, 0]) (Q01 Qd.p0.T Qd.p0.os (Qd.p0 k)) :=
 Q1O (C := Qd.ctx k) (T := Qd.p0.T) (os := Qd.p0.os) (Qd.gok k) Try.mix (fun x K => Qd.p0.r k x K) Q1.nil (by kernel_rfl) (by kernel_rfl) (Qd.p0.is k)
theorem Qd.l1.round (k : Nat) : Q1e (Qd.ctx k) (Q0K (Func.code Try.f12) [1, 1, 1, 1, 1, 1, 0, 0, 0]) (.nil) Qd.l1.T [.mask [0, 6, 7, 8], .auto 0] Qd.l1.os (Qd.l1.r k) := by
 intro ρ x kn ke; kernel_rfl
theorem Qd.l1.ok (k : Nat) : StOK 0 Try.prog (.loop (Q0K (Func.code Try.f12) [1, 1, 1, 1, 1, 1, 0, 0, 0])) (Q01 Qd.l1.T Qd.l1.os (Qd.l1 k k)) :=
 Q1i (C := Qd.ctx k) (Qd.gok k) Try.mix Q1.nil (by kernel_rfl) (by kernel_rfl) (by kernel_rfl) (Qd.l1.round k) k
theorem Qd.l1.pok (k : Nat) : StOK 0 Try.prog (.loop (Q0K (Func.code Try.f12) [1, 1, 1, 1, 1, 1, 0, 0, 0])) (Q7a (Q01 Qd.p0.T Qd.p0.os (Qd.p0 k)) [.mask [0, 6, 7, 8], .auto 0] (Q01 Qd.l1.T Qd.l1.os (Qd.l1 k k))) :=
 QcH (C := Qd.ctx k) (Qd.gok k) Try.mix (Qd.p0.ok k) (by kernel_rfl) Q1.nil (by kernel_rfl) (by kernel_rfl) (by kernel_rfl) (Qd.l1.round k) k
def Qd.ann (k : Nat) : Ann := .node [] none (.nil) (.node [] none (.nil) (.node [] none (.nil) (.node [] none (.nil) (.node [] none (.nil) (.node [] none (.nil) (.node [] none (.node [] none (.node [.mask [0, 6, 7, 8], .auto 0] (some (Q7a (Q01 Qd.p0.T Qd.p0.os (Qd.p0 k)) [.mask [0, 6, 7, 8], .auto 0] (Q01 Qd.l1.T Qd.l1.os (Qd.l1 k k)))) .nil .nil) (.nil)) (.nil)))))))
theorem Qd.body (k : Nat) : Q16 (Qd.ctx k) Try.f12 (Func.code Try.f12) (Qd.ann k) Qd.T Qd.os (fun x K => Qd.c k x.1 K) := by
 intro ρ x K; kernel_rfl
theorem Qd.sem_ok (k : Nat) : Qw Try.prog 12 (Qd.sem k) :=
 Q0r (C := Qd.ctx k) (Qd.gok k) Try.mix (c := Func.code Try.f12) (ann := Qd.ann k) (T := Qd.T) (os := Qd.os) (fun x K => Qd.c k x.1 K) Try.func12 (by kernel_rfl) (by kernel_rfl) (Q1.seq Q1.nil (Q1.seq Q1.nil (Q1.seq Q1.nil (Q1.seq Q1.nil (Q1.seq Q1.nil (Q1.seq Q1.nil (Q1.seq (Q1.block (Q1.loop (by kernel_rfl) (Qd.l1.pok k))) Q1.nil))))))) (Qd.body k) (by kernel_rfl) (by kernel_rfl) (by kernel_rfl)
abbrev Q0v.τ : Type := Qev ⊕ Qep 
def Q0v.c (k : Nat) {ρ : Type} (name : ByteArray) (b0 : QeC) (b1 : QeG) (b2 : QeG) (K : Q0v.τ → Option ρ) : Option ρ :=
  (Q0c k name ((), ((), ((), (b0.2.2.2.1, ((), (b0.2.2.2.2.2.1, ())))))) b1 b2).bind fun t0 => let v1 : ByteArray := t0.1
  let v2 : Int := t0.2.1
  bif (v2 != (0 : Int)) then (K (.inl (v2, (((), ((), ((), (t0.2.2.1.2.2.2.1, ((), (t0.2.2.1.2.2.2.2.2.1, ())))))), (t0.2.2.2.1, (t0.2.2.2.2.1, ())))))) else ((Q0s k ((3 : Int), (name, ((⟨(List.toArray [])⟩ : ByteArray), ((0 : Int), ((⟨(List.toArray [])⟩ : ByteArray), ()))))) ((), ((), ((), (t0.2.2.1.2.2.2.1, ((), (t0.2.2.1.2.2.2.2.2.1, ())))))) t0.2.2.2.1 t0.2.2.2.2.1).bind fun t3 => (match t3 with
 | .inl t4 => (K (.inl (t4.1, (((), ((), ((), (t4.2.1.2.2.2.1, ((), (t4.2.1.2.2.2.2.2.1, ())))))), (t4.2.2.1, (t4.2.2.2.1, ()))))))
 | .inr (t5) => (K (.inr (t5.1, (((), ((), ((), (t5.2.1.2.2.2.1, ((), (t5.2.1.2.2.2.2.2.1, ())))))), (t5.2.2.1, (t5.2.2.2.1, (t5.2.2.2.2.1, ())))))))))
def Q0v (k : Nat) (name : ByteArray) (b0 : QeC) (b1 : QeG) (b2 : QeG) : Option Q0v.τ := Q0v.c k name b0 b1 b2 some
def Q0v.T : Q13 := ⟨[.ptr 0 [], .dat .str], [.pair (.mp 1) (.pair (.mp 2) (.pair (.nils) (.pair (.dat (.int .i64)) (.pair (.nils) (.dat QeH))))), .mpd .str .str, .mpd .str .str], 3⟩
def Q0v.os : List Out := [⟨.ret, [.freeze (.slot 0), .auto 3], ⟨[.dat (.int .i64)], [.pair (.mp 1) (.pair (.mp 2) (.pair (.nils) (.pair (.dat (.int .i64)) (.pair (.nils) (.dat QeH))))), .mpd .str .str, .mpd .str .str]⟩⟩, ⟨.ret, [.freeze (.slot 0), .auto 3], ⟨[.dat (.int .i64)], [.pair (.mp 1) (.pair (.mp 2) (.pair (.vsl 3) (.pair (.dat (.int .i64)) (.pair (.nils) (.dat QeH))))), .mpd .str .str, .mpd .str .str, .vec Qex]⟩⟩]
def Q0v.sem (k : Nat) : QP := Q14 Q0v.T Q0v.os fun x => Q0v k x.1 x.2.1 x.2.2.1 x.2.2.2.1
noncomputable def Q0v.ctx (k : Nat) : Ctx := ⟨Try.prog, gam [(73, (Q0c.sem k)), (74, (Q0s.sem k))]⟩
theorem Q0v.gok (k : Nat) : ∀ f, Qw Try.prog f ((Q0v.ctx k).Γ f) := (Qe (Q0c.sem_ok k) (Qe (Q0s.sem_ok k) Q0b))
def Q0v.ann (k : Nat) : Ann := .nil
theorem Q0v.body (k : Nat) : Q16 (Q0v.ctx k) Try.f52 (Func.code Try.f52) (Q0v.ann k) Q0v.T Q0v.os (fun x K => Q0v.c k x.1 x.2.1 x.2.2.1 x.2.2.2.1 K) := by
 intro ρ x K; kernel_rfl
theorem Q0v.sem_ok (k : Nat) : Qw Try.prog 52 (Q0v.sem k) :=
 Q0r (C := Q0v.ctx k) (Q0v.gok k) Try.mix (c := Func.code Try.f52) (ann := Q0v.ann k) (T := Q0v.T) (os := Q0v.os) (fun x K => Q0v.c k x.1 x.2.1 x.2.2.1 x.2.2.2.1 K) Try.func52 (by kernel_rfl) (by kernel_rfl) Q1.nil (Q0v.body k) (by kernel_rfl) (by kernel_rfl) (by kernel_rfl)
abbrev Q0J.τ : Type := (Int × Int × QeC × QeG × QeG × Unit)
def Q0J.c (k : Nat) {ρ : Type} (name : ByteArray) (b0 : QeC) (b1 : QeG) (b2 : QeG) (K : Q0J.τ → Option ρ) : Option ρ :=
 (Q0c k name ((), ((), ((), (b0.2.2.2.1, ((), (b0.2.2.2.2.2.1, ())))))) b1 b2).bind fun t0 => let v1 : ByteArray := t0.1
 let v2 : Int := t0.2.1
 K ((((ByteArray.size v1) : Nat) : Int), (v2, (((), ((), ((), (t0.2.2.1.2.2.2.1, ((), (t0.2.2.1.2.2.2.2.2.1, ())))))), (t0.2.2.2.1, (t0.2.2.2.2.1, ())))))
def Q0J (k : Nat) (name : ByteArray) (b0 : QeC) (b1 : QeG) (b2 : QeG) : Option Q0J.τ := Q0J.c k name b0 b1 b2 some
def Q0J.T : Q13 := ⟨[.ptr 0 [], .dat .str], [.pair (.mp 1) (.pair (.mp 2) (.pair (.nils) (.pair (.dat (.int .i64)) (.pair (.nils) (.dat QeH))))), .mpd .str .str, .mpd .str .str], 3⟩
def Q0J.os : List Out := [⟨.ret, [.freeze (.slot 0), .freeze (.slot 1), .auto 3], ⟨[.dat (.int .i64), .dat (.int .i64)], [.pair (.mp 1) (.pair (.mp 2) (.pair (.nils) (.pair (.dat (.int .i64)) (.pair (.nils) (.dat QeH))))), .mpd .str .str, .mpd .str .str]⟩⟩]
def Q0J.sem (k : Nat) : QP := Q14 Q0J.T Q0J.os fun x => Q0J k x.1 x.2.1 x.2.2.1 x.2.2.2.1
noncomputable def Q0J.ctx (k : Nat) : Ctx := ⟨Try.prog, gam [(73, (Q0c.sem k))]⟩
theorem Q0J.gok (k : Nat) : ∀ f, Qw Try.prog f ((Q0J.ctx k).Γ f) := (Qe (Q0c.sem_ok k) Q0b)
def Q0J.ann (k : Nat) : Ann := .nil
theorem Q0J.body (k : Nat) : Q16 (Q0J.ctx k) Try.f86 (Func.code Try.f86) (Q0J.ann k) Q0J.T Q0J.os (fun x K => Q0J.c k x.1 x.2.1 x.2.2.1 x.2.2.2.1 K) := by
 intro ρ x K; kernel_rfl
theorem Q0J.sem_ok (k : Nat) : Qw Try.prog 86 (Q0J.sem k) :=
 Q0r (C := Q0J.ctx k) (Q0J.gok k) Try.mix (c := Func.code Try.f86) (ann := Q0J.ann k) (T := Q0J.T) (os := Q0J.os) (fun x K => Q0J.c k x.1 x.2.1 x.2.2.1 x.2.2.2.1 K) Try.func86 (by kernel_rfl) (by kernel_rfl) Q1.nil (Q0J.body k) (by kernel_rfl) (by kernel_rfl) (by kernel_rfl)
abbrev Q0y.τ : Type := Qev ⊕ Qep 
def Q0y.c (k : Nat) {ρ : Type} (name : ByteArray) (n : Int) (b0 : QeC) (b1 : QeG) (b2 : QeG) (K : Q0y.τ → Option ρ) : Option ρ :=
  (Q0c k name ((), ((), ((), (b0.2.2.2.1, ((), (b0.2.2.2.2.2.1, ())))))) b1 b2).bind fun t0 => let v1 : ByteArray := t0.1
  let v2 : Int := t0.2.1
  bif (v2 != (0 : Int)) then (K (.inl (v2, (((), ((), ((), (t0.2.2.1.2.2.2.1, ((), (t0.2.2.1.2.2.2.2.2.1, ())))))), (t0.2.2.2.1, (t0.2.2.2.2.1, ())))))) else (bif (decide (n < (0 : Int))) then (K (.inl ((1 : Int), (((), ((), ((), (t0.2.2.1.2.2.2.1, ((), (t0.2.2.1.2.2.2.2.2.1, ())))))), (t0.2.2.2.1, (t0.2.2.2.2.1, ())))))) else (bif (decide (n > (((ByteArray.size v1) : Nat) : Int))) then (K (.inl ((1 : Int), (((), ((), ((), (t0.2.2.1.2.2.2.1, ((), (t0.2.2.1.2.2.2.2.2.1, ())))))), (t0.2.2.2.1, (t0.2.2.2.2.1, ())))))) else ((Q0s k ((1 : Int), (name, ((⟨(List.toArray [])⟩ : ByteArray), (n, ((⟨(List.toArray [])⟩ : ByteArray), ()))))) ((), ((), ((), (t0.2.2.1.2.2.2.1, ((), (t0.2.2.1.2.2.2.2.2.1, ())))))) t0.2.2.2.1 t0.2.2.2.2.1).bind fun t3 => (match t3 with
 | .inl t4 => (K (.inl (t4.1, (((), ((), ((), (t4.2.1.2.2.2.1, ((), (t4.2.1.2.2.2.2.2.1, ())))))), (t4.2.2.1, (t4.2.2.2.1, ()))))))
 | .inr (t5) => (K (.inr (t5.1, (((), ((), ((), (t5.2.1.2.2.2.1, ((), (t5.2.1.2.2.2.2.2.1, ())))))), (t5.2.2.1, (t5.2.2.2.1, (t5.2.2.2.2.1, ())))))))))))
def Q0y (k : Nat) (name : ByteArray) (n : Int) (b0 : QeC) (b1 : QeG) (b2 : QeG) : Option Q0y.τ := Q0y.c k name n b0 b1 b2 some
def Q0y.T : Q13 := ⟨[.ptr 0 [], .dat .str, .dat (.int .i64)], [.pair (.mp 1) (.pair (.mp 2) (.pair (.nils) (.pair (.dat (.int .i64)) (.pair (.nils) (.dat QeH))))), .mpd .str .str, .mpd .str .str], 3⟩
def Q0y.os : List Out := [⟨.ret, [.freeze (.slot 0), .auto 3], ⟨[.dat (.int .i64)], [.pair (.mp 1) (.pair (.mp 2) (.pair (.nils) (.pair (.dat (.int .i64)) (.pair (.nils) (.dat QeH))))), .mpd .str .str, .mpd .str .str]⟩⟩, ⟨.ret, [.freeze (.slot 0), .auto 3], ⟨[.dat (.int .i64)], [.pair (.mp 1) (.pair (.mp 2) (.pair (.vsl 3) (.pair (.dat (.int .i64)) (.pair (.nils) (.dat QeH))))), .mpd .str .str, .mpd .str .str, .vec Qex]⟩⟩]
def Q0y.sem (k : Nat) : QP := Q14 Q0y.T Q0y.os fun x => Q0y k x.1 x.2.1 x.2.2.1 x.2.2.2.1 x.2.2.2.2.1
noncomputable def Q0y.ctx (k : Nat) : Ctx := ⟨Try.prog, gam [(73, (Q0c.sem k)), (74, (Q0s.sem k))]⟩
theorem Q0y.gok (k : Nat) : ∀ f, Qw Try.prog f ((Q0y.ctx k).Γ f) := (Qe (Q0c.sem_ok k) (Qe (Q0s.sem_ok k) Q0b))
def Q0y.ann (k : Nat) : Ann := .nil
theorem Q0y.body (k : Nat) : Q16 (Q0y.ctx k) Try.f55 (Func.code Try.f55) (Q0y.ann k) Q0y.T Q0y.os (fun x K => Q0y.c k x.1 x.2.1 x.2.2.1 x.2.2.2.1 x.2.2.2.2.1 K) := by
 intro ρ x K; kernel_rfl
theorem Q0y.sem_ok (k : Nat) : Qw Try.prog 55 (Q0y.sem k) :=
 Q0r (C := Q0y.ctx k) (Q0y.gok k) Try.mix (c := Func.code Try.f55) (ann := Q0y.ann k) (T := Q0y.T) (os := Q0y.os) (fun x K => Q0y.c k x.1 x.2.1 x.2.2.1 x.2.2.2.1 x.2.2.2.2.1 K) Try.func55 (by kernel_rfl) (by kernel_rfl) Q1.nil (Q0y.body k) (by kernel_rfl) (by kernel_rfl) (by kernel_rfl)
abbrev Q9.p0.σ : Type := QeC × QeG × QeG × Unit
abbrev Q9.p0.τ : Type := Qev ⊕ Qew 
def Q9.p0.r (k : Nat) {ρ : Type} (x : Q9.p0.σ) (K : Q9.p0.τ → Option ρ) : Option ρ :=
 (Q0B k ((), ((), ((), (x.1.2.2.2.1, ((), (x.1.2.2.2.2.2.1, ())))))) x.2.1 x.2.2.1).bind fun t0 => bif t0.1 then (K (.inl ((7 : Int), (((), ((), ((), (t0.2.1.2.2.2.1, ((), (t0.2.1.2.2.2.2.2.1, ())))))), (t0.2.2.1, (t0.2.2.2.1, ())))))) else ((Qh k true ((), ((), ((), (t0.2.1.2.2.2.1, ((), (t0.2.1.2.2.2.2.2.1, ())))))) t0.2.2.1 t0.2.2.2.1).bind fun t1 => bif t1.1 then (K (.inl ((7 : Int), (((), ((), ((), (t1.2.1.2.2.2.1, ((), (t1.2.1.2.2.2.2.2.1, ())))))), (t1.2.2.1, (t1.2.2.2.1, ())))))) else (K (.inr (((), ((), ((), (t1.2.1.2.2.2.1, ((), (t1.2.1.2.2.2.2.2.1, ())))))), (t1.2.2.1, (t1.2.2.2.1, ()))))))
def Q9.p0 (k : Nat) (x : Q9.p0.σ) : Option Q9.p0.τ := Q9.p0.r k x some
def Q9.p0.T : StT := ⟨.ptr 0 [] :: us 29, [.pair (.mp 1) (.pair (.mp 2) (.pair (.nils) (.pair (.dat (.int .i64)) (.pair (.nils) (.dat QeH))))), .mpd .str .str, .mpd .str .str]⟩
def Q9.p0.os : List Out := [⟨.ret, [.mask [2], .auto 3], ⟨us 2 ++ .dat (.int .i64) :: us 27, [.pair (.mp 1) (.pair (.mp 2) (.pair (.nils) (.pair (.dat (.int .i64)) (.pair (.nils) (.dat QeH))))), .mpd .str .str, .mpd .str .str]⟩⟩, ⟨.normal, [.mask [0], .auto 3], ⟨.ptr 0 [] :: us 29, [.pair (.mp 1) (.pair (.mp 2) (.pair (.nils) (.pair (.dat (.int .i64)) (.pair (.nils) (.dat QeH))))), .mpd .str .str, .mpd .str .str]⟩⟩]
abbrev Q9.l1.σ : Type := Int × Int × QeC × QeG × QeG × Unit
abbrev Q9.l1.τ : Type := Qew 
def Q9.l1.r (k : Nat) {ρ : Type} (x : Q9.l1.σ) (kn : Q9.l1.σ → Option ρ) (ke : Q9.l1.τ → Option ρ) : Option ρ :=
 bif (decide (x.2.1 < x.1)) then (none) else (ke (((), ((), ((), (x.2.2.1.2.2.2.1, ((), (x.2.2.1.2.2.2.2.2.1, ())))))), (x.2.2.2.1, (x.2.2.2.2.1, ()))))
def Q9.l1 (k : Nat) : Nat → Q9.l1.σ → Option Q9.l1.τ := Q1j (Q9.l1.r k)
def Q9.l1.T : StT := ⟨.ptr 0 [] :: us 13 ++ .nils :: .dat (.int .i64) :: .dat (.int .i64) :: us 13, [.pair (.mp 1) (.pair (.mp 2) (.pair (.nils) (.pair (.dat (.int .i64)) (.pair (.nils) (.dat QeH))))), .mpd .str .str, .mpd .str .str]⟩
def Q9.l1.os : List Out := [⟨(.exit 0), [.mask [0], .auto 3], ⟨.ptr 0 [] :: us 29, [.pair (.mp 1) (.pair (.mp 2) (.pair (.nils) (.pair (.dat (.int .i64)) (.pair (.nils) (.dat QeH))))), .mpd .str .str, .mpd .str .str]⟩⟩]
abbrev Q9.τ : Type := Qev 
def Q9.c (k : Nat) {ρ : Type} (b0 : QeC) (b1 : QeG) (b2 : QeG) (K : Q9.τ → Option ρ) : Option ρ :=
  (Q9.p0 k (((), ((), ((), (b0.2.2.2.1, ((), (b0.2.2.2.2.2.1, ())))))), (b1, (b2, ())))).bind fun t2 => (match t2 with
 | .inl t3 => (K (t3.1, (((), ((), ((), (t3.2.1.2.2.2.1, ((), (t3.2.1.2.2.2.2.2.1, ())))))), (t3.2.2.1, (t3.2.2.2.1, ())))))
 | .inr (t4) => ((Q9.l1 k k ((0 : Int), ((0 : Int), (((), ((), ((), (t4.1.2.2.2.1, ((), (t4.1.2.2.2.2.2.1, ())))))), (t4.2.1, (t4.2.2.1, ())))))).bind fun t5 => K ((0 : Int), (((), ((), ((), (t5.1.2.2.2.1, ((), (t5.1.2.2.2.2.2.1, ())))))), (t5.2.1, (t5.2.2.1, ()))))))
def Q9 (k : Nat) (b0 : QeC) (b1 : QeG) (b2 : QeG) : Option Q9.τ := Q9.c k b0 b1 b2 some
def Q9.T : Q13 := ⟨[.ptr 0 []], [.pair (.mp 1) (.pair (.mp 2) (.pair (.nils) (.pair (.dat (.int .i64)) (.pair (.nils) (.dat QeH))))), .mpd .str .str, .mpd .str .str], 3⟩
def Q9.os : List Out := [⟨.ret, [.freeze (.slot 0), .auto 3], ⟨[.dat (.int .i64)], [.pair (.mp 1) (.pair (.mp 2) (.pair (.nils) (.pair (.dat (.int .i64)) (.pair (.nils) (.dat QeH))))), .mpd .str .str, .mpd .str .str]⟩⟩]
def Q9.sem (k : Nat) : QP := Q14 Q9.T Q9.os fun x => Q9 k x.1 x.2.1 x.2.2.1
noncomputable def Q9.ctx (k : Nat) : Ctx := ⟨Try.prog, gam [(30, (Q0B.sem k)), (76, (Qh.sem k))]⟩
theorem Q9.gok (k : Nat) : ∀ f, Qw Try.prog f ((Q9.ctx k).Γ f) := (Qe (Q0B.sem_ok k) (Qe (Qh.sem_ok k) Q0b))
theorem Q9.p0.is (k : Nat) : Q20 (Q9.ctx k) (Q0K (Func.code Try.f56) [1, 0]) (.nil) Q9.p0.T Q9.p0.os (Q9.p0.r k) := by
 intro ρ x K; kernel_rfl
theorem Q9.p0.ok (k : Nat) : StOK 3 Try.prog (Q0K (Func.code Try.f56) [1, 0]) (Q01 Q9.p0.T Q9.p0.os (Q9.p0 k)) :=
 Q1O (C := Q9.ctx k) (T := Q9.p0.T) (os := Q9.p0.os) (Q9.gok k) Try.mix (fun x K => Q9.p0.r k x K) Q1.nil (by kernel_rfl) (by kernel_rfl) (Q9.p0.is k)
theorem Q9.l1.round (k : Nat) : Q1e (Q9.ctx k) (Q0K (Func.code Try.f56) [1, 1, 0, 1, 0, 0]) (.nil) Q9.l1.T [] Q9.l1.os (Q9.l1.r k) := by
 intro ρ x kn ke; kernel_rfl
theorem Q9.l1.ok (k : Nat) : StOK 3 Try.prog (.loop (Q0K (Func.code Try.f56) [1, 1, 0, 1, 0, 0])) (Q01 Q9.l1.T Q9.l1.os (Q9.l1 k k)) :=
 Q1i (C := Q9.ctx k) (Q9.gok k) Try.mix Q1.nil (by kernel_rfl) (by kernel_rfl) (by kernel_rfl) (Q9.l1.round k) k
def Q9.ann (k : Nat) : Ann := .node [] none (.nil) (.node [] none (.node [.mask [0], .auto 3] (some (Q01 Q9.p0.T Q9.p0.os (Q9.p0 k))) .nil .nil) (.node [] none (.node [] none (.nil) (.node [] none (.node [.mask [0, 14, 15, 16], .auto 3] (some (Q01 Q9.l1.T Q9.l1.os (Q9.l1 k k))) .nil .nil) (.nil))) (.nil)))
theorem Q9.body (k : Nat) : Q16 (Q9.ctx k) Try.f56 (Func.code Try.f56) (Q9.ann k) Q9.T Q9.os (fun x K => Q9.c k x.1 x.2.1 x.2.2.1 K) := by
 intro ρ x K; kernel_rfl
theorem Q9.sem_ok (k : Nat) : Qw Try.prog 56 (Q9.sem k) :=
 Q0r (C := Q9.ctx k) (Q9.gok k) Try.mix (c := Func.code Try.f56) (ann := Q9.ann k) (T := Q9.T) (os := Q9.os) (fun x K => Q9.c k x.1 x.2.1 x.2.2.1 K) Try.func56 (by kernel_rfl) (by kernel_rfl) (Q1.seq Q1.nil (Q1.seq (Q1.loop (by kernel_rfl) (Q9.p0.ok k)) (Q1.seq (Q1.seq Q1.nil (Q1.block (Q1.loop (by kernel_rfl) (Q9.l1.ok k)))) Q1.nil))) (Q9.body k) (by kernel_rfl) (by kernel_rfl) (by kernel_rfl)
abbrev Q0p.τ : Type := Qeo 
def Q0p.c (k : Nat) {ρ : Type} (b0 : QeC) (b1 : QeG) (b2 : QeG) (b3 : Qez) (K : Q0p.τ → Option ρ) : Option ρ :=
 K (b0.2.2.2.2.2.1, (((), ((), ((), (b0.2.2.2.1, ((), (b0.2.2.2.2.2.1, ())))))), (b1, (b2, (b3, ())))))
def Q0p (k : Nat) (b0 : QeC) (b1 : QeG) (b2 : QeG) (b3 : Qez) : Option Q0p.τ := Q0p.c k b0 b1 b2 b3 some
def Q0p.T : Q13 := ⟨[.ptr 0 []], [.pair (.mp 1) (.pair (.mp 2) (.pair (.vsl 3) (.pair (.dat (.int .i64)) (.pair (.nils) (.dat QeH))))), .mpd .str .str, .mpd .str .str, .vec Qex], 3⟩
def Q0p.os : List Out := [⟨.ret, [.freeze (.slot 0), .auto 3], ⟨[.dat .bool], [.pair (.mp 1) (.pair (.mp 2) (.pair (.vsl 3) (.pair (.dat (.int .i64)) (.pair (.nils) (.dat QeH))))), .mpd .str .str, .mpd .str .str, .vec Qex]⟩⟩]
def Q0p.sem (k : Nat) : QP := Q14 Q0p.T Q0p.os fun x => Q0p k x.1 x.2.1 x.2.2.1 x.2.2.2.1
noncomputable def Q0p.ctx (k : Nat) : Ctx := ⟨Try.prog, gam []⟩
theorem Q0p.gok (k : Nat) : ∀ f, Qw Try.prog f ((Q0p.ctx k).Γ f) := Q0b
def Q0p.ann (k : Nat) : Ann := .nil
theorem Q0p.body (k : Nat) : Q16 (Q0p.ctx k) Try.f30 (Func.code Try.f30) (Q0p.ann k) Q0p.T Q0p.os (fun x K => Q0p.c k x.1 x.2.1 x.2.2.1 x.2.2.2.1 K) := by
 intro ρ x K; kernel_rfl
theorem Q0p.sem_ok (k : Nat) : Qw Try.prog 30 (Q0p.sem k) :=
 Q0r (C := Q0p.ctx k) (Q0p.gok k) Try.mix (c := Func.code Try.f30) (ann := Q0p.ann k) (T := Q0p.T) (os := Q0p.os) (fun x K => Q0p.c k x.1 x.2.1 x.2.2.1 x.2.2.2.1 K) Try.func30 (by kernel_rfl) (by kernel_rfl) Q1.nil (Q0p.body k) (by kernel_rfl) (by kernel_rfl) (by kernel_rfl)
abbrev Qb.l0.σ : Type := Bool × Int × Int × QeC × QeG × QeG × Qez × Unit
abbrev Qb.l0.τ : Type := Qeq 
def Qb.l0.r (k : Nat) {ρ : Type} (x : Qb.l0.σ) (kn : Qb.l0.σ → Option ρ) (ke : Qb.l0.τ → Option ρ) : Option ρ :=
 bif (decide (x.2.2.1 < x.2.1)) then (none) else (ke (((), ((), ((), (x.2.2.2.1.2.2.2.1, ((), (x.2.2.2.1.2.2.2.2.2.1, ())))))), (x.2.2.2.2.1, (x.2.2.2.2.2.1, (x.2.2.2.2.2.2.1, ())))))
def Qb.l0 (k : Nat) : Nat → Qb.l0.σ → Option Qb.l0.τ := Q1j (Qb.l0.r k)
def Qb.l0.T : StT := ⟨.ptr 0 [] :: .dat .bool :: us 8 ++ .nils :: .dat (.int .i64) :: .dat (.int .i64) :: us 36, [.pair (.mp 1) (.pair (.mp 2) (.pair (.vsl 3) (.pair (.dat (.int .i64)) (.pair (.nils) (.dat QeH))))), .mpd .str .str, .mpd .str .str, .vec Qex]⟩
def Qb.l0.os : List Out := [⟨(.exit 0), [.mask [], .auto 3], ⟨us 49, [.pair (.mp 1) (.pair (.mp 2) (.pair (.vsl 3) (.pair (.dat (.int .i64)) (.pair (.nils) (.dat QeH))))), .mpd .str .str, .mpd .str .str, .vec Qex]⟩⟩]
abbrev Qb.τ : Type := Qeo 
def Qb.c (k : Nat) {ρ : Type} (sync : Bool) (b0 : QeC) (b1 : QeG) (b2 : QeG) (b3 : Qez) (K : Qb.τ → Option ρ) : Option ρ :=
 (Qb.l0 k k (sync, ((0 : Int), ((0 : Int), (((), ((), ((), (b0.2.2.2.1, ((), (b0.2.2.2.2.2.1, ())))))), (b1, (b2, (b3, ())))))))).bind fun t0 => K (false, (((), ((), ((), (t0.1.2.2.2.1, ((), (t0.1.2.2.2.2.2.1, ())))))), (t0.2.1, (t0.2.2.1, (t0.2.2.2.1, ())))))
def Qb (k : Nat) (sync : Bool) (b0 : QeC) (b1 : QeG) (b2 : QeG) (b3 : Qez) : Option Qb.τ := Qb.c k sync b0 b1 b2 b3 some
def Qb.T : Q13 := ⟨[.ptr 0 [], .dat .bool], [.pair (.mp 1) (.pair (.mp 2) (.pair (.vsl 3) (.pair (.dat (.int .i64)) (.pair (.nils) (.dat QeH))))), .mpd .str .str, .mpd .str .str, .vec Qex], 3⟩
def Qb.os : List Out := [⟨.ret, [.freeze (.slot 0), .auto 3], ⟨[.dat .bool], [.pair (.mp 1) (.pair (.mp 2) (.pair (.vsl 3) (.pair (.dat (.int .i64)) (.pair (.nils) (.dat QeH))))), .mpd .str .str, .mpd .str .str, .vec Qex]⟩⟩]
def Qb.sem (k : Nat) : QP := Q14 Qb.T Qb.os fun x => Qb k x.1 x.2.1 x.2.2.1 x.2.2.2.1 x.2.2.2.2.1
noncomputable def Qb.ctx (k : Nat) : Ctx := ⟨Try.prog, gam []⟩
theorem Qb.gok (k : Nat) : ∀ f, Qw Try.prog f ((Qb.ctx k).Γ f) := Q0b
theorem Qb.l0.round (k : Nat) : Q1e (Qb.ctx k) (Q0K (Func.code Try.f76) [1, 0, 1, 0, 0]) (.nil) Qb.l0.T [] Qb.l0.os (Qb.l0.r k) := by
 intro ρ x kn ke; kernel_rfl
theorem Qb.l0.ok (k : Nat) : StOK 3 Try.prog (.loop (Q0K (Func.code Try.f76) [1, 0, 1, 0, 0])) (Q01 Qb.l0.T Qb.l0.os (Qb.l0 k k)) :=
 Q1i (C := Qb.ctx k) (Qb.gok k) Try.mix Q1.nil (by kernel_rfl) (by kernel_rfl) (by kernel_rfl) (Qb.l0.round k) k
def Qb.ann (k : Nat) : Ann := .node [] none (.nil) (.node [] none (.node [] none (.nil) (.node [] none (.node [.mask [0, 1, 10, 11, 12], .auto 3] (some (Q01 Qb.l0.T Qb.l0.os (Qb.l0 k k))) .nil .nil) (.nil))) (.nil))
theorem Qb.body (k : Nat) : Q16 (Qb.ctx k) Try.f76 (Func.code Try.f76) (Qb.ann k) Qb.T Qb.os (fun x K => Qb.c k x.1 x.2.1 x.2.2.1 x.2.2.2.1 x.2.2.2.2.1 K) := by
 intro ρ x K; kernel_rfl
theorem Qb.sem_ok (k : Nat) : Qw Try.prog 76 (Qb.sem k) :=
 Q0r (C := Qb.ctx k) (Qb.gok k) Try.mix (c := Func.code Try.f76) (ann := Qb.ann k) (T := Qb.T) (os := Qb.os) (fun x K => Qb.c k x.1 x.2.1 x.2.2.1 x.2.2.2.1 x.2.2.2.2.1 K) Try.func76 (by kernel_rfl) (by kernel_rfl) (Q1.seq Q1.nil (Q1.seq (Q1.seq Q1.nil (Q1.block (Q1.loop (by kernel_rfl) (Qb.l0.ok k)))) Q1.nil)) (Qb.body k) (by kernel_rfl) (by kernel_rfl) (by kernel_rfl)
abbrev Q3.p0.σ : Type := QeC × QeG × QeG × Qez × Unit
abbrev Q3.p0.τ : Type := Qep ⊕ Qeq 
def Q3.p0.r (k : Nat) {ρ : Type} (x : Q3.p0.σ) (K : Q3.p0.τ → Option ρ) : Option ρ :=
 (Q0p k ((), ((), ((), (x.1.2.2.2.1, ((), (x.1.2.2.2.2.2.1, ())))))) x.2.1 x.2.2.1 x.2.2.2.1).bind fun t0 => bif t0.1 then (K (.inl ((7 : Int), (((), ((), ((), (t0.2.1.2.2.2.1, ((), (t0.2.1.2.2.2.2.2.1, ())))))), (t0.2.2.1, (t0.2.2.2.1, (t0.2.2.2.2.1, ()))))))) else ((Qb k true ((), ((), ((), (t0.2.1.2.2.2.1, ((), (t0.2.1.2.2.2.2.2.1, ())))))) t0.2.2.1 t0.2.2.2.1 t0.2.2.2.2.1).bind fun t1 => bif t1.1 then (K (.inl ((7 : Int), (((), ((), ((), (t1.2.1.2.2.2.1, ((), (t1.2.1.2.2.2.2.2.1, ())))))), (t1.2.2.1, (t1.2.2.2.1, (t1.2.2.2.2.1, ()))))))) else (K (.inr (((), ((), ((), (t1.2.1.2.2.2.1, ((), (t1.2.1.2.2.2.2.2.1, ())))))), (t1.2.2.1, (t1.2.2.2.1, (t1.2.2.2.2.1, ())))))))
def Q3.p0 (k : Nat) (x : Q3.p0.σ) : Option Q3.p0.τ := Q3.p0.r k x some
def Q3.p0.T : StT := ⟨.ptr 0 [] :: us 29, [.pair (.mp 1) (.pair (.mp 2) (.pair (.vsl 3) (.pair (.dat (.int .i64)) (.pair (.nils) (.dat QeH))))), .mpd .str .str, .mpd .str .str, .vec Qex]⟩
def Q3.p0.os : List Out := [⟨.ret, [.mask [2], .auto 3], ⟨us 2 ++ .dat (.int .i64) :: us 27, [.pair (.mp 1) (.pair (.mp 2) (.pair (.vsl 3) (.pair (.dat (.int .i64)) (.pair (.nils) (.dat QeH))))), .mpd .str .str, .mpd .str .str, .vec Qex]⟩⟩, ⟨.normal, [.mask [0], .auto 3], ⟨.ptr 0 [] :: us 29, [.pair (.mp 1) (.pair (.mp 2) (.pair (.vsl 3) (.pair (.dat (.int .i64)) (.pair (.nils) (.dat QeH))))), .mpd .str .str, .mpd .str .str, .vec Qex]⟩⟩]
abbrev Q3.l1.σ : Type := Int × Int × QeC × QeG × QeG × Qez × Unit
abbrev Q3.l1.τ : Type := Qeq 
def Q3.l1.r (k : Nat) {ρ : Type} (x : Q3.l1.σ) (kn : Q3.l1.σ → Option ρ) (ke : Q3.l1.τ → Option ρ) : Option ρ :=
 bif (decide (x.2.1 < x.1)) then (bif (decide (((0 : Int) ≤ x.2.1) ∧ (x.2.1 < (((List.length x.2.2.2.2.2.1) : Nat) : Int)))) then ((Q0D k ((List.getD x.2.2.2.2.2.1 (Int.toNat x.2.1) ((0 : Int), (ByteArray.empty, (ByteArray.empty, ((0 : Int), (ByteArray.empty, ())))))).1, ((List.getD x.2.2.2.2.2.1 (Int.toNat x.2.1) ((0 : Int), (ByteArray.empty, (ByteArray.empty, ((0 : Int), (ByteArray.empty, ())))))).2.1, ((List.getD x.2.2.2.2.2.1 (Int.toNat x.2.1) ((0 : Int), (ByteArray.empty, (ByteArray.empty, ((0 : Int), (ByteArray.empty, ())))))).2.2.1, ((List.getD x.2.2.2.2.2.1 (Int.toNat x.2.1) ((0 : Int), (ByteArray.empty, (ByteArray.empty, ((0 : Int), (ByteArray.empty, ())))))).2.2.2.1, ((List.getD x.2.2.2.2.2.1 (Int.toNat x.2.1) ((0 : Int), (ByteArray.empty, (ByteArray.empty, ((0 : Int), (ByteArray.empty, ())))))).2.2.2.2.1, ()))))) x.2.2.2.1).bind fun t6 => let v7 : Int := (IntKind.wrap IntKind.i64 (x.2.1 + (1 : Int)))
 kn (x.1, (v7, (((), ((), ((), (x.2.2.1.2.2.2.1, ((), (x.2.2.1.2.2.2.2.2.1, ())))))), (t6.1, (x.2.2.2.2.1, (x.2.2.2.2.2.1, ()))))))) else (none)) else (ke (((), ((), ((), (x.2.2.1.2.2.2.1, ((), (x.2.2.1.2.2.2.2.2.1, ())))))), (x.2.2.2.1, (x.2.2.2.2.1, (x.2.2.2.2.2.1, ())))))
def Q3.l1 (k : Nat) : Nat → Q3.l1.σ → Option Q3.l1.τ := Q1j (Q3.l1.r k)
def Q3.l1.T : StT := ⟨.ptr 0 [] :: us 13 ++ .vsl 3 :: .dat (.int .i64) :: .dat (.int .i64) :: us 13, [.pair (.mp 1) (.pair (.mp 2) (.pair (.vsl 3) (.pair (.dat (.int .i64)) (.pair (.nils) (.dat QeH))))), .mpd .str .str, .mpd .str .str, .vec Qex]⟩
def Q3.l1.os : List Out := [⟨(.exit 0), [.mask [0], .auto 3], ⟨.ptr 0 [] :: us 29, [.pair (.mp 1) (.pair (.mp 2) (.pair (.vsl 3) (.pair (.dat (.int .i64)) (.pair (.nils) (.dat QeH))))), .mpd .str .str, .mpd .str .str, .vec Qex]⟩⟩]
abbrev Q3.τ : Type := Qep ⊕ Qev 
def Q3.c (k : Nat) {ρ : Type} (b0 : QeC) (b1 : QeG) (b2 : QeG) (b3 : Qez) (K : Q3.τ → Option ρ) : Option ρ :=
  (Q3.p0 k (((), ((), ((), (b0.2.2.2.1, ((), (b0.2.2.2.2.2.1, ())))))), (b1, (b2, (b3, ()))))).bind fun t2 => (match t2 with
 | .inl t3 => (K (.inl (t3.1, (((), ((), ((), (t3.2.1.2.2.2.1, ((), (t3.2.1.2.2.2.2.2.1, ())))))), (t3.2.2.1, (t3.2.2.2.1, (t3.2.2.2.2.1, ())))))))
 | .inr (t4) => (let v5 : Int := (((List.length t4.2.2.2.1) : Nat) : Int)
  (Q3.l1 k k (v5, ((0 : Int), (((), ((), ((), (t4.1.2.2.2.1, ((), (t4.1.2.2.2.2.2.1, ())))))), (t4.2.1, (t4.2.2.1, (t4.2.2.2.1, ()))))))).bind fun t8 => K (.inr ((0 : Int), (((), ((), ((), (t8.1.2.2.2.1, ((), (t8.1.2.2.2.2.2.1, ())))))), (t8.2.1, (t8.2.2.1, ())))))))
def Q3 (k : Nat) (b0 : QeC) (b1 : QeG) (b2 : QeG) (b3 : Qez) : Option Q3.τ := Q3.c k b0 b1 b2 b3 some
def Q3.T : Q13 := ⟨[.ptr 0 []], [.pair (.mp 1) (.pair (.mp 2) (.pair (.vsl 3) (.pair (.dat (.int .i64)) (.pair (.nils) (.dat QeH))))), .mpd .str .str, .mpd .str .str, .vec Qex], 3⟩
def Q3.os : List Out := [⟨.ret, [.freeze (.slot 0), .auto 3], ⟨[.dat (.int .i64)], [.pair (.mp 1) (.pair (.mp 2) (.pair (.vsl 3) (.pair (.dat (.int .i64)) (.pair (.nils) (.dat QeH))))), .mpd .str .str, .mpd .str .str, .vec Qex]⟩⟩, ⟨.ret, [.freeze (.slot 0), .auto 3], ⟨[.dat (.int .i64)], [.pair (.mp 1) (.pair (.mp 2) (.pair (.nils) (.pair (.dat (.int .i64)) (.pair (.nils) (.dat QeH))))), .mpd .str .str, .mpd .str .str]⟩⟩]
def Q3.sem (k : Nat) : QP := Q14 Q3.T Q3.os fun x => Q3 k x.1 x.2.1 x.2.2.1 x.2.2.2.1
noncomputable def Q3.ctx (k : Nat) : Ctx := ⟨Try.prog, gam [(30, (Q0p.sem k)), (76, (Qb.sem k)), (77, (Q0D.sem k))]⟩
theorem Q3.gok (k : Nat) : ∀ f, Qw Try.prog f ((Q3.ctx k).Γ f) := (Qe (Q0p.sem_ok k) (Qe (Qb.sem_ok k) (Qe (Q0D.sem_ok k) Q0b)))
theorem Q3.p0.is (k : Nat) : Q20 (Q3.ctx k) (Q0K (Func.code Try.f56) [1, 0]) (.nil) Q3.p0.T Q3.p0.os (Q3.p0.r k) := by
 intro ρ x K; kernel_rfl
theorem Q3.p0.ok (k : Nat) : StOK 3 Try.prog (Q0K (Func.code Try.f56) [1, 0]) (Q01 Q3.p0.T Q3.p0.os (Q3.p0 k)) :=
 Q1O (C := Q3.ctx k) (T := Q3.p0.T) (os := Q3.p0.os) (Q3.gok k) Try.mix (fun x K => Q3.p0.r k x K) Q1.nil (by kernel_rfl) (by kernel_rfl) (Q3.p0.is k)
theorem Q3.l1.round (k : Nat) : Q1e (Q3.ctx k) (Q0K (Func.code Try.f56) [1, 1, 0, 1, 0, 0]) (.nil) Q3.l1.T [.mask [0, 14, 15, 16], .auto 3] Q3.l1.os (Q3.l1.r k) := by
 intro ρ x kn ke; kernel_rfl
theorem Q3.l1.ok (k : Nat) : StOK 3 Try.prog (.loop (Q0K (Func.code Try.f56) [1, 1, 0, 1, 0, 0])) (Q01 Q3.l1.T Q3.l1.os (Q3.l1 k k)) :=
 Q1i (C := Q3.ctx k) (Q3.gok k) Try.mix Q1.nil (by kernel_rfl) (by kernel_rfl) (by kernel_rfl) (Q3.l1.round k) k
def Q3.ann (k : Nat) : Ann := .node [] none (.nil) (.node [] none (.node [.mask [0], .auto 3] (some (Q01 Q3.p0.T Q3.p0.os (Q3.p0 k))) .nil .nil) (.node [] none (.node [] none (.nil) (.node [] none (.node [.mask [0, 14, 15, 16], .auto 3] (some (Q01 Q3.l1.T Q3.l1.os (Q3.l1 k k))) .nil .nil) (.nil))) (.nil)))
theorem Q3.body (k : Nat) : Q16 (Q3.ctx k) Try.f56 (Func.code Try.f56) (Q3.ann k) Q3.T Q3.os (fun x K => Q3.c k x.1 x.2.1 x.2.2.1 x.2.2.2.1 K) := by
 intro ρ x K; kernel_rfl
theorem Q3.sem_ok (k : Nat) : Qw Try.prog 56 (Q3.sem k) :=
 Q0r (C := Q3.ctx k) (Q3.gok k) Try.mix (c := Func.code Try.f56) (ann := Q3.ann k) (T := Q3.T) (os := Q3.os) (fun x K => Q3.c k x.1 x.2.1 x.2.2.1 x.2.2.2.1 K) Try.func56 (by kernel_rfl) (by kernel_rfl) (Q1.seq Q1.nil (Q1.seq (Q1.loop (by kernel_rfl) (Q3.p0.ok k)) (Q1.seq (Q1.seq Q1.nil (Q1.block (Q1.loop (by kernel_rfl) (Q3.l1.ok k)))) Q1.nil))) (Q3.body k) (by kernel_rfl) (by kernel_rfl) (by kernel_rfl)
abbrev Q0m.τ : Type := Qep 
def Q0m.c (k : Nat) {ρ : Type} (names : (List ByteArray)) (b0 : QeC) (b1 : QeG) (b2 : QeG) (b3 : Qez) (K : Q0m.τ → Option ρ) : Option ρ :=
 (Q0p k ((), ((), ((), (b0.2.2.2.1, ((), (b0.2.2.2.2.2.1, ())))))) b1 b2 b3).bind fun t0 => bif t0.1 then (K ((7 : Int), (((), ((), ((), (t0.2.1.2.2.2.1, ((), (t0.2.1.2.2.2.2.2.1, ())))))), (t0.2.2.1, (t0.2.2.2.1, (t0.2.2.2.2.1, ())))))) else ((Qi k names).bind fun t1 => K (t1.1, (((), ((), ((), (t0.2.1.2.2.2.1, ((), (t0.2.1.2.2.2.2.2.1, ())))))), (t0.2.2.1, (t0.2.2.2.1, (t0.2.2.2.2.1, ()))))))
def Q0m (k : Nat) (names : (List ByteArray)) (b0 : QeC) (b1 : QeG) (b2 : QeG) (b3 : Qez) : Option Q0m.τ := Q0m.c k names b0 b1 b2 b3 some
def Q0m.T : Q13 := ⟨[.ptr 0 [], .dat (.sl .str)], [.pair (.mp 1) (.pair (.mp 2) (.pair (.vsl 3) (.pair (.dat (.int .i64)) (.pair (.nils) (.dat QeH))))), .mpd .str .str, .mpd .str .str, .vec Qex], 3⟩
def Q0m.os : List Out := [⟨.ret, [.freeze (.slot 0), .auto 3], ⟨[.dat (.int .i64)], [.pair (.mp 1) (.pair (.mp 2) (.pair (.vsl 3) (.pair (.dat (.int .i64)) (.pair (.nils) (.dat QeH))))), .mpd .str .str, .mpd .str .str, .vec Qex]⟩⟩]
def Q0m.sem (k : Nat) : QP := Q14 Q0m.T Q0m.os fun x => Q0m k x.1 x.2.1 x.2.2.1 x.2.2.2.1 x.2.2.2.2.1
noncomputable def Q0m.ctx (k : Nat) : Ctx := ⟨Try.prog, gam [(30, (Q0p.sem k)), (89, (Qi.sem k))]⟩
theorem Q0m.gok (k : Nat) : ∀ f, Qw Try.prog f ((Q0m.ctx k).Γ f) := (Qe (Q0p.sem_ok k) (Qe (Qi.sem_ok k) Q0b))
def Q0m.ann (k : Nat) : Ann := .nil
theorem Q0m.body (k : Nat) : Q16 (Q0m.ctx k) Try.f79 (Func.code Try.f79) (Q0m.ann k) Q0m.T Q0m.os (fun x K => Q0m.c k x.1 x.2.1 x.2.2.1 x.2.2.2.1 x.2.2.2.2.1 K) := by
 intro ρ x K; kernel_rfl
theorem Q0m.sem_ok (k : Nat) : Qw Try.prog 79 (Q0m.sem k) :=
 Q0r (C := Q0m.ctx k) (Q0m.gok k) Try.mix (c := Func.code Try.f79) (ann := Q0m.ann k) (T := Q0m.T) (os := Q0m.os) (fun x K => Q0m.c k x.1 x.2.1 x.2.2.1 x.2.2.2.1 x.2.2.2.2.1 K) Try.func79 (by kernel_rfl) (by kernel_rfl) Q1.nil (Q0m.body k) (by kernel_rfl) (by kernel_rfl) (by kernel_rfl)
abbrev Q0i.τ : Type := Qep 
def Q0i.c (k : Nat) {ρ : Type} (c : QeA) (b0 : QeC) (b1 : QeG) (b2 : QeG) (b3 : Qez) (K : Q0i.τ → Option ρ) : Option ρ :=
 (Qb k false ((), ((), ((), (b0.2.2.2.1, ((), (b0.2.2.2.2.2.1, ())))))) b1 b2 b3).bind fun t0 => bif t0.1 then (K ((7 : Int), (((), ((), ((), (t0.2.1.2.2.2.1, ((), (t0.2.1.2.2.2.2.2.1, ())))))), (t0.2.2.1, (t0.2.2.2.1, (t0.2.2.2.2.1, ())))))) else ((Q0D k (c.1, (c.2.1, (c.2.2.1, (c.2.2.2.1, (c.2.2.2.2.1, ()))))) t0.2.2.2.1).bind fun t1 => bif (Nat.ble (((List.length t0.2.2.2.2.1) + (List.length (List.set (List.replicate 1 ((0 : Int), (ByteArray.empty, (ByteArray.empty, ((0 : Int), (ByteArray.empty, ())))))) 0 (c.1, (c.2.1, (c.2.2.1, (c.2.2.2.1, (c.2.2.2.2.1, ())))))))) * 64) 140737488355328) then (let v2 : Int := t0.2.1.2.2.2.1
 let v3 : Int := (IntKind.wrap IntKind.i64 (v2 + (1 : Int)))
 K ((0 : Int), (((), ((), ((), (v3, ((), (t0.2.1.2.2.2.2.2.1, ())))))), (t0.2.2.1, (t1.1, ((t0.2.2.2.2.1 ++ (List.set (List.replicate 1 ((0 : Int), (ByteArray.empty, (ByteArray.empty, ((0 : Int), (ByteArray.empty, ())))))) 0 (c.1, (c.2.1, (c.2.2.1, (c.2.2.2.1, (c.2.2.2.2.1, ()))))))), ())))))) else (none))
def Q0i (k : Nat) (c : QeA) (b0 : QeC) (b1 : QeG) (b2 : QeG) (b3 : Qez) : Option Q0i.τ := Q0i.c k c b0 b1 b2 b3 some
def Q0i.T : Q13 := ⟨[.ptr 0 [], .dat Qex], [.pair (.mp 1) (.pair (.mp 2) (.pair (.vsl 3) (.pair (.dat (.int .i64)) (.pair (.nils) (.dat QeH))))), .mpd .str .str, .mpd .str .str, .vec Qex], 3⟩
def Q0i.os : List Out := [⟨.ret, [.freeze (.slot 0), .auto 3], ⟨[.dat (.int .i64)], [.pair (.mp 1) (.pair (.mp 2) (.pair (.vsl 3) (.pair (.dat (.int .i64)) (.pair (.nils) (.dat QeH))))), .mpd .str .str, .mpd .str .str, .vec Qex]⟩⟩]
def Q0i.sem (k : Nat) : QP := Q14 Q0i.T Q0i.os fun x => Q0i k x.1 x.2.1 x.2.2.1 x.2.2.2.1 x.2.2.2.2.1
noncomputable def Q0i.ctx (k : Nat) : Ctx := ⟨Try.prog, gam [(76, (Qb.sem k)), (77, (Q0D.sem k))]⟩
theorem Q0i.gok (k : Nat) : ∀ f, Qw Try.prog f ((Q0i.ctx k).Γ f) := (Qe (Qb.sem_ok k) (Qe (Q0D.sem_ok k) Q0b))
def Q0i.ann (k : Nat) : Ann := .nil
theorem Q0i.body (k : Nat) : Q16 (Q0i.ctx k) Try.f74 (Func.code Try.f74) (Q0i.ann k) Q0i.T Q0i.os (fun x K => Q0i.c k x.1 x.2.1 x.2.2.1 x.2.2.2.1 x.2.2.2.2.1 K) := by
 intro ρ x K; kernel_rfl
theorem Q0i.sem_ok (k : Nat) : Qw Try.prog 74 (Q0i.sem k) :=
 Q0r (C := Q0i.ctx k) (Q0i.gok k) Try.mix (c := Func.code Try.f74) (ann := Q0i.ann k) (T := Q0i.T) (os := Q0i.os) (fun x K => Q0i.c k x.1 x.2.1 x.2.2.1 x.2.2.2.1 x.2.2.2.2.1 K) Try.func74 (by kernel_rfl) (by kernel_rfl) Q1.nil (Q0i.body k) (by kernel_rfl) (by kernel_rfl) (by kernel_rfl)
abbrev Q06.τ : Type := Qep 
def Q06.c (k : Nat) {ρ : Type} (name : ByteArray) (at_2 : Int) (s : ByteArray) (b0 : QeC) (b1 : QeG) (b2 : QeG) (b3 : Qez) (K : Q06.τ → Option ρ) : Option ρ :=
 (Q0m k (List.set (List.replicate 1 ByteArray.empty) 0 name) ((), ((), ((), (b0.2.2.2.1, ((), (b0.2.2.2.2.2.1, ())))))) b1 b2 b3).bind fun t0 => bif (t0.1 != (0 : Int)) then (K (t0.1, (((), ((), ((), (t0.2.1.2.2.2.1, ((), (t0.2.1.2.2.2.2.2.1, ())))))), (t0.2.2.1, (t0.2.2.2.1, (t0.2.2.2.2.1, ())))))) else (let v1 : ByteArray := (Option.getD (mget Ty.str name t0.2.2.2.1) ByteArray.empty)
 bif (decide (at_2 < (0 : Int))) then (K ((1 : Int), (((), ((), ((), (t0.2.1.2.2.2.1, ((), (t0.2.1.2.2.2.2.2.1, ())))))), (t0.2.2.1, (t0.2.2.2.1, (t0.2.2.2.2.1, ())))))) else (bif (decide (at_2 > (((ByteArray.size v1) : Nat) : Int))) then (K ((1 : Int), (((), ((), ((), (t0.2.1.2.2.2.1, ((), (t0.2.1.2.2.2.2.2.1, ())))))), (t0.2.2.1, (t0.2.2.2.1, (t0.2.2.2.2.1, ())))))) else (let v2 : Int := (IntKind.wrap IntKind.i64 ((16777216 : Int) - at_2))
 bif (decide ((((ByteArray.size s) : Nat) : Int) > v2)) then (K ((71 : Int), (((), ((), ((), (t0.2.1.2.2.2.1, ((), (t0.2.1.2.2.2.2.2.1, ())))))), (t0.2.2.1, (t0.2.2.2.1, (t0.2.2.2.2.1, ())))))) else (bif (!(Option.isSome (mget Ty.str name t0.2.2.2.1))) then (let v3 : Int := (((List.length t0.2.2.2.1) : Nat) : Int)
 bif (decide (v3 ≥ (64 : Int))) then (K ((71 : Int), (((), ((), ((), (t0.2.1.2.2.2.1, ((), (t0.2.1.2.2.2.2.2.1, ())))))), (t0.2.2.1, (t0.2.2.2.1, (t0.2.2.2.2.1, ())))))) else ((Q0i k ((0 : Int), (name, ((⟨(List.toArray [])⟩ : ByteArray), (at_2, (s, ()))))) ((), ((), ((), (t0.2.1.2.2.2.1, ((), (t0.2.1.2.2.2.2.2.1, ())))))) t0.2.2.1 t0.2.2.2.1 t0.2.2.2.2.1).bind fun t4 => K (t4.1, (((), ((), ((), (t4.2.1.2.2.2.1, ((), (t4.2.1.2.2.2.2.2.1, ())))))), (t4.2.2.1, (t4.2.2.2.1, (t4.2.2.2.2.1, ()))))))) else ((Q0i k ((0 : Int), (name, ((⟨(List.toArray [])⟩ : ByteArray), (at_2, (s, ()))))) ((), ((), ((), (t0.2.1.2.2.2.1, ((), (t0.2.1.2.2.2.2.2.1, ())))))) t0.2.2.1 t0.2.2.2.1 t0.2.2.2.2.1).bind fun t5 => K (t5.1, (((), ((), ((), (t5.2.1.2.2.2.1, ((), (t5.2.1.2.2.2.2.2.1, ())))))), (t5.2.2.1, (t5.2.2.2.1, (t5.2.2.2.2.1, ()))))))))))
def Q06 (k : Nat) (name : ByteArray) (at_2 : Int) (s : ByteArray) (b0 : QeC) (b1 : QeG) (b2 : QeG) (b3 : Qez) : Option Q06.τ := Q06.c k name at_2 s b0 b1 b2 b3 some
def Q06.T : Q13 := ⟨[.ptr 0 [], .dat .str, .dat (.int .i64), .dat .str], [.pair (.mp 1) (.pair (.mp 2) (.pair (.vsl 3) (.pair (.dat (.int .i64)) (.pair (.nils) (.dat QeH))))), .mpd .str .str, .mpd .str .str, .vec Qex], 3⟩
def Q06.os : List Out := [⟨.ret, [.freeze (.slot 0), .auto 3], ⟨[.dat (.int .i64)], [.pair (.mp 1) (.pair (.mp 2) (.pair (.vsl 3) (.pair (.dat (.int .i64)) (.pair (.nils) (.dat QeH))))), .mpd .str .str, .mpd .str .str, .vec Qex]⟩⟩]
def Q06.sem (k : Nat) : QP := Q14 Q06.T Q06.os fun x => Q06 k x.1 x.2.1 x.2.2.1 x.2.2.2.1 x.2.2.2.2.1 x.2.2.2.2.2.1 x.2.2.2.2.2.2.1
noncomputable def Q06.ctx (k : Nat) : Ctx := ⟨Try.prog, gam [(79, (Q0m.sem k)), (74, (Q0i.sem k))]⟩
theorem Q06.gok (k : Nat) : ∀ f, Qw Try.prog f ((Q06.ctx k).Γ f) := (Qe (Q0m.sem_ok k) (Qe (Q0i.sem_ok k) Q0b))
def Q06.ann (k : Nat) : Ann := .nil
theorem Q06.body (k : Nat) : Q16 (Q06.ctx k) Try.f72 (Func.code Try.f72) (Q06.ann k) Q06.T Q06.os (fun x K => Q06.c k x.1 x.2.1 x.2.2.1 x.2.2.2.1 x.2.2.2.2.1 x.2.2.2.2.2.1 x.2.2.2.2.2.2.1 K) := by
 intro ρ x K; kernel_rfl
theorem Q06.sem_ok (k : Nat) : Qw Try.prog 72 (Q06.sem k) :=
 Q0r (C := Q06.ctx k) (Q06.gok k) Try.mix (c := Func.code Try.f72) (ann := Q06.ann k) (T := Q06.T) (os := Q06.os) (fun x K => Q06.c k x.1 x.2.1 x.2.2.1 x.2.2.2.1 x.2.2.2.2.1 x.2.2.2.2.2.1 x.2.2.2.2.2.2.1 K) Try.func72 (by kernel_rfl) (by kernel_rfl) Q1.nil (Q06.body k) (by kernel_rfl) (by kernel_rfl) (by kernel_rfl)
abbrev QE.p0.σ : Type := ByteArray × QeC × QeG × QeG × Unit
abbrev QE.p0.τ : Type := Qev ⊕ Qet ⊕ Qep ⊕ Qen 
def QE.p0.r (k : Nat) {ρ : Type} (x : QE.p0.σ) (K : QE.p0.τ → Option ρ) : Option ρ :=
  (Q0J k x.1 ((), ((), ((), (x.2.1.2.2.2.1, ((), (x.2.1.2.2.2.2.2.1, ())))))) x.2.2.1 x.2.2.2.1).bind fun t0 => let v1 : Int := t0.1
  let v2 : Int := t0.2.1
  bif (v2 == (0 : Int)) then ((Q0y k x.1 (0 : Int) ((), ((), ((), (t0.2.2.1.2.2.2.1, ((), (t0.2.2.1.2.2.2.2.2.1, ())))))) t0.2.2.2.1 t0.2.2.2.2.1).bind fun t3 => (match t3 with
 | .inl t4 => (bif (t4.1 != (0 : Int)) then (K (.inl (t4.1, (((), ((), ((), (t4.2.1.2.2.2.1, ((), (t4.2.1.2.2.2.2.2.1, ())))))), (t4.2.2.1, (t4.2.2.2.1, ())))))) else (K (.inr (.inl (x.1, (((), ((), ((), (t4.2.1.2.2.2.1, ((), (t4.2.1.2.2.2.2.2.1, ())))))), (t4.2.2.1, (t4.2.2.2.1, ()))))))))
 | .inr (t5) => (bif (t5.1 != (0 : Int)) then (K (.inr (.inr (.inl (t5.1, (((), ((), ((), (t5.2.1.2.2.2.1, ((), (t5.2.1.2.2.2.2.2.1, ())))))), (t5.2.2.1, (t5.2.2.2.1, (t5.2.2.2.2.1, ()))))))))) else (K (.inr (.inr (.inr (x.1, (((), ((), ((), (t5.2.1.2.2.2.1, ((), (t5.2.1.2.2.2.2.2.1, ())))))), (t5.2.2.1, (t5.2.2.2.1, (t5.2.2.2.2.1, ())))))))))))) else (K (.inr (.inl (x.1, (((), ((), ((), (t0.2.2.1.2.2.2.1, ((), (t0.2.2.1.2.2.2.2.2.1, ())))))), (t0.2.2.2.1, (t0.2.2.2.2.1, ())))))))
def QE.p0 (k : Nat) (x : QE.p0.σ) : Option QE.p0.τ := QE.p0.r k x some
def QE.p0.T : StT := ⟨.ptr 0 [] :: .dat .str :: us 30, [.pair (.mp 1) (.pair (.mp 2) (.pair (.nils) (.pair (.dat (.int .i64)) (.pair (.nils) (.dat QeH))))), .mpd .str .str, .mpd .str .str]⟩
def QE.p0.os : List Out := [⟨.ret, [.mask [4], .auto 3], ⟨us 4 ++ .dat (.int .i64) :: us 27, [.pair (.mp 1) (.pair (.mp 2) (.pair (.nils) (.pair (.dat (.int .i64)) (.pair (.nils) (.dat QeH))))), .mpd .str .str, .mpd .str .str]⟩⟩, ⟨.normal, [.mask [0, 1], .auto 3], ⟨.ptr 0 [] :: .dat .str :: us 30, [.pair (.mp 1) (.pair (.mp 2) (.pair (.nils) (.pair (.dat (.int .i64)) (.pair (.nils) (.dat QeH))))), .mpd .str .str, .mpd .str .str]⟩⟩, ⟨.ret, [.mask [4], .auto 3], ⟨us 4 ++ .dat (.int .i64) :: us 27, [.pair (.mp 1) (.pair (.mp 2) (.pair (.vsl 3) (.pair (.dat (.int .i64)) (.pair (.nils) (.dat QeH))))), .mpd .str .str, .mpd .str .str, .vec Qex]⟩⟩, ⟨.normal, [.mask [0, 1], .auto 3], ⟨.ptr 0 [] :: .dat .str :: us 30, [.pair (.mp 1) (.pair (.mp 2) (.pair (.vsl 3) (.pair (.dat (.int .i64)) (.pair (.nils) (.dat QeH))))), .mpd .str .str, .mpd .str .str, .vec Qex]⟩⟩]
abbrev QE.τ : Type := Qev ⊕ Qep 
def QE.c (k : Nat) {ρ : Type} (name : ByteArray) (b0 : QeC) (b1 : QeG) (b2 : QeG) (K : QE.τ → Option ρ) : Option ρ :=
  (QE.p0 k (name, (((), ((), ((), (b0.2.2.2.1, ((), (b0.2.2.2.2.2.1, ())))))), (b1, (b2, ()))))).bind fun t6 => (match t6 with
 | .inl t7 => (K (.inl (t7.1, (((), ((), ((), (t7.2.1.2.2.2.1, ((), (t7.2.1.2.2.2.2.2.1, ())))))), (t7.2.2.1, (t7.2.2.2.1, ()))))))
 | .inr (.inl t8) => ((Q0n k (0 : Int)).bind fun t9 => (Q0g k t8.1 (0 : Int) t9.1 ((), ((), ((), (t8.2.1.2.2.2.1, ((), (t8.2.1.2.2.2.2.2.1, ())))))) t8.2.2.1 t8.2.2.2.1).bind fun t10 => (match t10 with
 | .inl t11 => (bif (t11.1 != (0 : Int)) then (K (.inl (t11.1, (((), ((), ((), (t11.2.1.2.2.2.1, ((), (t11.2.1.2.2.2.2.2.1, ())))))), (t11.2.2.1, (t11.2.2.2.1, ())))))) else ((Q9 k ((), ((), ((), (t11.2.1.2.2.2.1, ((), (t11.2.1.2.2.2.2.2.1, ())))))) t11.2.2.1 t11.2.2.2.1).bind fun t12 => K (.inl (t12.1, (((), ((), ((), (t12.2.1.2.2.2.1, ((), (t12.2.1.2.2.2.2.2.1, ())))))), (t12.2.2.1, (t12.2.2.2.1, ())))))))
 | .inr (t13) => (bif (t13.1 != (0 : Int)) then (K (.inr (t13.1, (((), ((), ((), (t13.2.1.2.2.2.1, ((), (t13.2.1.2.2.2.2.2.1, ())))))), (t13.2.2.1, (t13.2.2.2.1, (t13.2.2.2.2.1, ()))))))) else ((Q3 k ((), ((), ((), (t13.2.1.2.2.2.1, ((), (t13.2.1.2.2.2.2.2.1, ())))))) t13.2.2.1 t13.2.2.2.1 t13.2.2.2.2.1).bind fun t14 => (match t14 with
 | .inl t15 => (K (.inr (t15.1, (((), ((), ((), (t15.2.1.2.2.2.1, ((), (t15.2.1.2.2.2.2.2.1, ())))))), (t15.2.2.1, (t15.2.2.2.1, (t15.2.2.2.2.1, ())))))))
 | .inr (t16) => (K (.inl (t16.1, (((), ((), ((), (t16.2.1.2.2.2.1, ((), (t16.2.1.2.2.2.2.2.1, ())))))), (t16.2.2.1, (t16.2.2.2.1, ())))))))))))
 | .inr (.inr (.inl t17)) => (K (.inr (t17.1, (((), ((), ((), (t17.2.1.2.2.2.1, ((), (t17.2.1.2.2.2.2.2.1, ())))))), (t17.2.2.1, (t17.2.2.2.1, (t17.2.2.2.2.1, ())))))))
 | .inr (.inr (.inr (t18))) => ((Q0n k (0 : Int)).bind fun t19 => (Q06 k t18.1 (0 : Int) t19.1 ((), ((), ((), (t18.2.1.2.2.2.1, ((), (t18.2.1.2.2.2.2.2.1, ())))))) t18.2.2.1 t18.2.2.2.1 t18.2.2.2.2.1).bind fun t20 => bif (t20.1 != (0 : Int)) then (K (.inr (t20.1, (((), ((), ((), (t20.2.1.2.2.2.1, ((), (t20.2.1.2.2.2.2.2.1, ())))))), (t20.2.2.1, (t20.2.2.2.1, (t20.2.2.2.2.1, ()))))))) else ((Q3 k ((), ((), ((), (t20.2.1.2.2.2.1, ((), (t20.2.1.2.2.2.2.2.1, ())))))) t20.2.2.1 t20.2.2.2.1 t20.2.2.2.2.1).bind fun t21 => (match t21 with
 | .inl t22 => (K (.inr (t22.1, (((), ((), ((), (t22.2.1.2.2.2.1, ((), (t22.2.1.2.2.2.2.2.1, ())))))), (t22.2.2.1, (t22.2.2.2.1, (t22.2.2.2.2.1, ())))))))
 | .inr (t23) => (K (.inl (t23.1, (((), ((), ((), (t23.2.1.2.2.2.1, ((), (t23.2.1.2.2.2.2.2.1, ())))))), (t23.2.2.1, (t23.2.2.2.1, ()))))))))))
def QE (k : Nat) (name : ByteArray) (b0 : QeC) (b1 : QeG) (b2 : QeG) : Option QE.τ := QE.c k name b0 b1 b2 some
def QE.T : Q13 := ⟨[.ptr 0 [], .dat .str], [.pair (.mp 1) (.pair (.mp 2) (.pair (.nils) (.pair (.dat (.int .i64)) (.pair (.nils) (.dat QeH))))), .mpd .str .str, .mpd .str .str], 3⟩
def QE.os : List Out := [⟨.ret, [.freeze (.slot 0), .auto 3], ⟨[.dat (.int .i64)], [.pair (.mp 1) (.pair (.mp 2) (.pair (.nils) (.pair (.dat (.int .i64)) (.pair (.nils) (.dat QeH))))), .mpd .str .str, .mpd .str .str]⟩⟩, ⟨.ret, [.freeze (.slot 0), .auto 3], ⟨[.dat (.int .i64)], [.pair (.mp 1) (.pair (.mp 2) (.pair (.vsl 3) (.pair (.dat (.int .i64)) (.pair (.nils) (.dat QeH))))), .mpd .str .str, .mpd .str .str, .vec Qex]⟩⟩]
def QE.sem (k : Nat) : QP := Q14 QE.T QE.os fun x => QE k x.1 x.2.1 x.2.2.1 x.2.2.2.1
noncomputable def QE.ctx (k : Nat) : Ctx := ⟨Try.prog, gam [(86, (Q0J.sem k)), (55, (Q0y.sem k)), (9, (Q0n.sem k)), (72, (Q27 (Q2d Q0g.T) (Q0g.sem k) (Q06.sem k))), (56, (Q27 (Q2d Q9.T) (Q9.sem k) (Q3.sem k)))]⟩
theorem QE.gok (k : Nat) : ∀ f, Qw Try.prog f ((QE.ctx k).Γ f) := (Qe (Q0J.sem_ok k) (Qe (Q0y.sem_ok k) (Qe (Q0n.sem_ok k) (Qe (Q1p (Q0g.sem_ok k) (Q06.sem_ok k)) (Qe (Q1p (Q9.sem_ok k) (Q3.sem_ok k)) Q0b)))))
theorem QE.p0.is (k : Nat) : Q20 (QE.ctx k) (Q0K (Func.code Try.f75) [1, 0]) (.nil) QE.p0.T QE.p0.os (QE.p0.r k) := by
 intro ρ x K; kernel_rfl
theorem QE.p0.ok (k : Nat) : StOK 3 Try.prog (Q0K (Func.code Try.f75) [1, 0]) (Q01 QE.p0.T QE.p0.os (QE.p0 k)) :=
 Q1O (C := QE.ctx k) (T := QE.p0.T) (os := QE.p0.os) (QE.gok k) Try.mix (fun x K => QE.p0.r k x K) Q1.nil (by kernel_rfl) (by kernel_rfl) (QE.p0.is k)
def QE.ann (k : Nat) : Ann := .node [] none (.nil) (.node [] none (.node [.mask [0, 1], .auto 3] (some (Q01 QE.p0.T QE.p0.os (QE.p0 k))) .nil .nil) (.nil))
theorem QE.body (k : Nat) : Q16 (QE.ctx k) Try.f75 (Func.code Try.f75) (QE.ann k) QE.T QE.os (fun x K => QE.c k x.1 x.2.1 x.2.2.1 x.2.2.2.1 K) := by
 intro ρ x K; kernel_rfl
theorem QE.sem_ok (k : Nat) : Qw Try.prog 75 (QE.sem k) :=
 Q0r (C := QE.ctx k) (QE.gok k) Try.mix (c := Func.code Try.f75) (ann := QE.ann k) (T := QE.T) (os := QE.os) (fun x K => QE.c k x.1 x.2.1 x.2.2.1 x.2.2.2.1 K) Try.func75 (by kernel_rfl) (by kernel_rfl) (Q1.seq Q1.nil (Q1.seq (Q1.loop (by kernel_rfl) (QE.p0.ok k)) Q1.nil)) (QE.body k) (by kernel_rfl) (by kernel_rfl) (by kernel_rfl)
abbrev Qu.p0.σ : Type := ByteArray × ByteArray × Int × QeC × QeG × QeG × Unit
abbrev Qu.p0.τ : Type := Qes ⊕ Qer 
def Qu.p0.r (k : Nat) {ρ : Type} (x : Qu.p0.σ) (K : Qu.p0.τ → Option ρ) : Option ρ :=
 bif (x.2.2.1 != (0 : Int)) then (bif (x.2.2.1 != (2 : Int)) then (K (.inl ((⟨(List.toArray [])⟩ : ByteArray), (x.2.2.1, (((), ((), ((), (x.2.2.2.1.2.2.2.1, ((), (x.2.2.2.1.2.2.2.2.2.1, ())))))), (x.2.2.2.2.1, (x.2.2.2.2.2.1, ()))))))) else (K (.inr (x.1, (x.2.1, (((), ((), ((), (x.2.2.2.1.2.2.2.1, ((), (x.2.2.2.1.2.2.2.2.2.1, ())))))), (x.2.2.2.2.1, (x.2.2.2.2.2.1, ())))))))) else (K (.inr (x.1, (x.2.1, (((), ((), ((), (x.2.2.2.1.2.2.2.1, ((), (x.2.2.2.1.2.2.2.2.2.1, ())))))), (x.2.2.2.2.1, (x.2.2.2.2.2.1, ())))))))
def Qu.p0 (k : Nat) (x : Qu.p0.σ) : Option Qu.p0.τ := Qu.p0.r k x some
def Qu.p0.T : StT := ⟨.ptr 0 [] :: .dat .str :: us 4 ++ .dat .str :: .dat (.int .i64) :: us 25, [.pair (.mp 1) (.pair (.mp 2) (.pair (.nils) (.pair (.dat (.int .i64)) (.pair (.nils) (.dat QeH))))), .mpd .str .str, .mpd .str .str]⟩
def Qu.p0.os : List Out := [⟨.ret, [.mask [4, 5], .auto 3], ⟨us 4 ++ .dat .str :: .dat (.int .i64) :: us 27, [.pair (.mp 1) (.pair (.mp 2) (.pair (.nils) (.pair (.dat (.int .i64)) (.pair (.nils) (.dat QeH))))), .mpd .str .str, .mpd .str .str]⟩⟩, ⟨.normal, [.mask [0, 1, 6], .auto 3], ⟨.ptr 0 [] :: .dat .str :: us 4 ++ .dat .str :: us 26, [.pair (.mp 1) (.pair (.mp 2) (.pair (.nils) (.pair (.dat (.int .i64)) (.pair (.nils) (.dat QeH))))), .mpd .str .str, .mpd .str .str]⟩⟩]
abbrev Qu.τ : Type := Qes ⊕ Qem 
def Qu.c (k : Nat) {ρ : Type} (name : ByteArray) (b0 : QeC) (b1 : QeG) (b2 : QeG) (K : Qu.τ → Option ρ) : Option ρ :=
  (Q0A k name ((), ((), ((), (b0.2.2.2.1, ((), (b0.2.2.2.2.2.1, ())))))) b1 b2).bind fun t0 => let v1 : ByteArray := t0.1
  let v2 : Int := t0.2.1
  (Qu.p0 k (name, (v1, (v2, (((), ((), ((), (t0.2.2.1.2.2.2.1, ((), (t0.2.2.1.2.2.2.2.2.1, ())))))), (t0.2.2.2.1, (t0.2.2.2.2.1, ()))))))).bind fun t3 => (match t3 with
 | .inl t4 => (K (.inl (t4.1, (t4.2.1, (((), ((), ((), (t4.2.2.1.2.2.2.1, ((), (t4.2.2.1.2.2.2.2.2.1, ())))))), (t4.2.2.2.1, (t4.2.2.2.2.1, ())))))))
 | .inr (t5) => (let v6 : Int := (((ByteArray.size t5.2.1) : Nat) : Int)
  bif (decide (v6 ≥ (20 : Int))) then (K (.inl (t5.2.1, ((0 : Int), (((), ((), ((), (t5.2.2.1.2.2.2.1, ((), (t5.2.2.1.2.2.2.2.2.1, ())))))), (t5.2.2.2.1, (t5.2.2.2.2.1, ()))))))) else ((QE k t5.1 ((), ((), ((), (t5.2.2.1.2.2.2.1, ((), (t5.2.2.1.2.2.2.2.2.1, ())))))) t5.2.2.2.1 t5.2.2.2.2.1).bind fun t7 => (match t7 with
 | .inl t8 => (bif (t8.1 != (0 : Int)) then (K (.inl ((⟨(List.toArray [])⟩ : ByteArray), (t8.1, (((), ((), ((), (t8.2.1.2.2.2.1, ((), (t8.2.1.2.2.2.2.2.1, ())))))), (t8.2.2.1, (t8.2.2.2.1, ()))))))) else ((Q0n k (0 : Int)).bind fun t9 => K (.inl (t9.1, ((0 : Int), (((), ((), ((), (t8.2.1.2.2.2.1, ((), (t8.2.1.2.2.2.2.2.1, ())))))), (t8.2.2.1, (t8.2.2.2.1, ()))))))))
 | .inr (t10) => (bif (t10.1 != (0 : Int)) then (K (.inr ((⟨(List.toArray [])⟩ : ByteArray), (t10.1, (((), ((), ((), (t10.2.1.2.2.2.1, ((), (t10.2.1.2.2.2.2.2.1, ())))))), (t10.2.2.1, (t10.2.2.2.1, (t10.2.2.2.2.1, ())))))))) else ((Q0n k (0 : Int)).bind fun t11 => K (.inr (t11.1, ((0 : Int), (((), ((), ((), (t10.2.1.2.2.2.1, ((), (t10.2.1.2.2.2.2.2.1, ())))))), (t10.2.2.1, (t10.2.2.2.1, (t10.2.2.2.2.1, ())))))))))))))
def Qu (k : Nat) (name : ByteArray) (b0 : QeC) (b1 : QeG) (b2 : QeG) : Option Qu.τ := Qu.c k name b0 b1 b2 some
def Qu.T : Q13 := ⟨[.ptr 0 [], .dat .str], [.pair (.mp 1) (.pair (.mp 2) (.pair (.nils) (.pair (.dat (.int .i64)) (.pair (.nils) (.dat QeH))))), .mpd .str .str, .mpd .str .str], 3⟩
def Qu.os : List Out := [⟨.ret, [.freeze (.slot 0), .freeze (.slot 1), .auto 3], ⟨[.dat .str, .dat (.int .i64)], [.pair (.mp 1) (.pair (.mp 2) (.pair (.nils) (.pair (.dat (.int .i64)) (.pair (.nils) (.dat QeH))))), .mpd .str .str, .mpd .str .str]⟩⟩, ⟨.ret, [.freeze (.slot 0), .freeze (.slot 1), .auto 3], ⟨[.dat .str, .dat (.int .i64)], [.pair (.mp 1) (.pair (.mp 2) (.pair (.vsl 3) (.pair (.dat (.int .i64)) (.pair (.nils) (.dat QeH))))), .mpd .str .str, .mpd .str .str, .vec Qex]⟩⟩]
def Qu.sem (k : Nat) : QP := Q14 Qu.T Qu.os fun x => Qu k x.1 x.2.1 x.2.2.1 x.2.2.2.1
noncomputable def Qu.ctx (k : Nat) : Ctx := ⟨Try.prog, gam [(51, (Q0A.sem k)), (75, (QE.sem k)), (9, (Q0n.sem k))]⟩
theorem Qu.gok (k : Nat) : ∀ f, Qw Try.prog f ((Qu.ctx k).Γ f) := (Qe (Q0A.sem_ok k) (Qe (QE.sem_ok k) (Qe (Q0n.sem_ok k) Q0b)))
theorem Qu.p0.is (k : Nat) : Q20 (Qu.ctx k) (Q0K (Func.code Try.f53) [1, 1, 0]) (.nil) Qu.p0.T Qu.p0.os (Qu.p0.r k) := by
 intro ρ x K; kernel_rfl
theorem Qu.p0.ok (k : Nat) : StOK 3 Try.prog (Q0K (Func.code Try.f53) [1, 1, 0]) (Q01 Qu.p0.T Qu.p0.os (Qu.p0 k)) :=
 Q1O (C := Qu.ctx k) (T := Qu.p0.T) (os := Qu.p0.os) (Qu.gok k) Try.mix (fun x K => Qu.p0.r k x K) Q1.nil (by kernel_rfl) (by kernel_rfl) (Qu.p0.is k)
def Qu.ann (k : Nat) : Ann := .node [] none (.nil) (.node [] none (.nil) (.node [] none (.node [.mask [0, 1, 6, 7], .auto 3] (some (Q01 Qu.p0.T Qu.p0.os (Qu.p0 k))) .nil .nil) (.nil)))
theorem Qu.body (k : Nat) : Q16 (Qu.ctx k) Try.f53 (Func.code Try.f53) (Qu.ann k) Qu.T Qu.os (fun x K => Qu.c k x.1 x.2.1 x.2.2.1 x.2.2.2.1 K) := by
 intro ρ x K; kernel_rfl
theorem Qu.sem_ok (k : Nat) : Qw Try.prog 53 (Qu.sem k) :=
 Q0r (C := Qu.ctx k) (Qu.gok k) Try.mix (c := Func.code Try.f53) (ann := Qu.ann k) (T := Qu.T) (os := Qu.os) (fun x K => Qu.c k x.1 x.2.1 x.2.2.1 x.2.2.2.1 K) Try.func53 (by kernel_rfl) (by kernel_rfl) (Q1.seq Q1.nil (Q1.seq Q1.nil (Q1.seq (Q1.loop (by kernel_rfl) (Qu.p0.ok k)) Q1.nil))) (Qu.body k) (by kernel_rfl) (by kernel_rfl) (by kernel_rfl)
abbrev QJ.l0.σ : Type := Int × (List ByteArray) × Int × Int × (List Int) × Unit
abbrev QJ.l0.τ : Type := ((List Int) × Unit)
def QJ.l0.r (k : Nat) {ρ : Type} (x : QJ.l0.σ) (kn : QJ.l0.σ → Option ρ) (ke : QJ.l0.τ → Option ρ) : Option ρ :=
 bif (decide (x.2.2.2.1 < x.2.2.1)) then (bif (decide (((0 : Int) ≤ x.2.2.2.1) ∧ (x.2.2.2.1 < (((List.length x.2.1) : Nat) : Int)))) then (let v0 : ByteArray := (List.getD x.2.1 (Int.toNat x.2.2.2.1) ByteArray.empty)
 let v1 : Int := (IntKind.wrap IntKind.i64 ((12 : Int) + (((ByteArray.size v0) : Nat) : Int)))
 let v2 : Int := (IntKind.wrap IntKind.i64 (v1 + (4 : Int)))
 let v3 : Int := (IntKind.wrap IntKind.i64 (x.1 + v2))
 bif (Nat.ble (((List.length x.2.2.2.2.1) + (List.length (List.set (List.replicate 1 (0 : Int)) 0 v3))) * 8) 140737488355328) then (let v4 : Int := (IntKind.wrap IntKind.i64 (x.2.2.2.1 + (1 : Int)))
 kn (v3, (x.2.1, (x.2.2.1, (v4, ((x.2.2.2.2.1 ++ (List.set (List.replicate 1 (0 : Int)) 0 v3)), ())))))) else (none)) else (none)) else (ke (x.2.2.2.2.1, ()))
def QJ.l0 (k : Nat) : Nat → QJ.l0.σ → Option QJ.l0.τ := Q1j (QJ.l0.r k)
def QJ.l0.T : StT := ⟨us 3 ++ .vsl 0 :: .dat (.int .i64) :: us 2 ++ .dat (.sl .str) :: .dat (.int .i64) :: .dat (.int .i64) :: us 15, [.vec (.int .i64)]⟩
def QJ.l0.os : List Out := [⟨(.exit 0), [.mask [3], .auto 0], ⟨us 3 ++ .vsl 0 :: us 21, [.vec (.int .i64)]⟩⟩]
abbrev QJ.τ : Type := ((List Int) × Unit)
def QJ.c (k : Nat) {ρ : Type} (l : (List ByteArray)) (K : QJ.τ → Option ρ) : Option ρ :=
 (QJ.l0 k k ((20 : Int), (l, ((((List.length l) : Nat) : Int), ((0 : Int), ([], ())))))).bind fun t5 => K (t5.1, ())
def QJ (k : Nat) (l : (List ByteArray)) : Option QJ.τ := QJ.c k l some
def QJ.T : Q13 := ⟨[.dat (.sl .str)], [], 0⟩
def QJ.os : List Out := [⟨.ret, [.auto 0], ⟨[.vsl 0], [.vec (.int .i64)]⟩⟩]
def QJ.sem (k : Nat) : QP := Q14 QJ.T QJ.os fun x => QJ k x.1
noncomputable def QJ.ctx (k : Nat) : Ctx := ⟨Try.prog, gam []⟩
theorem QJ.gok (k : Nat) : ∀ f, Qw Try.prog f ((QJ.ctx k).Γ f) := Q0b
theorem QJ.l0.round (k : Nat) : Q1e (QJ.ctx k) (Q0K (Func.code Try.f54) [1, 1, 1, 0, 1, 0, 0]) (.nil) QJ.l0.T [.mask [3, 4, 7, 8, 9], .auto 0] QJ.l0.os (QJ.l0.r k) := by
 intro ρ x kn ke; kernel_rfl
theorem QJ.l0.ok (k : Nat) : StOK 0 Try.prog (.loop (Q0K (Func.code Try.f54) [1, 1, 1, 0, 1, 0, 0])) (Q01 QJ.l0.T QJ.l0.os (QJ.l0 k k)) :=
 Q1i (C := QJ.ctx k) (QJ.gok k) Try.mix Q1.nil (by kernel_rfl) (by kernel_rfl) (by kernel_rfl) (QJ.l0.round k) k
def QJ.ann (k : Nat) : Ann := .node [] none (.nil) (.node [] none (.nil) (.node [] none (.nil) (.node [] none (.node [] none (.nil) (.node [] none (.node [.own (.slot 3) (.int .i64)] (some (Q01 QJ.l0.T QJ.l0.os (QJ.l0 k k))) .nil .nil) (.nil))) (.nil))))
theorem QJ.body (k : Nat) : Q16 (QJ.ctx k) Try.f54 (Func.code Try.f54) (QJ.ann k) QJ.T QJ.os (fun x K => QJ.c k x.1 K) := by
 intro ρ x K; kernel_rfl
theorem QJ.sem_ok (k : Nat) : Qw Try.prog 54 (QJ.sem k) :=
 Q0r (C := QJ.ctx k) (QJ.gok k) Try.mix (c := Func.code Try.f54) (ann := QJ.ann k) (T := QJ.T) (os := QJ.os) (fun x K => QJ.c k x.1 K) Try.func54 (by kernel_rfl) (by kernel_rfl) (Q1.seq Q1.nil (Q1.seq Q1.nil (Q1.seq Q1.nil (Q1.seq (Q1.seq Q1.nil (Q1.block (Q1.loop (by kernel_rfl) (QJ.l0.ok k)))) Q1.nil)))) (QJ.body k) (by kernel_rfl) (by kernel_rfl) (by kernel_rfl)
abbrev Q07.τ : Type := Qem 
def Q07.c (k : Nat) {ρ : Type} (name : ByteArray) (b0 : QeC) (b1 : QeG) (b2 : QeG) (b3 : Qez) (K : Q07.τ → Option ρ) : Option ρ :=
 (Q0m k (List.set (List.replicate 1 ByteArray.empty) 0 name) ((), ((), ((), (b0.2.2.2.1, ((), (b0.2.2.2.2.2.1, ())))))) b1 b2 b3).bind fun t0 => bif (t0.1 != (0 : Int)) then (K ((⟨(List.toArray [])⟩ : ByteArray), (t0.1, (((), ((), ((), (t0.2.1.2.2.2.1, ((), (t0.2.1.2.2.2.2.2.1, ())))))), (t0.2.2.1, (t0.2.2.2.1, (t0.2.2.2.2.1, ()))))))) else (let v1 : ByteArray := (Option.getD (mget Ty.str name t0.2.2.2.1) ByteArray.empty)
 bif (!(Option.isSome (mget Ty.str name t0.2.2.2.1))) then (K ((⟨(List.toArray [])⟩ : ByteArray), ((2 : Int), (((), ((), ((), (t0.2.1.2.2.2.1, ((), (t0.2.1.2.2.2.2.2.1, ())))))), (t0.2.2.1, (t0.2.2.2.1, (t0.2.2.2.2.1, ()))))))) else (K (v1, ((0 : Int), (((), ((), ((), (t0.2.1.2.2.2.1, ((), (t0.2.1.2.2.2.2.2.1, ())))))), (t0.2.2.1, (t0.2.2.2.1, (t0.2.2.2.2.1, ()))))))))
def Q07 (k : Nat) (name : ByteArray) (b0 : QeC) (b1 : QeG) (b2 : QeG) (b3 : Qez) : Option Q07.τ := Q07.c k name b0 b1 b2 b3 some
def Q07.T : Q13 := ⟨[.ptr 0 [], .dat .str], [.pair (.mp 1) (.pair (.mp 2) (.pair (.vsl 3) (.pair (.dat (.int .i64)) (.pair (.nils) (.dat QeH))))), .mpd .str .str, .mpd .str .str, .vec Qex], 3⟩
def Q07.os : List Out := [⟨.ret, [.freeze (.slot 0), .freeze (.slot 1), .auto 3], ⟨[.dat .str, .dat (.int .i64)], [.pair (.mp 1) (.pair (.mp 2) (.pair (.vsl 3) (.pair (.dat (.int .i64)) (.pair (.nils) (.dat QeH))))), .mpd .str .str, .mpd .str .str, .vec Qex]⟩⟩]
def Q07.sem (k : Nat) : QP := Q14 Q07.T Q07.os fun x => Q07 k x.1 x.2.1 x.2.2.1 x.2.2.2.1 x.2.2.2.2.1
noncomputable def Q07.ctx (k : Nat) : Ctx := ⟨Try.prog, gam [(79, (Q0m.sem k))]⟩
theorem Q07.gok (k : Nat) : ∀ f, Qw Try.prog f ((Q07.ctx k).Γ f) := (Qe (Q0m.sem_ok k) Q0b)
def Q07.ann (k : Nat) : Ann := .nil
theorem Q07.body (k : Nat) : Q16 (Q07.ctx k) Try.f73 (Func.code Try.f73) (Q07.ann k) Q07.T Q07.os (fun x K => Q07.c k x.1 x.2.1 x.2.2.1 x.2.2.2.1 x.2.2.2.2.1 K) := by
 intro ρ x K; kernel_rfl
theorem Q07.sem_ok (k : Nat) : Qw Try.prog 73 (Q07.sem k) :=
 Q0r (C := Q07.ctx k) (Q07.gok k) Try.mix (c := Func.code Try.f73) (ann := Q07.ann k) (T := Q07.T) (os := Q07.os) (fun x K => Q07.c k x.1 x.2.1 x.2.2.1 x.2.2.2.1 x.2.2.2.2.1 K) Try.func73 (by kernel_rfl) (by kernel_rfl) Q1.nil (Q07.body k) (by kernel_rfl) (by kernel_rfl) (by kernel_rfl)
abbrev Q0k.τ : Type := Qep 
def Q0k.c (k : Nat) {ρ : Type} (name : ByteArray) (n : Int) (b0 : QeC) (b1 : QeG) (b2 : QeG) (b3 : Qez) (K : Q0k.τ → Option ρ) : Option ρ :=
 (Q07 k name ((), ((), ((), (b0.2.2.2.1, ((), (b0.2.2.2.2.2.1, ())))))) b1 b2 b3).bind fun t0 => let v1 : ByteArray := t0.1
 let v2 : Int := t0.2.1
 bif (v2 != (0 : Int)) then (K (v2, (((), ((), ((), (t0.2.2.1.2.2.2.1, ((), (t0.2.2.1.2.2.2.2.2.1, ())))))), (t0.2.2.2.1, (t0.2.2.2.2.1, (t0.2.2.2.2.2.1, ())))))) else (bif (decide (n < (0 : Int))) then (K ((1 : Int), (((), ((), ((), (t0.2.2.1.2.2.2.1, ((), (t0.2.2.1.2.2.2.2.2.1, ())))))), (t0.2.2.2.1, (t0.2.2.2.2.1, (t0.2.2.2.2.2.1, ())))))) else (bif (decide (n > (((ByteArray.size v1) : Nat) : Int))) then (K ((1 : Int), (((), ((), ((), (t0.2.2.1.2.2.2.1, ((), (t0.2.2.1.2.2.2.2.2.1, ())))))), (t0.2.2.2.1, (t0.2.2.2.2.1, (t0.2.2.2.2.2.1, ())))))) else ((Q0i k ((1 : Int), (name, ((⟨(List.toArray [])⟩ : ByteArray), (n, ((⟨(List.toArray [])⟩ : ByteArray), ()))))) ((), ((), ((), (t0.2.2.1.2.2.2.1, ((), (t0.2.2.1.2.2.2.2.2.1, ())))))) t0.2.2.2.1 t0.2.2.2.2.1 t0.2.2.2.2.2.1).bind fun t3 => K (t3.1, (((), ((), ((), (t3.2.1.2.2.2.1, ((), (t3.2.1.2.2.2.2.2.1, ())))))), (t3.2.2.1, (t3.2.2.2.1, (t3.2.2.2.2.1, ()))))))))
def Q0k (k : Nat) (name : ByteArray) (n : Int) (b0 : QeC) (b1 : QeG) (b2 : QeG) (b3 : Qez) : Option Q0k.τ := Q0k.c k name n b0 b1 b2 b3 some
def Q0k.T : Q13 := ⟨[.ptr 0 [], .dat .str, .dat (.int .i64)], [.pair (.mp 1) (.pair (.mp 2) (.pair (.vsl 3) (.pair (.dat (.int .i64)) (.pair (.nils) (.dat QeH))))), .mpd .str .str, .mpd .str .str, .vec Qex], 3⟩
def Q0k.os : List Out := [⟨.ret, [.freeze (.slot 0), .auto 3], ⟨[.dat (.int .i64)], [.pair (.mp 1) (.pair (.mp 2) (.pair (.vsl 3) (.pair (.dat (.int .i64)) (.pair (.nils) (.dat QeH))))), .mpd .str .str, .mpd .str .str, .vec Qex]⟩⟩]
def Q0k.sem (k : Nat) : QP := Q14 Q0k.T Q0k.os fun x => Q0k k x.1 x.2.1 x.2.2.1 x.2.2.2.1 x.2.2.2.2.1 x.2.2.2.2.2.1
noncomputable def Q0k.ctx (k : Nat) : Ctx := ⟨Try.prog, gam [(73, (Q07.sem k)), (74, (Q0i.sem k))]⟩
theorem Q0k.gok (k : Nat) : ∀ f, Qw Try.prog f ((Q0k.ctx k).Γ f) := (Qe (Q07.sem_ok k) (Qe (Q0i.sem_ok k) Q0b))
def Q0k.ann (k : Nat) : Ann := .nil
theorem Q0k.body (k : Nat) : Q16 (Q0k.ctx k) Try.f55 (Func.code Try.f55) (Q0k.ann k) Q0k.T Q0k.os (fun x K => Q0k.c k x.1 x.2.1 x.2.2.1 x.2.2.2.1 x.2.2.2.2.1 x.2.2.2.2.2.1 K) := by
 intro ρ x K; kernel_rfl
theorem Q0k.sem_ok (k : Nat) : Qw Try.prog 55 (Q0k.sem k) :=
 Q0r (C := Q0k.ctx k) (Q0k.gok k) Try.mix (c := Func.code Try.f55) (ann := Q0k.ann k) (T := Q0k.T) (os := Q0k.os) (fun x K => Q0k.c k x.1 x.2.1 x.2.2.1 x.2.2.2.1 x.2.2.2.2.1 x.2.2.2.2.2.1 K) Try.func55 (by kernel_rfl) (by kernel_rfl) Q1.nil (Q0k.body k) (by kernel_rfl) (by kernel_rfl) (by kernel_rfl)
abbrev Q0w.τ : Type := Qem 
def Q0w.c (k : Nat) {ρ : Type} (name : ByteArray) (b0 : QeC) (b1 : QeG) (b2 : QeG) (b3 : Qez) (K : Q0w.τ → Option ρ) : Option ρ :=
 (Q07 k name ((), ((), ((), (b0.2.2.2.1, ((), (b0.2.2.2.2.2.1, ())))))) b1 b2 b3).bind fun t0 => let v1 : ByteArray := t0.1
 let v2 : Int := t0.2.1
 K (v1, (v2, (((), ((), ((), (t0.2.2.1.2.2.2.1, ((), (t0.2.2.1.2.2.2.2.2.1, ())))))), (t0.2.2.2.1, (t0.2.2.2.2.1, (t0.2.2.2.2.2.1, ()))))))
def Q0w (k : Nat) (name : ByteArray) (b0 : QeC) (b1 : QeG) (b2 : QeG) (b3 : Qez) : Option Q0w.τ := Q0w.c k name b0 b1 b2 b3 some
def Q0w.T : Q13 := ⟨[.ptr 0 [], .dat .str], [.pair (.mp 1) (.pair (.mp 2) (.pair (.vsl 3) (.pair (.dat (.int .i64)) (.pair (.nils) (.dat QeH))))), .mpd .str .str, .mpd .str .str, .vec Qex], 3⟩
def Q0w.os : List Out := [⟨.ret, [.freeze (.slot 0), .freeze (.slot 1), .auto 3], ⟨[.dat .str, .dat (.int .i64)], [.pair (.mp 1) (.pair (.mp 2) (.pair (.vsl 3) (.pair (.dat (.int .i64)) (.pair (.nils) (.dat QeH))))), .mpd .str .str, .mpd .str .str, .vec Qex]⟩⟩]
def Q0w.sem (k : Nat) : QP := Q14 Q0w.T Q0w.os fun x => Q0w k x.1 x.2.1 x.2.2.1 x.2.2.2.1 x.2.2.2.2.1
noncomputable def Q0w.ctx (k : Nat) : Ctx := ⟨Try.prog, gam [(73, (Q07.sem k))]⟩
theorem Q0w.gok (k : Nat) : ∀ f, Qw Try.prog f ((Q0w.ctx k).Γ f) := (Qe (Q07.sem_ok k) Q0b)
def Q0w.ann (k : Nat) : Ann := .nil
theorem Q0w.body (k : Nat) : Q16 (Q0w.ctx k) Try.f51 (Func.code Try.f51) (Q0w.ann k) Q0w.T Q0w.os (fun x K => Q0w.c k x.1 x.2.1 x.2.2.1 x.2.2.2.1 x.2.2.2.2.1 K) := by
 intro ρ x K; kernel_rfl
theorem Q0w.sem_ok (k : Nat) : Qw Try.prog 51 (Q0w.sem k) :=
 Q0r (C := Q0w.ctx k) (Q0w.gok k) Try.mix (c := Func.code Try.f51) (ann := Q0w.ann k) (T := Q0w.T) (os := Q0w.os) (fun x K => Q0w.c k x.1 x.2.1 x.2.2.1 x.2.2.2.1 x.2.2.2.2.1 K) Try.func51 (by kernel_rfl) (by kernel_rfl) Q1.nil (Q0w.body k) (by kernel_rfl) (by kernel_rfl) (by kernel_rfl)
abbrev Q0u.τ : Type := (Int × Int × QeC × QeG × QeG × Qez × Unit)
def Q0u.c (k : Nat) {ρ : Type} (name : ByteArray) (b0 : QeC) (b1 : QeG) (b2 : QeG) (b3 : Qez) (K : Q0u.τ → Option ρ) : Option ρ :=
 (Q07 k name ((), ((), ((), (b0.2.2.2.1, ((), (b0.2.2.2.2.2.1, ())))))) b1 b2 b3).bind fun t0 => let v1 : ByteArray := t0.1
 let v2 : Int := t0.2.1
 K ((((ByteArray.size v1) : Nat) : Int), (v2, (((), ((), ((), (t0.2.2.1.2.2.2.1, ((), (t0.2.2.1.2.2.2.2.2.1, ())))))), (t0.2.2.2.1, (t0.2.2.2.2.1, (t0.2.2.2.2.2.1, ()))))))
def Q0u (k : Nat) (name : ByteArray) (b0 : QeC) (b1 : QeG) (b2 : QeG) (b3 : Qez) : Option Q0u.τ := Q0u.c k name b0 b1 b2 b3 some
def Q0u.T : Q13 := ⟨[.ptr 0 [], .dat .str], [.pair (.mp 1) (.pair (.mp 2) (.pair (.vsl 3) (.pair (.dat (.int .i64)) (.pair (.nils) (.dat QeH))))), .mpd .str .str, .mpd .str .str, .vec Qex], 3⟩
def Q0u.os : List Out := [⟨.ret, [.freeze (.slot 0), .freeze (.slot 1), .auto 3], ⟨[.dat (.int .i64), .dat (.int .i64)], [.pair (.mp 1) (.pair (.mp 2) (.pair (.vsl 3) (.pair (.dat (.int .i64)) (.pair (.nils) (.dat QeH))))), .mpd .str .str, .mpd .str .str, .vec Qex]⟩⟩]
def Q0u.sem (k : Nat) : QP := Q14 Q0u.T Q0u.os fun x => Q0u k x.1 x.2.1 x.2.2.1 x.2.2.2.1 x.2.2.2.2.1
noncomputable def Q0u.ctx (k : Nat) : Ctx := ⟨Try.prog, gam [(73, (Q07.sem k))]⟩
theorem Q0u.gok (k : Nat) : ∀ f, Qw Try.prog f ((Q0u.ctx k).Γ f) := (Qe (Q07.sem_ok k) Q0b)
def Q0u.ann (k : Nat) : Ann := .nil
theorem Q0u.body (k : Nat) : Q16 (Q0u.ctx k) Try.f86 (Func.code Try.f86) (Q0u.ann k) Q0u.T Q0u.os (fun x K => Q0u.c k x.1 x.2.1 x.2.2.1 x.2.2.2.1 x.2.2.2.2.1 K) := by
 intro ρ x K; kernel_rfl
theorem Q0u.sem_ok (k : Nat) : Qw Try.prog 86 (Q0u.sem k) :=
 Q0r (C := Q0u.ctx k) (Q0u.gok k) Try.mix (c := Func.code Try.f86) (ann := Q0u.ann k) (T := Q0u.T) (os := Q0u.os) (fun x K => Q0u.c k x.1 x.2.1 x.2.2.1 x.2.2.2.1 x.2.2.2.2.1 K) Try.func86 (by kernel_rfl) (by kernel_rfl) Q1.nil (Q0u.body k) (by kernel_rfl) (by kernel_rfl) (by kernel_rfl)
abbrev Qq.p0.σ : Type := ByteArray × QeC × QeG × QeG × Qez × Unit
abbrev Qq.p0.τ : Type := Qep ⊕ Qen 
def Qq.p0.r (k : Nat) {ρ : Type} (x : Qq.p0.σ) (K : Qq.p0.τ → Option ρ) : Option ρ :=
 (Q0u k x.1 ((), ((), ((), (x.2.1.2.2.2.1, ((), (x.2.1.2.2.2.2.2.1, ())))))) x.2.2.1 x.2.2.2.1 x.2.2.2.2.1).bind fun t0 => let v1 : Int := t0.1
 let v2 : Int := t0.2.1
 bif (v2 == (0 : Int)) then ((Q0k k x.1 (0 : Int) ((), ((), ((), (t0.2.2.1.2.2.2.1, ((), (t0.2.2.1.2.2.2.2.2.1, ())))))) t0.2.2.2.1 t0.2.2.2.2.1 t0.2.2.2.2.2.1).bind fun t3 => bif (t3.1 != (0 : Int)) then (K (.inl (t3.1, (((), ((), ((), (t3.2.1.2.2.2.1, ((), (t3.2.1.2.2.2.2.2.1, ())))))), (t3.2.2.1, (t3.2.2.2.1, (t3.2.2.2.2.1, ()))))))) else (K (.inr (x.1, (((), ((), ((), (t3.2.1.2.2.2.1, ((), (t3.2.1.2.2.2.2.2.1, ())))))), (t3.2.2.1, (t3.2.2.2.1, (t3.2.2.2.2.1, ())))))))) else (K (.inr (x.1, (((), ((), ((), (t0.2.2.1.2.2.2.1, ((), (t0.2.2.1.2.2.2.2.2.1, ())))))), (t0.2.2.2.1, (t0.2.2.2.2.1, (t0.2.2.2.2.2.1, ())))))))
def Qq.p0 (k : Nat) (x : Qq.p0.σ) : Option Qq.p0.τ := Qq.p0.r k x some
def Qq.p0.T : StT := ⟨.ptr 0 [] :: .dat .str :: us 30, [.pair (.mp 1) (.pair (.mp 2) (.pair (.vsl 3) (.pair (.dat (.int .i64)) (.pair (.nils) (.dat QeH))))), .mpd .str .str, .mpd .str .str, .vec Qex]⟩
def Qq.p0.os : List Out := [⟨.ret, [.mask [4], .auto 3], ⟨us 4 ++ .dat (.int .i64) :: us 27, [.pair (.mp 1) (.pair (.mp 2) (.pair (.vsl 3) (.pair (.dat (.int .i64)) (.pair (.nils) (.dat QeH))))), .mpd .str .str, .mpd .str .str, .vec Qex]⟩⟩, ⟨.normal, [.mask [0, 1], .auto 3], ⟨.ptr 0 [] :: .dat .str :: us 30, [.pair (.mp 1) (.pair (.mp 2) (.pair (.vsl 3) (.pair (.dat (.int .i64)) (.pair (.nils) (.dat QeH))))), .mpd .str .str, .mpd .str .str, .vec Qex]⟩⟩]
abbrev Qq.τ : Type := Qep ⊕ Qev 
def Qq.c (k : Nat) {ρ : Type} (name : ByteArray) (b0 : QeC) (b1 : QeG) (b2 : QeG) (b3 : Qez) (K : Qq.τ → Option ρ) : Option ρ :=
  (Qq.p0 k (name, (((), ((), ((), (b0.2.2.2.1, ((), (b0.2.2.2.2.2.1, ())))))), (b1, (b2, (b3, ())))))).bind fun t4 => (match t4 with
 | .inl t5 => (K (.inl (t5.1, (((), ((), ((), (t5.2.1.2.2.2.1, ((), (t5.2.1.2.2.2.2.2.1, ())))))), (t5.2.2.1, (t5.2.2.2.1, (t5.2.2.2.2.1, ())))))))
 | .inr (t6) => ((Q0n k (0 : Int)).bind fun t7 => (Q06 k t6.1 (0 : Int) t7.1 ((), ((), ((), (t6.2.1.2.2.2.1, ((), (t6.2.1.2.2.2.2.2.1, ())))))) t6.2.2.1 t6.2.2.2.1 t6.2.2.2.2.1).bind fun t8 => bif (t8.1 != (0 : Int)) then (K (.inl (t8.1, (((), ((), ((), (t8.2.1.2.2.2.1, ((), (t8.2.1.2.2.2.2.2.1, ())))))), (t8.2.2.1, (t8.2.2.2.1, (t8.2.2.2.2.1, ()))))))) else ((Q3 k ((), ((), ((), (t8.2.1.2.2.2.1, ((), (t8.2.1.2.2.2.2.2.1, ())))))) t8.2.2.1 t8.2.2.2.1 t8.2.2.2.2.1).bind fun t9 => (match t9 with
 | .inl t10 => (K (.inl (t10.1, (((), ((), ((), (t10.2.1.2.2.2.1, ((), (t10.2.1.2.2.2.2.2.1, ())))))), (t10.2.2.1, (t10.2.2.2.1, (t10.2.2.2.2.1, ())))))))
 | .inr (t11) => (K (.inr (t11.1, (((), ((), ((), (t11.2.1.2.2.2.1, ((), (t11.2.1.2.2.2.2.2.1, ())))))), (t11.2.2.1, (t11.2.2.2.1, ()))))))))))
def Qq (k : Nat) (name : ByteArray) (b0 : QeC) (b1 : QeG) (b2 : QeG) (b3 : Qez) : Option Qq.τ := Qq.c k name b0 b1 b2 b3 some
def Qq.T : Q13 := ⟨[.ptr 0 [], .dat .str], [.pair (.mp 1) (.pair (.mp 2) (.pair (.vsl 3) (.pair (.dat (.int .i64)) (.pair (.nils) (.dat QeH))))), .mpd .str .str, .mpd .str .str, .vec Qex], 3⟩
def Qq.os : List Out := [⟨.ret, [.freeze (.slot 0), .auto 3], ⟨[.dat (.int .i64)], [.pair (.mp 1) (.pair (.mp 2) (.pair (.vsl 3) (.pair (.dat (.int .i64)) (.pair (.nils) (.dat QeH))))), .mpd .str .str, .mpd .str .str, .vec Qex]⟩⟩, ⟨.ret, [.freeze (.slot 0), .auto 3], ⟨[.dat (.int .i64)], [.pair (.mp 1) (.pair (.mp 2) (.pair (.nils) (.pair (.dat (.int .i64)) (.pair (.nils) (.dat QeH))))), .mpd .str .str, .mpd .str .str]⟩⟩]
def Qq.sem (k : Nat) : QP := Q14 Qq.T Qq.os fun x => Qq k x.1 x.2.1 x.2.2.1 x.2.2.2.1 x.2.2.2.2.1
noncomputable def Qq.ctx (k : Nat) : Ctx := ⟨Try.prog, gam [(86, (Q0u.sem k)), (55, (Q0k.sem k)), (9, (Q0n.sem k)), (72, (Q06.sem k)), (56, (Q3.sem k))]⟩
theorem Qq.gok (k : Nat) : ∀ f, Qw Try.prog f ((Qq.ctx k).Γ f) := (Qe (Q0u.sem_ok k) (Qe (Q0k.sem_ok k) (Qe (Q0n.sem_ok k) (Qe (Q06.sem_ok k) (Qe (Q3.sem_ok k) Q0b)))))
theorem Qq.p0.is (k : Nat) : Q20 (Qq.ctx k) (Q0K (Func.code Try.f75) [1, 0]) (.nil) Qq.p0.T Qq.p0.os (Qq.p0.r k) := by
 intro ρ x K; kernel_rfl
theorem Qq.p0.ok (k : Nat) : StOK 3 Try.prog (Q0K (Func.code Try.f75) [1, 0]) (Q01 Qq.p0.T Qq.p0.os (Qq.p0 k)) :=
 Q1O (C := Qq.ctx k) (T := Qq.p0.T) (os := Qq.p0.os) (Qq.gok k) Try.mix (fun x K => Qq.p0.r k x K) Q1.nil (by kernel_rfl) (by kernel_rfl) (Qq.p0.is k)
def Qq.ann (k : Nat) : Ann := .node [] none (.nil) (.node [] none (.node [.mask [0, 1], .auto 3] (some (Q01 Qq.p0.T Qq.p0.os (Qq.p0 k))) .nil .nil) (.nil))
theorem Qq.body (k : Nat) : Q16 (Qq.ctx k) Try.f75 (Func.code Try.f75) (Qq.ann k) Qq.T Qq.os (fun x K => Qq.c k x.1 x.2.1 x.2.2.1 x.2.2.2.1 x.2.2.2.2.1 K) := by
 intro ρ x K; kernel_rfl
theorem Qq.sem_ok (k : Nat) : Qw Try.prog 75 (Qq.sem k) :=
 Q0r (C := Qq.ctx k) (Qq.gok k) Try.mix (c := Func.code Try.f75) (ann := Qq.ann k) (T := Qq.T) (os := Qq.os) (fun x K => Qq.c k x.1 x.2.1 x.2.2.1 x.2.2.2.1 x.2.2.2.2.1 K) Try.func75 (by kernel_rfl) (by kernel_rfl) (Q1.seq Q1.nil (Q1.seq (Q1.loop (by kernel_rfl) (Qq.p0.ok k)) Q1.nil)) (Qq.body k) (by kernel_rfl) (by kernel_rfl) (by kernel_rfl)
abbrev Qm.p0.σ : Type := ByteArray × ByteArray × Int × QeC × QeG × QeG × Qez × Unit
abbrev Qm.p0.τ : Type := Qem ⊕ (ByteArray × ByteArray × QeC × QeG × QeG × Qez × Unit)
def Qm.p0.r (k : Nat) {ρ : Type} (x : Qm.p0.σ) (K : Qm.p0.τ → Option ρ) : Option ρ :=
 bif (x.2.2.1 != (0 : Int)) then (bif (x.2.2.1 != (2 : Int)) then (K (.inl ((⟨(List.toArray [])⟩ : ByteArray), (x.2.2.1, (((), ((), ((), (x.2.2.2.1.2.2.2.1, ((), (x.2.2.2.1.2.2.2.2.2.1, ())))))), (x.2.2.2.2.1, (x.2.2.2.2.2.1, (x.2.2.2.2.2.2.1, ())))))))) else (K (.inr (x.1, (x.2.1, (((), ((), ((), (x.2.2.2.1.2.2.2.1, ((), (x.2.2.2.1.2.2.2.2.2.1, ())))))), (x.2.2.2.2.1, (x.2.2.2.2.2.1, (x.2.2.2.2.2.2.1, ()))))))))) else (K (.inr (x.1, (x.2.1, (((), ((), ((), (x.2.2.2.1.2.2.2.1, ((), (x.2.2.2.1.2.2.2.2.2.1, ())))))), (x.2.2.2.2.1, (x.2.2.2.2.2.1, (x.2.2.2.2.2.2.1, ()))))))))
def Qm.p0 (k : Nat) (x : Qm.p0.σ) : Option Qm.p0.τ := Qm.p0.r k x some
def Qm.p0.T : StT := ⟨.ptr 0 [] :: .dat .str :: us 4 ++ .dat .str :: .dat (.int .i64) :: us 25, [.pair (.mp 1) (.pair (.mp 2) (.pair (.vsl 3) (.pair (.dat (.int .i64)) (.pair (.nils) (.dat QeH))))), .mpd .str .str, .mpd .str .str, .vec Qex]⟩
def Qm.p0.os : List Out := [⟨.ret, [.mask [4, 5], .auto 3], ⟨us 4 ++ .dat .str :: .dat (.int .i64) :: us 27, [.pair (.mp 1) (.pair (.mp 2) (.pair (.vsl 3) (.pair (.dat (.int .i64)) (.pair (.nils) (.dat QeH))))), .mpd .str .str, .mpd .str .str, .vec Qex]⟩⟩, ⟨.normal, [.mask [0, 1, 6], .auto 3], ⟨.ptr 0 [] :: .dat .str :: us 4 ++ .dat .str :: us 26, [.pair (.mp 1) (.pair (.mp 2) (.pair (.vsl 3) (.pair (.dat (.int .i64)) (.pair (.nils) (.dat QeH))))), .mpd .str .str, .mpd .str .str, .vec Qex]⟩⟩]
abbrev Qm.τ : Type := Qem ⊕ Qes 
def Qm.c (k : Nat) {ρ : Type} (name : ByteArray) (b0 : QeC) (b1 : QeG) (b2 : QeG) (b3 : Qez) (K : Qm.τ → Option ρ) : Option ρ :=
  (Q0w k name ((), ((), ((), (b0.2.2.2.1, ((), (b0.2.2.2.2.2.1, ())))))) b1 b2 b3).bind fun t0 => let v1 : ByteArray := t0.1
  let v2 : Int := t0.2.1
  (Qm.p0 k (name, (v1, (v2, (((), ((), ((), (t0.2.2.1.2.2.2.1, ((), (t0.2.2.1.2.2.2.2.2.1, ())))))), (t0.2.2.2.1, (t0.2.2.2.2.1, (t0.2.2.2.2.2.1, ())))))))).bind fun t3 => (match t3 with
 | .inl t4 => (K (.inl (t4.1, (t4.2.1, (((), ((), ((), (t4.2.2.1.2.2.2.1, ((), (t4.2.2.1.2.2.2.2.2.1, ())))))), (t4.2.2.2.1, (t4.2.2.2.2.1, (t4.2.2.2.2.2.1, ()))))))))
 | .inr (t5) => (let v6 : Int := (((ByteArray.size t5.2.1) : Nat) : Int)
  bif (decide (v6 ≥ (20 : Int))) then (K (.inl (t5.2.1, ((0 : Int), (((), ((), ((), (t5.2.2.1.2.2.2.1, ((), (t5.2.2.1.2.2.2.2.2.1, ())))))), (t5.2.2.2.1, (t5.2.2.2.2.1, (t5.2.2.2.2.2.1, ())))))))) else ((Qq k t5.1 ((), ((), ((), (t5.2.2.1.2.2.2.1, ((), (t5.2.2.1.2.2.2.2.2.1, ())))))) t5.2.2.2.1 t5.2.2.2.2.1 t5.2.2.2.2.2.1).bind fun t7 => (match t7 with
 | .inl t8 => (bif (t8.1 != (0 : Int)) then (K (.inl ((⟨(List.toArray [])⟩ : ByteArray), (t8.1, (((), ((), ((), (t8.2.1.2.2.2.1, ((), (t8.2.1.2.2.2.2.2.1, ())))))), (t8.2.2.1, (t8.2.2.2.1, (t8.2.2.2.2.1, ())))))))) else ((Q0n k (0 : Int)).bind fun t9 => K (.inl (t9.1, ((0 : Int), (((), ((), ((), (t8.2.1.2.2.2.1, ((), (t8.2.1.2.2.2.2.2.1, ())))))), (t8.2.2.1, (t8.2.2.2.1, (t8.2.2.2.2.1, ())))))))))
 | .inr (t10) => (bif (t10.1 != (0 : Int)) then (K (.inr ((⟨(List.toArray [])⟩ : ByteArray), (t10.1, (((), ((), ((), (t10.2.1.2.2.2.1, ((), (t10.2.1.2.2.2.2.2.1, ())))))), (t10.2.2.1, (t10.2.2.2.1, ()))))))) else ((Q0n k (0 : Int)).bind fun t11 => K (.inr (t11.1, ((0 : Int), (((), ((), ((), (t10.2.1.2.2.2.1, ((), (t10.2.1.2.2.2.2.2.1, ())))))), (t10.2.2.1, (t10.2.2.2.1, ()))))))))))))
def Qm (k : Nat) (name : ByteArray) (b0 : QeC) (b1 : QeG) (b2 : QeG) (b3 : Qez) : Option Qm.τ := Qm.c k name b0 b1 b2 b3 some
def Qm.T : Q13 := ⟨[.ptr 0 [], .dat .str], [.pair (.mp 1) (.pair (.mp 2) (.pair (.vsl 3) (.pair (.dat (.int .i64)) (.pair (.nils) (.dat QeH))))), .mpd .str .str, .mpd .str .str, .vec Qex], 3⟩
def Qm.os : List Out := [⟨.ret, [.freeze (.slot 0), .freeze (.slot 1), .auto 3], ⟨[.dat .str, .dat (.int .i64)], [.pair (.mp 1) (.pair (.mp 2) (.pair (.vsl 3) (.pair (.dat (.int .i64)) (.pair (.nils) (.dat QeH))))), .mpd .str .str, .mpd .str .str, .vec Qex]⟩⟩, ⟨.ret, [.freeze (.slot 0), .freeze (.slot 1), .auto 3], ⟨[.dat .str, .dat (.int .i64)], [.pair (.mp 1) (.pair (.mp 2) (.pair (.nils) (.pair (.dat (.int .i64)) (.pair (.nils) (.dat QeH))))), .mpd .str .str, .mpd .str .str]⟩⟩]
def Qm.sem (k : Nat) : QP := Q14 Qm.T Qm.os fun x => Qm k x.1 x.2.1 x.2.2.1 x.2.2.2.1 x.2.2.2.2.1
noncomputable def Qm.ctx (k : Nat) : Ctx := ⟨Try.prog, gam [(51, (Q0w.sem k)), (75, (Qq.sem k)), (9, (Q0n.sem k))]⟩
theorem Qm.gok (k : Nat) : ∀ f, Qw Try.prog f ((Qm.ctx k).Γ f) := (Qe (Q0w.sem_ok k) (Qe (Qq.sem_ok k) (Qe (Q0n.sem_ok k) Q0b)))
theorem Qm.p0.is (k : Nat) : Q20 (Qm.ctx k) (Q0K (Func.code Try.f53) [1, 1, 0]) (.nil) Qm.p0.T Qm.p0.os (Qm.p0.r k) := by
 intro ρ x K; kernel_rfl
theorem Qm.p0.ok (k : Nat) : StOK 3 Try.prog (Q0K (Func.code Try.f53) [1, 1, 0]) (Q01 Qm.p0.T Qm.p0.os (Qm.p0 k)) :=
 Q1O (C := Qm.ctx k) (T := Qm.p0.T) (os := Qm.p0.os) (Qm.gok k) Try.mix (fun x K => Qm.p0.r k x K) Q1.nil (by kernel_rfl) (by kernel_rfl) (Qm.p0.is k)
def Qm.ann (k : Nat) : Ann := .node [] none (.nil) (.node [] none (.nil) (.node [] none (.node [.mask [0, 1, 6, 7], .auto 3] (some (Q01 Qm.p0.T Qm.p0.os (Qm.p0 k))) .nil .nil) (.nil)))
theorem Qm.body (k : Nat) : Q16 (Qm.ctx k) Try.f53 (Func.code Try.f53) (Qm.ann k) Qm.T Qm.os (fun x K => Qm.c k x.1 x.2.1 x.2.2.1 x.2.2.2.1 x.2.2.2.2.1 K) := by
 intro ρ x K; kernel_rfl
theorem Qm.sem_ok (k : Nat) : Qw Try.prog 53 (Qm.sem k) :=
 Q0r (C := Qm.ctx k) (Qm.gok k) Try.mix (c := Func.code Try.f53) (ann := Qm.ann k) (T := Qm.T) (os := Qm.os) (fun x K => Qm.c k x.1 x.2.1 x.2.2.1 x.2.2.2.1 x.2.2.2.2.1 K) Try.func53 (by kernel_rfl) (by kernel_rfl) (Q1.seq Q1.nil (Q1.seq Q1.nil (Q1.seq (Q1.loop (by kernel_rfl) (Qm.p0.ok k)) Q1.nil))) (Qm.body k) (by kernel_rfl) (by kernel_rfl) (by kernel_rfl)
abbrev Q4.p0.σ : Type := ByteArray × QeC × QeG × QeG × Unit
abbrev Q4.p0.τ : Type := Qev ⊕ Qet 
def Q4.p0.r (k : Nat) {ρ : Type} (x : Q4.p0.σ) (K : Q4.p0.τ → Option ρ) : Option ρ :=
 let v0 : Int := (((ByteArray.size x.1) : Nat) : Int)
 bif (decide (v0 > (28 : Int))) then (K (.inl ((70 : Int), (((), ((), ((), (x.2.1.2.2.2.1, ((), (x.2.1.2.2.2.2.2.1, ())))))), (x.2.2.1, (x.2.2.2.1, ())))))) else ((Q10 k x.1).bind fun t1 => bif (!t1.1) then (K (.inl ((70 : Int), (((), ((), ((), (x.2.1.2.2.2.1, ((), (x.2.1.2.2.2.2.2.1, ())))))), (x.2.2.1, (x.2.2.2.1, ())))))) else (K (.inr (x.1, (((), ((), ((), (x.2.1.2.2.2.1, ((), (x.2.1.2.2.2.2.2.1, ())))))), (x.2.2.1, (x.2.2.2.1, ())))))))
def Q4.p0 (k : Nat) (x : Q4.p0.σ) : Option Q4.p0.τ := Q4.p0.r k x some
def Q4.p0.T : StT := ⟨.ptr 0 [] :: .dat .str :: us 123, [.pair (.mp 1) (.pair (.mp 2) (.pair (.nils) (.pair (.dat (.int .i64)) (.pair (.nils) (.dat QeH))))), .mpd .str .str, .mpd .str .str]⟩
def Q4.p0.os : List Out := [⟨.ret, [.mask [4, 5], .auto 3], ⟨us 4 ++ .nilp :: .dat (.int .i64) :: us 119, [.pair (.mp 1) (.pair (.mp 2) (.pair (.nils) (.pair (.dat (.int .i64)) (.pair (.nils) (.dat QeH))))), .mpd .str .str, .mpd .str .str]⟩⟩, ⟨.normal, [.mask [0, 1], .auto 3], ⟨.ptr 0 [] :: .dat .str :: us 123, [.pair (.mp 1) (.pair (.mp 2) (.pair (.nils) (.pair (.dat (.int .i64)) (.pair (.nils) (.dat QeH))))), .mpd .str .str, .mpd .str .str]⟩⟩]
abbrev Q4.p1.σ : Type := ByteArray × ByteArray × Int × QeC × QeG × QeG × Unit
abbrev Q4.p1.τ : Type := Qev ⊕ Qer 
def Q4.p1.r (k : Nat) {ρ : Type} (x : Q4.p1.σ) (K : Q4.p1.τ → Option ρ) : Option ρ :=
 bif (x.2.2.1 != (0 : Int)) then (bif (x.2.2.1 != (2 : Int)) then (K (.inl (x.2.2.1, (((), ((), ((), (x.2.2.2.1.2.2.2.1, ((), (x.2.2.2.1.2.2.2.2.2.1, ())))))), (x.2.2.2.2.1, (x.2.2.2.2.2.1, ())))))) else (K (.inr (x.1, (x.2.1, (((), ((), ((), (x.2.2.2.1.2.2.2.1, ((), (x.2.2.2.1.2.2.2.2.2.1, ())))))), (x.2.2.2.2.1, (x.2.2.2.2.2.1, ())))))))) else (K (.inr (x.1, (x.2.1, (((), ((), ((), (x.2.2.2.1.2.2.2.1, ((), (x.2.2.2.1.2.2.2.2.2.1, ())))))), (x.2.2.2.2.1, (x.2.2.2.2.2.1, ())))))))
def Q4.p1 (k : Nat) (x : Q4.p1.σ) : Option Q4.p1.τ := Q4.p1.r k x some
def Q4.p1.T : StT := ⟨.ptr 0 [] :: .dat .str :: us 4 ++ .dat .str :: .dat (.int .i64) :: us 117, [.pair (.mp 1) (.pair (.mp 2) (.pair (.nils) (.pair (.dat (.int .i64)) (.pair (.nils) (.dat QeH))))), .mpd .str .str, .mpd .str .str]⟩
def Q4.p1.os : List Out := [⟨.ret, [.mask [4, 5], .auto 3], ⟨us 4 ++ .nilp :: .dat (.int .i64) :: us 119, [.pair (.mp 1) (.pair (.mp 2) (.pair (.nils) (.pair (.dat (.int .i64)) (.pair (.nils) (.dat QeH))))), .mpd .str .str, .mpd .str .str]⟩⟩, ⟨.normal, [.mask [0, 1, 6], .auto 3], ⟨.ptr 0 [] :: .dat .str :: us 4 ++ .dat .str :: us 118, [.pair (.mp 1) (.pair (.mp 2) (.pair (.nils) (.pair (.dat (.int .i64)) (.pair (.nils) (.dat QeH))))), .mpd .str .str, .mpd .str .str]⟩⟩]
abbrev Q4.p2.σ : Type := ByteArray × ByteArray × QeC × QeG × QeG × Unit
abbrev Q4.p2.τ : Type := Qev ⊕ Qet 
def Q4.p2.r (k : Nat) {ρ : Type} (x : Q4.p2.σ) (K : Q4.p2.τ → Option ρ) : Option ρ :=
  let v11 : Int := (((ByteArray.size x.2.1) : Nat) : Int)
  bif (decide (v11 ≥ (20 : Int))) then ((Qd k x.2.1).bind fun t12 => (match t12 with
 | .inl t13 => (let v14 : Int := t13.1
  let v15 : Int := t13.2.1
  let v16 : Int := t13.2.2.1
  bif (v16 != (0 : Int)) then (K (.inl (v16, (((), ((), ((), (x.2.2.1.2.2.2.1, ((), (x.2.2.1.2.2.2.2.2.1, ())))))), (x.2.2.2.1, (x.2.2.2.2.1, ())))))) else (K (.inr (x.1, (((), ((), ((), (x.2.2.1.2.2.2.1, ((), (x.2.2.1.2.2.2.2.2.1, ())))))), (x.2.2.2.1, (x.2.2.2.2.1, ())))))))
 | .inr (t17) => (let v18 : Int := t17.1
  let v19 : Int := t17.2.1
  let v20 : Int := t17.2.2.1
  bif (v20 != (0 : Int)) then (K (.inl (v20, (((), ((), ((), (x.2.2.1.2.2.2.1, ((), (x.2.2.1.2.2.2.2.2.1, ())))))), (x.2.2.2.1, (x.2.2.2.2.1, ())))))) else (K (.inr (x.1, (((), ((), ((), (x.2.2.1.2.2.2.1, ((), (x.2.2.1.2.2.2.2.2.1, ())))))), (x.2.2.2.1, (x.2.2.2.2.1, ()))))))))) else (K (.inr (x.1, (((), ((), ((), (x.2.2.1.2.2.2.1, ((), (x.2.2.1.2.2.2.2.2.1, ())))))), (x.2.2.2.1, (x.2.2.2.2.1, ()))))))
def Q4.p2 (k : Nat) (x : Q4.p2.σ) : Option Q4.p2.τ := Q4.p2.r k x some
def Q4.p2.T : StT := ⟨.ptr 0 [] :: .dat .str :: us 4 ++ .dat .str :: us 118, [.pair (.mp 1) (.pair (.mp 2) (.pair (.nils) (.pair (.dat (.int .i64)) (.pair (.nils) (.dat QeH))))), .mpd .str .str, .mpd .str .str]⟩
def Q4.p2.os : List Out := [⟨.ret, [.mask [4, 5], .auto 3], ⟨us 4 ++ .nilp :: .dat (.int .i64) :: us 119, [.pair (.mp 1) (.pair (.mp 2) (.pair (.nils) (.pair (.dat (.int .i64)) (.pair (.nils) (.dat QeH))))), .mpd .str .str, .mpd .str .str]⟩⟩, ⟨.normal, [.mask [0, 1], .auto 3], ⟨.ptr 0 [] :: .dat .str :: us 123, [.pair (.mp 1) (.pair (.mp 2) (.pair (.nils) (.pair (.dat (.int .i64)) (.pair (.nils) (.dat QeH))))), .mpd .str .str, .mpd .str .str]⟩⟩]
abbrev Q4.p3.σ : Type := ByteArray × QeC × QeG × QeG × Unit
abbrev Q4.p3.τ : Type := Qev ⊕ Qet ⊕ Qep ⊕ Qen 
def Q4.p3.r (k : Nat) {ρ : Type} (x : Q4.p3.σ) (K : Q4.p3.τ → Option ρ) : Option ρ :=
  bif (Nat.ble ((ByteArray.size x.1) + 4) 9223372036854775807) then (let v24 : ByteArray := (x.1 ++ (⟨(List.toArray [46, 116, 109, 112])⟩ : ByteArray))
  (Q0v k v24 ((), ((), ((), (x.2.1.2.2.2.1, ((), (x.2.1.2.2.2.2.2.1, ())))))) x.2.2.1 x.2.2.2.1).bind fun t25 => (match t25 with
 | .inl t26 => (bif (t26.1 != (0 : Int)) then (bif (t26.1 != (2 : Int)) then (K (.inl (t26.1, (((), ((), ((), (t26.2.1.2.2.2.1, ((), (t26.2.1.2.2.2.2.2.1, ())))))), (t26.2.2.1, (t26.2.2.2.1, ())))))) else (K (.inr (.inl (x.1, (((), ((), ((), (t26.2.1.2.2.2.1, ((), (t26.2.1.2.2.2.2.2.1, ())))))), (t26.2.2.1, (t26.2.2.2.1, ())))))))) else (K (.inr (.inl (x.1, (((), ((), ((), (t26.2.1.2.2.2.1, ((), (t26.2.1.2.2.2.2.2.1, ())))))), (t26.2.2.1, (t26.2.2.2.1, ()))))))))
 | .inr (t27) => (bif (t27.1 != (0 : Int)) then (bif (t27.1 != (2 : Int)) then (K (.inr (.inr (.inl (t27.1, (((), ((), ((), (t27.2.1.2.2.2.1, ((), (t27.2.1.2.2.2.2.2.1, ())))))), (t27.2.2.1, (t27.2.2.2.1, (t27.2.2.2.2.1, ()))))))))) else (K (.inr (.inr (.inr (x.1, (((), ((), ((), (t27.2.1.2.2.2.1, ((), (t27.2.1.2.2.2.2.2.1, ())))))), (t27.2.2.1, (t27.2.2.2.1, (t27.2.2.2.2.1, ())))))))))) else (K (.inr (.inr (.inr (x.1, (((), ((), ((), (t27.2.1.2.2.2.1, ((), (t27.2.1.2.2.2.2.2.1, ())))))), (t27.2.2.1, (t27.2.2.2.1, (t27.2.2.2.2.1, ())))))))))))) else (none)
def Q4.p3 (k : Nat) (x : Q4.p3.σ) : Option Q4.p3.τ := Q4.p3.r k x some
def Q4.p3.T : StT := ⟨.ptr 0 [] :: .dat .str :: us 123, [.pair (.mp 1) (.pair (.mp 2) (.pair (.nils) (.pair (.dat (.int .i64)) (.pair (.nils) (.dat QeH))))), .mpd .str .str, .mpd .str .str]⟩
def Q4.p3.os : List Out := [⟨.ret, [.mask [4, 5], .auto 3], ⟨us 4 ++ .nilp :: .dat (.int .i64) :: us 119, [.pair (.mp 1) (.pair (.mp 2) (.pair (.nils) (.pair (.dat (.int .i64)) (.pair (.nils) (.dat QeH))))), .mpd .str .str, .mpd .str .str]⟩⟩, ⟨.normal, [.mask [0, 1], .auto 3], ⟨.ptr 0 [] :: .dat .str :: us 123, [.pair (.mp 1) (.pair (.mp 2) (.pair (.nils) (.pair (.dat (.int .i64)) (.pair (.nils) (.dat QeH))))), .mpd .str .str, .mpd .str .str]⟩⟩, ⟨.ret, [.mask [4, 5], .auto 3], ⟨us 4 ++ .nilp :: .dat (.int .i64) :: us 119, [.pair (.mp 1) (.pair (.mp 2) (.pair (.vsl 3) (.pair (.dat (.int .i64)) (.pair (.nils) (.dat QeH))))), .mpd .str .str, .mpd .str .str, .vec Qex]⟩⟩, ⟨.normal, [.mask [0, 1], .auto 3], ⟨.ptr 0 [] :: .dat .str :: us 123, [.pair (.mp 1) (.pair (.mp 2) (.pair (.vsl 3) (.pair (.dat (.int .i64)) (.pair (.nils) (.dat QeH))))), .mpd .str .str, .mpd .str .str, .vec Qex]⟩⟩]
abbrev Q4.τ : Type := Qev ⊕ (Int × QeC × QeG × QeG × Qey × (List Int) × Unit) ⊕ Qep ⊕ (Int × QeC × QeG × QeG × Qez × Qey × (List Int) × Unit) ⊕ (Int × QeC × QeG × QeG × Qey × (List ByteArray) × (List Int) × Unit) ⊕ (Int × QeC × QeG × QeG × Qez × Qey × (List ByteArray) × (List Int) × Unit)
def Q4.c (k : Nat) {ρ : Type} (name : ByteArray) (b0 : QeC) (b1 : QeG) (b2 : QeG) (K : Q4.τ → Option ρ) : Option ρ :=
  (Q4.p0 k (name, (((), ((), ((), (b0.2.2.2.1, ((), (b0.2.2.2.2.2.1, ())))))), (b1, (b2, ()))))).bind fun t2 => (match t2 with
 | .inl t3 => (K (.inl (t3.1, (((), ((), ((), (t3.2.1.2.2.2.1, ((), (t3.2.1.2.2.2.2.2.1, ())))))), (t3.2.2.1, (t3.2.2.2.1, ()))))))
 | .inr (t4) => ((Q0A k t4.1 ((), ((), ((), (t4.2.1.2.2.2.1, ((), (t4.2.1.2.2.2.2.2.1, ())))))) t4.2.2.1 t4.2.2.2.1).bind fun t5 => let v6 : ByteArray := t5.1
  let v7 : Int := t5.2.1
  (Q4.p1 k (t4.1, (v6, (v7, (((), ((), ((), (t5.2.2.1.2.2.2.1, ((), (t5.2.2.1.2.2.2.2.2.1, ())))))), (t5.2.2.2.1, (t5.2.2.2.2.1, ()))))))).bind fun t8 => (match t8 with
 | .inl t9 => (K (.inl (t9.1, (((), ((), ((), (t9.2.1.2.2.2.1, ((), (t9.2.1.2.2.2.2.2.1, ())))))), (t9.2.2.1, (t9.2.2.2.1, ()))))))
 | .inr (t10) => ((Q4.p2 k (t10.1, (t10.2.1, (((), ((), ((), (t10.2.2.1.2.2.2.1, ((), (t10.2.2.1.2.2.2.2.2.1, ())))))), (t10.2.2.2.1, (t10.2.2.2.2.1, ())))))).bind fun t21 => (match t21 with
 | .inl t22 => (K (.inl (t22.1, (((), ((), ((), (t22.2.1.2.2.2.1, ((), (t22.2.1.2.2.2.2.2.1, ())))))), (t22.2.2.1, (t22.2.2.2.1, ()))))))
 | .inr (t23) => ((Q4.p3 k (t23.1, (((), ((), ((), (t23.2.1.2.2.2.1, ((), (t23.2.1.2.2.2.2.2.1, ())))))), (t23.2.2.1, (t23.2.2.2.1, ()))))).bind fun t28 => (match t28 with
 | .inl t29 => (K (.inl (t29.1, (((), ((), ((), (t29.2.1.2.2.2.1, ((), (t29.2.1.2.2.2.2.2.1, ())))))), (t29.2.2.1, (t29.2.2.2.1, ()))))))
 | .inr (.inl t30) => ((Qu k t30.1 ((), ((), ((), (t30.2.1.2.2.2.1, ((), (t30.2.1.2.2.2.2.2.1, ())))))) t30.2.2.1 t30.2.2.2.1).bind fun t31 => (match t31 with
 | .inl t32 => (let v33 : ByteArray := t32.1
  let v34 : Int := t32.2.1
  bif (v34 != (0 : Int)) then (K (.inl (v34, (((), ((), ((), (t32.2.2.1.2.2.2.1, ((), (t32.2.2.1.2.2.2.2.2.1, ())))))), (t32.2.2.2.1, (t32.2.2.2.2.1, ())))))) else ((Qd k v33).bind fun t35 => (match t35 with
 | .inl t36 => (let v37 : Int := t36.1
  let v38 : Int := t36.2.1
  let v39 : Int := t36.2.2.1
  (QJ k []).bind fun t40 => bif (v38 == (0 : Int)) then (K (.inr (.inl ((0 : Int), (((), ((), ((), (t32.2.2.1.2.2.2.1, ((), (t32.2.2.1.2.2.2.2.2.1, ())))))), (t32.2.2.2.1, (t32.2.2.2.2.1, (((), (t30.1, (v37, ((), ((), (v38, (false, ()))))))), (t40.1, ()))))))))) else (let v41 : Int := (IntKind.wrap IntKind.i64 ((((ByteArray.size v33) : Nat) : Int) - v38))
  (Q0y k t30.1 v41 ((), ((), ((), (t32.2.2.1.2.2.2.1, ((), (t32.2.2.1.2.2.2.2.2.1, ())))))) t32.2.2.2.1 t32.2.2.2.2.1).bind fun t42 => (match t42 with
 | .inl t43 => (bif (t43.1 != (0 : Int)) then (K (.inl (t43.1, (((), ((), ((), (t43.2.1.2.2.2.1, ((), (t43.2.1.2.2.2.2.2.1, ())))))), (t43.2.2.1, (t43.2.2.2.1, ())))))) else ((Q9 k ((), ((), ((), (t43.2.1.2.2.2.1, ((), (t43.2.1.2.2.2.2.2.1, ())))))) t43.2.2.1 t43.2.2.2.1).bind fun t44 => bif (t44.1 != (0 : Int)) then (K (.inl (t44.1, (((), ((), ((), (t44.2.1.2.2.2.1, ((), (t44.2.1.2.2.2.2.2.1, ())))))), (t44.2.2.1, (t44.2.2.2.1, ())))))) else (K (.inr (.inl ((0 : Int), (((), ((), ((), (t44.2.1.2.2.2.1, ((), (t44.2.1.2.2.2.2.2.1, ())))))), (t44.2.2.1, (t44.2.2.2.1, (((), (t30.1, (v37, ((), ((), (v38, (false, ()))))))), (t40.1, ())))))))))))
 | .inr (t45) => (bif (t45.1 != (0 : Int)) then (K (.inr (.inr (.inl (t45.1, (((), ((), ((), (t45.2.1.2.2.2.1, ((), (t45.2.1.2.2.2.2.2.1, ())))))), (t45.2.2.1, (t45.2.2.2.1, (t45.2.2.2.2.1, ()))))))))) else ((Q3 k ((), ((), ((), (t45.2.1.2.2.2.1, ((), (t45.2.1.2.2.2.2.2.1, ())))))) t45.2.2.1 t45.2.2.2.1 t45.2.2.2.2.1).bind fun t46 => (match t46 with
 | .inl t47 => (bif (t47.1 != (0 : Int)) then (K (.inr (.inr (.inl (t47.1, (((), ((), ((), (t47.2.1.2.2.2.1, ((), (t47.2.1.2.2.2.2.2.1, ())))))), (t47.2.2.1, (t47.2.2.2.1, (t47.2.2.2.2.1, ()))))))))) else (K (.inr (.inr (.inr (.inl ((0 : Int), (((), ((), ((), (t47.2.1.2.2.2.1, ((), (t47.2.1.2.2.2.2.2.1, ())))))), (t47.2.2.1, (t47.2.2.2.1, (t47.2.2.2.2.1, (((), (t30.1, (v37, ((), ((), (v38, (false, ()))))))), (t40.1, ())))))))))))))
 | .inr (t48) => (bif (t48.1 != (0 : Int)) then (K (.inl (t48.1, (((), ((), ((), (t48.2.1.2.2.2.1, ((), (t48.2.1.2.2.2.2.2.1, ())))))), (t48.2.2.1, (t48.2.2.2.1, ())))))) else (K (.inr (.inl ((0 : Int), (((), ((), ((), (t48.2.1.2.2.2.1, ((), (t48.2.1.2.2.2.2.2.1, ())))))), (t48.2.2.1, (t48.2.2.2.1, (((), (t30.1, (v37, ((), ((), (v38, (false, ()))))))), (t40.1, ()))))))))))))))))
 | .inr (t49) => (let v50 : Int := t49.1
  let v51 : Int := t49.2.1
  let v52 : Int := t49.2.2.1
  (QJ k t49.2.2.2.1).bind fun t53 => bif (v51 == (0 : Int)) then (K (.inr (.inr (.inr (.inr (.inl ((0 : Int), (((), ((), ((), (t32.2.2.1.2.2.2.1, ((), (t32.2.2.1.2.2.2.2.2.1, ())))))), (t32.2.2.2.1, (t32.2.2.2.2.1, (((), (t30.1, (v50, ((), ((), (v51, (false, ()))))))), (t49.2.2.2.1, (t53.1, ()))))))))))))) else (let v54 : Int := (IntKind.wrap IntKind.i64 ((((ByteArray.size v33) : Nat) : Int) - v51))
  (Q0y k t30.1 v54 ((), ((), ((), (t32.2.2.1.2.2.2.1, ((), (t32.2.2.1.2.2.2.2.2.1, ())))))) t32.2.2.2.1 t32.2.2.2.2.1).bind fun t55 => (match t55 with
 | .inl t56 => (bif (t56.1 != (0 : Int)) then (K (.inl (t56.1, (((), ((), ((), (t56.2.1.2.2.2.1, ((), (t56.2.1.2.2.2.2.2.1, ())))))), (t56.2.2.1, (t56.2.2.2.1, ())))))) else ((Q9 k ((), ((), ((), (t56.2.1.2.2.2.1, ((), (t56.2.1.2.2.2.2.2.1, ())))))) t56.2.2.1 t56.2.2.2.1).bind fun t57 => bif (t57.1 != (0 : Int)) then (K (.inl (t57.1, (((), ((), ((), (t57.2.1.2.2.2.1, ((), (t57.2.1.2.2.2.2.2.1, ())))))), (t57.2.2.1, (t57.2.2.2.1, ())))))) else (K (.inr (.inr (.inr (.inr (.inl ((0 : Int), (((), ((), ((), (t57.2.1.2.2.2.1, ((), (t57.2.1.2.2.2.2.2.1, ())))))), (t57.2.2.1, (t57.2.2.2.1, (((), (t30.1, (v50, ((), ((), (v51, (false, ()))))))), (t49.2.2.2.1, (t53.1, ())))))))))))))))
 | .inr (t58) => (bif (t58.1 != (0 : Int)) then (K (.inr (.inr (.inl (t58.1, (((), ((), ((), (t58.2.1.2.2.2.1, ((), (t58.2.1.2.2.2.2.2.1, ())))))), (t58.2.2.1, (t58.2.2.2.1, (t58.2.2.2.2.1, ()))))))))) else ((Q3 k ((), ((), ((), (t58.2.1.2.2.2.1, ((), (t58.2.1.2.2.2.2.2.1, ())))))) t58.2.2.1 t58.2.2.2.1 t58.2.2.2.2.1).bind fun t59 => (match t59 with
 | .inl t60 => (bif (t60.1 != (0 : Int)) then (K (.inr (.inr (.inl (t60.1, (((), ((), ((), (t60.2.1.2.2.2.1, ((), (t60.2.1.2.2.2.2.2.1, ())))))), (t60.2.2.1, (t60.2.2.2.1, (t60.2.2.2.2.1, ()))))))))) else (K (.inr (.inr (.inr (.inr (.inr ((0 : Int), (((), ((), ((), (t60.2.1.2.2.2.1, ((), (t60.2.1.2.2.2.2.2.1, ())))))), (t60.2.2.1, (t60.2.2.2.1, (t60.2.2.2.2.1, (((), (t30.1, (v50, ((), ((), (v51, (false, ()))))))), (t49.2.2.2.1, (t53.1, ())))))))))))))))
 | .inr (t61) => (bif (t61.1 != (0 : Int)) then (K (.inl (t61.1, (((), ((), ((), (t61.2.1.2.2.2.1, ((), (t61.2.1.2.2.2.2.2.1, ())))))), (t61.2.2.1, (t61.2.2.2.1, ())))))) else (K (.inr (.inr (.inr (.inr (.inl ((0 : Int), (((), ((), ((), (t61.2.1.2.2.2.1, ((), (t61.2.1.2.2.2.2.2.1, ())))))), (t61.2.2.1, (t61.2.2.2.1, (((), (t30.1, (v50, ((), ((), (v51, (false, ()))))))), (t49.2.2.2.1, (t53.1, ())))))))))))))))))))))))
 | .inr (t62) => (let v63 : ByteArray := t62.1
  let v64 : Int := t62.2.1
  bif (v64 != (0 : Int)) then (K (.inr (.inr (.inl (v64, (((), ((), ((), (t62.2.2.1.2.2.2.1, ((), (t62.2.2.1.2.2.2.2.2.1, ())))))), (t62.2.2.2.1, (t62.2.2.2.2.1, (t62.2.2.2.2.2.1, ()))))))))) else ((Qd k v63).bind fun t65 => (match t65 with
 | .inl t66 => (let v67 : Int := t66.1
  let v68 : Int := t66.2.1
  let v69 : Int := t66.2.2.1
  (QJ k []).bind fun t70 => bif (v68 == (0 : Int)) then (K (.inr (.inr (.inr (.inl ((0 : Int), (((), ((), ((), (t62.2.2.1.2.2.2.1, ((), (t62.2.2.1.2.2.2.2.2.1, ())))))), (t62.2.2.2.1, (t62.2.2.2.2.1, (t62.2.2.2.2.2.1, (((), (t30.1, (v67, ((), ((), (v68, (false, ()))))))), (t70.1, ())))))))))))) else (let v71 : Int := (IntKind.wrap IntKind.i64 ((((ByteArray.size v63) : Nat) : Int) - v68))
  (Q0k k t30.1 v71 ((), ((), ((), (t62.2.2.1.2.2.2.1, ((), (t62.2.2.1.2.2.2.2.2.1, ())))))) t62.2.2.2.1 t62.2.2.2.2.1 t62.2.2.2.2.2.1).bind fun t72 => bif (t72.1 != (0 : Int)) then (K (.inr (.inr (.inl (t72.1, (((), ((), ((), (t72.2.1.2.2.2.1, ((), (t72.2.1.2.2.2.2.2.1, ())))))), (t72.2.2.1, (t72.2.2.2.1, (t72.2.2.2.2.1, ()))))))))) else ((Q3 k ((), ((), ((), (t72.2.1.2.2.2.1, ((), (t72.2.1.2.2.2.2.2.1, ())))))) t72.2.2.1 t72.2.2.2.1 t72.2.2.2.2.1).bind fun t73 => (match t73 with
 | .inl t74 => (bif (t74.1 != (0 : Int)) then (K (.inr (.inr (.inl (t74.1, (((), ((), ((), (t74.2.1.2.2.2.1, ((), (t74.2.1.2.2.2.2.2.1, ())))))), (t74.2.2.1, (t74.2.2.2.1, (t74.2.2.2.2.1, ()))))))))) else (K (.inr (.inr (.inr (.inl ((0 : Int), (((), ((), ((), (t74.2.1.2.2.2.1, ((), (t74.2.1.2.2.2.2.2.1, ())))))), (t74.2.2.1, (t74.2.2.2.1, (t74.2.2.2.2.1, (((), (t30.1, (v67, ((), ((), (v68, (false, ()))))))), (t70.1, ())))))))))))))
 | .inr (t75) => (bif (t75.1 != (0 : Int)) then (K (.inl (t75.1, (((), ((), ((), (t75.2.1.2.2.2.1, ((), (t75.2.1.2.2.2.2.2.1, ())))))), (t75.2.2.1, (t75.2.2.2.1, ())))))) else (K (.inr (.inl ((0 : Int), (((), ((), ((), (t75.2.1.2.2.2.1, ((), (t75.2.1.2.2.2.2.2.1, ())))))), (t75.2.2.1, (t75.2.2.2.1, (((), (t30.1, (v67, ((), ((), (v68, (false, ()))))))), (t70.1, ()))))))))))))))
 | .inr (t76) => (let v77 : Int := t76.1
  let v78 : Int := t76.2.1
  let v79 : Int := t76.2.2.1
  (QJ k t76.2.2.2.1).bind fun t80 => bif (v78 == (0 : Int)) then (K (.inr (.inr (.inr (.inr (.inr ((0 : Int), (((), ((), ((), (t62.2.2.1.2.2.2.1, ((), (t62.2.2.1.2.2.2.2.2.1, ())))))), (t62.2.2.2.1, (t62.2.2.2.2.1, (t62.2.2.2.2.2.1, (((), (t30.1, (v77, ((), ((), (v78, (false, ()))))))), (t76.2.2.2.1, (t80.1, ())))))))))))))) else (let v81 : Int := (IntKind.wrap IntKind.i64 ((((ByteArray.size v63) : Nat) : Int) - v78))
  (Q0k k t30.1 v81 ((), ((), ((), (t62.2.2.1.2.2.2.1, ((), (t62.2.2.1.2.2.2.2.2.1, ())))))) t62.2.2.2.1 t62.2.2.2.2.1 t62.2.2.2.2.2.1).bind fun t82 => bif (t82.1 != (0 : Int)) then (K (.inr (.inr (.inl (t82.1, (((), ((), ((), (t82.2.1.2.2.2.1, ((), (t82.2.1.2.2.2.2.2.1, ())))))), (t82.2.2.1, (t82.2.2.2.1, (t82.2.2.2.2.1, ()))))))))) else ((Q3 k ((), ((), ((), (t82.2.1.2.2.2.1, ((), (t82.2.1.2.2.2.2.2.1, ())))))) t82.2.2.1 t82.2.2.2.1 t82.2.2.2.2.1).bind fun t83 => (match t83 with
 | .inl t84 => (bif (t84.1 != (0 : Int)) then (K (.inr (.inr (.inl (t84.1, (((), ((), ((), (t84.2.1.2.2.2.1, ((), (t84.2.1.2.2.2.2.2.1, ())))))), (t84.2.2.1, (t84.2.2.2.1, (t84.2.2.2.2.1, ()))))))))) else (K (.inr (.inr (.inr (.inr (.inr ((0 : Int), (((), ((), ((), (t84.2.1.2.2.2.1, ((), (t84.2.1.2.2.2.2.2.1, ())))))), (t84.2.2.1, (t84.2.2.2.1, (t84.2.2.2.2.1, (((), (t30.1, (v77, ((), ((), (v78, (false, ()))))))), (t76.2.2.2.1, (t80.1, ())))))))))))))))
 | .inr (t85) => (bif (t85.1 != (0 : Int)) then (K (.inl (t85.1, (((), ((), ((), (t85.2.1.2.2.2.1, ((), (t85.2.1.2.2.2.2.2.1, ())))))), (t85.2.2.1, (t85.2.2.2.1, ())))))) else (K (.inr (.inr (.inr (.inr (.inl ((0 : Int), (((), ((), ((), (t85.2.1.2.2.2.1, ((), (t85.2.1.2.2.2.2.2.1, ())))))), (t85.2.2.1, (t85.2.2.2.1, (((), (t30.1, (v77, ((), ((), (v78, (false, ()))))))), (t76.2.2.2.1, (t80.1, ())))))))))))))))))))))))
 | .inr (.inr (.inl t86)) => (K (.inr (.inr (.inl (t86.1, (((), ((), ((), (t86.2.1.2.2.2.1, ((), (t86.2.1.2.2.2.2.2.1, ())))))), (t86.2.2.1, (t86.2.2.2.1, (t86.2.2.2.2.1, ())))))))))
 | .inr (.inr (.inr (t87))) => ((Qm k t87.1 ((), ((), ((), (t87.2.1.2.2.2.1, ((), (t87.2.1.2.2.2.2.2.1, ())))))) t87.2.2.1 t87.2.2.2.1 t87.2.2.2.2.1).bind fun t88 => (match t88 with
 | .inl t89 => (let v90 : ByteArray := t89.1
  let v91 : Int := t89.2.1
  bif (v91 != (0 : Int)) then (K (.inr (.inr (.inl (v91, (((), ((), ((), (t89.2.2.1.2.2.2.1, ((), (t89.2.2.1.2.2.2.2.2.1, ())))))), (t89.2.2.2.1, (t89.2.2.2.2.1, (t89.2.2.2.2.2.1, ()))))))))) else ((Qd k v90).bind fun t92 => (match t92 with
 | .inl t93 => (let v94 : Int := t93.1
  let v95 : Int := t93.2.1
  let v96 : Int := t93.2.2.1
  (QJ k []).bind fun t97 => bif (v95 == (0 : Int)) then (K (.inr (.inr (.inr (.inl ((0 : Int), (((), ((), ((), (t89.2.2.1.2.2.2.1, ((), (t89.2.2.1.2.2.2.2.2.1, ())))))), (t89.2.2.2.1, (t89.2.2.2.2.1, (t89.2.2.2.2.2.1, (((), (t87.1, (v94, ((), ((), (v95, (false, ()))))))), (t97.1, ())))))))))))) else (let v98 : Int := (IntKind.wrap IntKind.i64 ((((ByteArray.size v90) : Nat) : Int) - v95))
  (Q0k k t87.1 v98 ((), ((), ((), (t89.2.2.1.2.2.2.1, ((), (t89.2.2.1.2.2.2.2.2.1, ())))))) t89.2.2.2.1 t89.2.2.2.2.1 t89.2.2.2.2.2.1).bind fun t99 => bif (t99.1 != (0 : Int)) then (K (.inr (.inr (.inl (t99.1, (((), ((), ((), (t99.2.1.2.2.2.1, ((), (t99.2.1.2.2.2.2.2.1, ())))))), (t99.2.2.1, (t99.2.2.2.1, (t99.2.2.2.2.1, ()))))))))) else ((Q3 k ((), ((), ((), (t99.2.1.2.2.2.1, ((), (t99.2.1.2.2.2.2.2.1, ())))))) t99.2.2.1 t99.2.2.2.1 t99.2.2.2.2.1).bind fun t100 => (match t100 with
 | .inl t101 => (bif (t101.1 != (0 : Int)) then (K (.inr (.inr (.inl (t101.1, (((), ((), ((), (t101.2.1.2.2.2.1, ((), (t101.2.1.2.2.2.2.2.1, ())))))), (t101.2.2.1, (t101.2.2.2.1, (t101.2.2.2.2.1, ()))))))))) else (K (.inr (.inr (.inr (.inl ((0 : Int), (((), ((), ((), (t101.2.1.2.2.2.1, ((), (t101.2.1.2.2.2.2.2.1, ())))))), (t101.2.2.1, (t101.2.2.2.1, (t101.2.2.2.2.1, (((), (t87.1, (v94, ((), ((), (v95, (false, ()))))))), (t97.1, ())))))))))))))
 | .inr (t102) => (bif (t102.1 != (0 : Int)) then (K (.inl (t102.1, (((), ((), ((), (t102.2.1.2.2.2.1, ((), (t102.2.1.2.2.2.2.2.1, ())))))), (t102.2.2.1, (t102.2.2.2.1, ())))))) else (K (.inr (.inl ((0 : Int), (((), ((), ((), (t102.2.1.2.2.2.1, ((), (t102.2.1.2.2.2.2.2.1, ())))))), (t102.2.2.1, (t102.2.2.2.1, (((), (t87.1, (v94, ((), ((), (v95, (false, ()))))))), (t97.1, ()))))))))))))))
 | .inr (t103) => (let v104 : Int := t103.1
  let v105 : Int := t103.2.1
  let v106 : Int := t103.2.2.1
  (QJ k t103.2.2.2.1).bind fun t107 => bif (v105 == (0 : Int)) then (K (.inr (.inr (.inr (.inr (.inr ((0 : Int), (((), ((), ((), (t89.2.2.1.2.2.2.1, ((), (t89.2.2.1.2.2.2.2.2.1, ())))))), (t89.2.2.2.1, (t89.2.2.2.2.1, (t89.2.2.2.2.2.1, (((), (t87.1, (v104, ((), ((), (v105, (false, ()))))))), (t103.2.2.2.1, (t107.1, ())))))))))))))) else (let v108 : Int := (IntKind.wrap IntKind.i64 ((((ByteArray.size v90) : Nat) : Int) - v105))
  (Q0k k t87.1 v108 ((), ((), ((), (t89.2.2.1.2.2.2.1, ((), (t89.2.2.1.2.2.2.2.2.1, ())))))) t89.2.2.2.1 t89.2.2.2.2.1 t89.2.2.2.2.2.1).bind fun t109 => bif (t109.1 != (0 : Int)) then (K (.inr (.inr (.inl (t109.1, (((), ((), ((), (t109.2.1.2.2.2.1, ((), (t109.2.1.2.2.2.2.2.1, ())))))), (t109.2.2.1, (t109.2.2.2.1, (t109.2.2.2.2.1, ()))))))))) else ((Q3 k ((), ((), ((), (t109.2.1.2.2.2.1, ((), (t109.2.1.2.2.2.2.2.1, ())))))) t109.2.2.1 t109.2.2.2.1 t109.2.2.2.2.1).bind fun t110 => (match t110 with
 | .inl t111 => (bif (t111.1 != (0 : Int)) then (K (.inr (.inr (.inl (t111.1, (((), ((), ((), (t111.2.1.2.2.2.1, ((), (t111.2.1.2.2.2.2.2.1, ())))))), (t111.2.2.1, (t111.2.2.2.1, (t111.2.2.2.2.1, ()))))))))) else (K (.inr (.inr (.inr (.inr (.inr ((0 : Int), (((), ((), ((), (t111.2.1.2.2.2.1, ((), (t111.2.1.2.2.2.2.2.1, ())))))), (t111.2.2.1, (t111.2.2.2.1, (t111.2.2.2.2.1, (((), (t87.1, (v104, ((), ((), (v105, (false, ()))))))), (t103.2.2.2.1, (t107.1, ())))))))))))))))
 | .inr (t112) => (bif (t112.1 != (0 : Int)) then (K (.inl (t112.1, (((), ((), ((), (t112.2.1.2.2.2.1, ((), (t112.2.1.2.2.2.2.2.1, ())))))), (t112.2.2.1, (t112.2.2.2.1, ())))))) else (K (.inr (.inr (.inr (.inr (.inl ((0 : Int), (((), ((), ((), (t112.2.1.2.2.2.1, ((), (t112.2.1.2.2.2.2.2.1, ())))))), (t112.2.2.1, (t112.2.2.2.1, (((), (t87.1, (v104, ((), ((), (v105, (false, ()))))))), (t103.2.2.2.1, (t107.1, ())))))))))))))))))))))
 | .inr (t113) => (let v114 : ByteArray := t113.1
  let v115 : Int := t113.2.1
  bif (v115 != (0 : Int)) then (K (.inl (v115, (((), ((), ((), (t113.2.2.1.2.2.2.1, ((), (t113.2.2.1.2.2.2.2.2.1, ())))))), (t113.2.2.2.1, (t113.2.2.2.2.1, ())))))) else ((Qd k v114).bind fun t116 => (match t116 with
 | .inl t117 => (let v118 : Int := t117.1
  let v119 : Int := t117.2.1
  let v120 : Int := t117.2.2.1
  (QJ k []).bind fun t121 => bif (v119 == (0 : Int)) then (K (.inr (.inl ((0 : Int), (((), ((), ((), (t113.2.2.1.2.2.2.1, ((), (t113.2.2.1.2.2.2.2.2.1, ())))))), (t113.2.2.2.1, (t113.2.2.2.2.1, (((), (t87.1, (v118, ((), ((), (v119, (false, ()))))))), (t121.1, ()))))))))) else (let v122 : Int := (IntKind.wrap IntKind.i64 ((((ByteArray.size v114) : Nat) : Int) - v119))
  (Q0y k t87.1 v122 ((), ((), ((), (t113.2.2.1.2.2.2.1, ((), (t113.2.2.1.2.2.2.2.2.1, ())))))) t113.2.2.2.1 t113.2.2.2.2.1).bind fun t123 => (match t123 with
 | .inl t124 => (bif (t124.1 != (0 : Int)) then (K (.inl (t124.1, (((), ((), ((), (t124.2.1.2.2.2.1, ((), (t124.2.1.2.2.2.2.2.1, ())))))), (t124.2.2.1, (t124.2.2.2.1, ())))))) else ((Q9 k ((), ((), ((), (t124.2.1.2.2.2.1, ((), (t124.2.1.2.2.2.2.2.1, ())))))) t124.2.2.1 t124.2.2.2.1).bind fun t125 => bif (t125.1 != (0 : Int)) then (K (.inl (t125.1, (((), ((), ((), (t125.2.1.2.2.2.1, ((), (t125.2.1.2.2.2.2.2.1, ())))))), (t125.2.2.1, (t125.2.2.2.1, ())))))) else (K (.inr (.inl ((0 : Int), (((), ((), ((), (t125.2.1.2.2.2.1, ((), (t125.2.1.2.2.2.2.2.1, ())))))), (t125.2.2.1, (t125.2.2.2.1, (((), (t87.1, (v118, ((), ((), (v119, (false, ()))))))), (t121.1, ())))))))))))
 | .inr (t126) => (bif (t126.1 != (0 : Int)) then (K (.inr (.inr (.inl (t126.1, (((), ((), ((), (t126.2.1.2.2.2.1, ((), (t126.2.1.2.2.2.2.2.1, ())))))), (t126.2.2.1, (t126.2.2.2.1, (t126.2.2.2.2.1, ()))))))))) else ((Q3 k ((), ((), ((), (t126.2.1.2.2.2.1, ((), (t126.2.1.2.2.2.2.2.1, ())))))) t126.2.2.1 t126.2.2.2.1 t126.2.2.2.2.1).bind fun t127 => (match t127 with
 | .inl t128 => (bif (t128.1 != (0 : Int)) then (K (.inr (.inr (.inl (t128.1, (((), ((), ((), (t128.2.1.2.2.2.1, ((), (t128.2.1.2.2.2.2.2.1, ())))))), (t128.2.2.1, (t128.2.2.2.1, (t128.2.2.2.2.1, ()))))))))) else (K (.inr (.inr (.inr (.inl ((0 : Int), (((), ((), ((), (t128.2.1.2.2.2.1, ((), (t128.2.1.2.2.2.2.2.1, ())))))), (t128.2.2.1, (t128.2.2.2.1, (t128.2.2.2.2.1, (((), (t87.1, (v118, ((), ((), (v119, (false, ()))))))), (t121.1, ())))))))))))))
 | .inr (t129) => (bif (t129.1 != (0 : Int)) then (K (.inl (t129.1, (((), ((), ((), (t129.2.1.2.2.2.1, ((), (t129.2.1.2.2.2.2.2.1, ())))))), (t129.2.2.1, (t129.2.2.2.1, ())))))) else (K (.inr (.inl ((0 : Int), (((), ((), ((), (t129.2.1.2.2.2.1, ((), (t129.2.1.2.2.2.2.2.1, ())))))), (t129.2.2.1, (t129.2.2.2.1, (((), (t87.1, (v118, ((), ((), (v119, (false, ()))))))), (t121.1, ()))))))))))))))))
 | .inr (t130) => (let v131 : Int := t130.1
  let v132 : Int := t130.2.1
  let v133 : Int := t130.2.2.1
  (QJ k t130.2.2.2.1).bind fun t134 => bif (v132 == (0 : Int)) then (K (.inr (.inr (.inr (.inr (.inl ((0 : Int), (((), ((), ((), (t113.2.2.1.2.2.2.1, ((), (t113.2.2.1.2.2.2.2.2.1, ())))))), (t113.2.2.2.1, (t113.2.2.2.2.1, (((), (t87.1, (v131, ((), ((), (v132, (false, ()))))))), (t130.2.2.2.1, (t134.1, ()))))))))))))) else (let v135 : Int := (IntKind.wrap IntKind.i64 ((((ByteArray.size v114) : Nat) : Int) - v132))
  (Q0y k t87.1 v135 ((), ((), ((), (t113.2.2.1.2.2.2.1, ((), (t113.2.2.1.2.2.2.2.2.1, ())))))) t113.2.2.2.1 t113.2.2.2.2.1).bind fun t136 => (match t136 with
 | .inl t137 => (bif (t137.1 != (0 : Int)) then (K (.inl (t137.1, (((), ((), ((), (t137.2.1.2.2.2.1, ((), (t137.2.1.2.2.2.2.2.1, ())))))), (t137.2.2.1, (t137.2.2.2.1, ())))))) else ((Q9 k ((), ((), ((), (t137.2.1.2.2.2.1, ((), (t137.2.1.2.2.2.2.2.1, ())))))) t137.2.2.1 t137.2.2.2.1).bind fun t138 => bif (t138.1 != (0 : Int)) then (K (.inl (t138.1, (((), ((), ((), (t138.2.1.2.2.2.1, ((), (t138.2.1.2.2.2.2.2.1, ())))))), (t138.2.2.1, (t138.2.2.2.1, ())))))) else (K (.inr (.inr (.inr (.inr (.inl ((0 : Int), (((), ((), ((), (t138.2.1.2.2.2.1, ((), (t138.2.1.2.2.2.2.2.1, ())))))), (t138.2.2.1, (t138.2.2.2.1, (((), (t87.1, (v131, ((), ((), (v132, (false, ()))))))), (t130.2.2.2.1, (t134.1, ())))))))))))))))
 | .inr (t139) => (bif (t139.1 != (0 : Int)) then (K (.inr (.inr (.inl (t139.1, (((), ((), ((), (t139.2.1.2.2.2.1, ((), (t139.2.1.2.2.2.2.2.1, ())))))), (t139.2.2.1, (t139.2.2.2.1, (t139.2.2.2.2.1, ()))))))))) else ((Q3 k ((), ((), ((), (t139.2.1.2.2.2.1, ((), (t139.2.1.2.2.2.2.2.1, ())))))) t139.2.2.1 t139.2.2.2.1 t139.2.2.2.2.1).bind fun t140 => (match t140 with
 | .inl t141 => (bif (t141.1 != (0 : Int)) then (K (.inr (.inr (.inl (t141.1, (((), ((), ((), (t141.2.1.2.2.2.1, ((), (t141.2.1.2.2.2.2.2.1, ())))))), (t141.2.2.1, (t141.2.2.2.1, (t141.2.2.2.2.1, ()))))))))) else (K (.inr (.inr (.inr (.inr (.inr ((0 : Int), (((), ((), ((), (t141.2.1.2.2.2.1, ((), (t141.2.1.2.2.2.2.2.1, ())))))), (t141.2.2.1, (t141.2.2.2.1, (t141.2.2.2.2.1, (((), (t87.1, (v131, ((), ((), (v132, (false, ()))))))), (t130.2.2.2.1, (t134.1, ())))))))))))))))
 | .inr (t142) => (bif (t142.1 != (0 : Int)) then (K (.inl (t142.1, (((), ((), ((), (t142.2.1.2.2.2.1, ((), (t142.2.1.2.2.2.2.2.1, ())))))), (t142.2.2.1, (t142.2.2.2.1, ())))))) else (K (.inr (.inr (.inr (.inr (.inl ((0 : Int), (((), ((), ((), (t142.2.1.2.2.2.1, ((), (t142.2.1.2.2.2.2.2.1, ())))))), (t142.2.2.1, (t142.2.2.2.1, (((), (t87.1, (v131, ((), ((), (v132, (false, ()))))))), (t130.2.2.2.1, (t134.1, ()))))))))))))))))))))))))))))))))
def Q4 (k : Nat) (name : ByteArray) (b0 : QeC) (b1 : QeG) (b2 : QeG) : Option Q4.τ := Q4.c k name b0 b1 b2 some
def Q4.T : Q13 := ⟨[.ptr 0 [], .dat .str], [.pair (.mp 1) (.pair (.mp 2) (.pair (.nils) (.pair (.dat (.int .i64)) (.pair (.nils) (.dat QeH))))), .mpd .str .str, .mpd .str .str], 3⟩
def Q4.os : List Out := [⟨.ret, [.freeze (.slot 1), .auto 3], ⟨[.nilp, .dat (.int .i64)], [.pair (.mp 1) (.pair (.mp 2) (.pair (.nils) (.pair (.dat (.int .i64)) (.pair (.nils) (.dat QeH))))), .mpd .str .str, .mpd .str .str]⟩⟩, ⟨.ret, [.freeze (.slot 1), .auto 3], ⟨[.ptr 3 [], .dat (.int .i64)], [.pair (.mp 1) (.pair (.mp 2) (.pair (.nils) (.pair (.dat (.int .i64)) (.pair (.nils) (.dat QeH))))), .mpd .str .str, .mpd .str .str, .pair (.ptr 0 []) (.pair (.dat .str) (.pair (.dat (.int .u64)) (.pair (.nils) (.pair (.vsl 4) (.dat QeE))))), .vec (.int .i64)]⟩⟩, ⟨.ret, [.freeze (.slot 1), .auto 3], ⟨[.nilp, .dat (.int .i64)], [.pair (.mp 1) (.pair (.mp 2) (.pair (.vsl 3) (.pair (.dat (.int .i64)) (.pair (.nils) (.dat QeH))))), .mpd .str .str, .mpd .str .str, .vec Qex]⟩⟩, ⟨.ret, [.freeze (.slot 1), .auto 3], ⟨[.ptr 4 [], .dat (.int .i64)], .pair (.mp 1) (.pair (.mp 2) (.pair (.vsl 3) (.pair (.dat (.int .i64)) (.pair (.nils) (.dat QeH))))) :: .mpd .str .str :: .mpd .str .str :: .vec Qex :: .pair (.ptr 0 []) (.pair (.dat .str) (.pair (.dat (.int .u64)) (.pair (.nils) (.pair (.vsl 5) (.dat QeE))))) :: .vec (.int .i64) :: []⟩⟩, ⟨.ret, [.freeze (.slot 1), .auto 3], ⟨[.ptr 3 [], .dat (.int .i64)], .pair (.mp 1) (.pair (.mp 2) (.pair (.nils) (.pair (.dat (.int .i64)) (.pair (.nils) (.dat QeH))))) :: .mpd .str .str :: .mpd .str .str :: .pair (.ptr 0 []) (.pair (.dat .str) (.pair (.dat (.int .u64)) (.pair (.vsl 4) (.pair (.vsl 5) (.dat QeE))))) :: .vec .str :: .vec (.int .i64) :: []⟩⟩, ⟨.ret, [.freeze (.slot 1), .auto 3], ⟨[.ptr 4 [], .dat (.int .i64)], .pair (.mp 1) (.pair (.mp 2) (.pair (.vsl 3) (.pair (.dat (.int .i64)) (.pair (.nils) (.dat QeH))))) :: .mpd .str .str :: .mpd .str .str :: .vec Qex :: .pair (.ptr 0 []) (.pair (.dat .str) (.pair (.dat (.int .u64)) (.pair (.vsl 5) (.pair (.vsl 6) (.dat QeE))))) :: .vec .str :: .vec (.int .i64) :: []⟩⟩]
def Q4.sem (k : Nat) : QP := Q14 Q4.T Q4.os fun x => Q4 k x.1 x.2.1 x.2.2.1 x.2.2.2.1
noncomputable def Q4.ctx (k : Nat) : Ctx := ⟨Try.prog, gam [(50, (Q10.sem k)), (51, (Q0A.sem k)), (12, (Qd.sem k)), (52, (Q0v.sem k)), (53, (Q27 (Q2d Qu.T) (Qu.sem k) (Qm.sem k))), (54, (QJ.sem k)), (55, (Q27 (Q2d Q0y.T) (Q0y.sem k) (Q0k.sem k))), (56, (Q27 (Q2d Q9.T) (Q9.sem k) (Q3.sem k)))]⟩
theorem Q4.gok (k : Nat) : ∀ f, Qw Try.prog f ((Q4.ctx k).Γ f) := (Qe (Q10.sem_ok k) (Qe (Q0A.sem_ok k) (Qe (Qd.sem_ok k) (Qe (Q0v.sem_ok k) (Qe (Q1p (Qu.sem_ok k) (Qm.sem_ok k)) (Qe (QJ.sem_ok k) (Qe (Q1p (Q0y.sem_ok k) (Q0k.sem_ok k)) (Qe (Q1p (Q9.sem_ok k) (Q3.sem_ok k)) Q0b))))))))
theorem Q4.p0.is (k : Nat) : Q20 (Q4.ctx k) (Q0K (Func.code Try.f16) [1, 1, 0]) (.nil) Q4.p0.T Q4.p0.os (Q4.p0.r k) := by
 intro ρ x K; kernel_rfl
theorem Q4.p0.ok (k : Nat) : StOK 3 Try.prog (Q0K (Func.code Try.f16) [1, 1, 0]) (Q01 Q4.p0.T Q4.p0.os (Q4.p0 k)) :=
 Q1O (C := Q4.ctx k) (T := Q4.p0.T) (os := Q4.p0.os) (Q4.gok k) Try.mix (fun x K => Q4.p0.r k x K) Q1.nil (by kernel_rfl) (by kernel_rfl) (Q4.p0.is k)
theorem Q4.p1.is (k : Nat) : Q20 (Q4.ctx k) (Q0K (Func.code Try.f16) [1, 1, 1, 1, 0]) (.nil) Q4.p1.T Q4.p1.os (Q4.p1.r k) := by
 intro ρ x K; kernel_rfl
theorem Q4.p1.ok (k : Nat) : StOK 3 Try.prog (Q0K (Func.code Try.f16) [1, 1, 1, 1, 0]) (Q01 Q4.p1.T Q4.p1.os (Q4.p1 k)) :=
 Q1O (C := Q4.ctx k) (T := Q4.p1.T) (os := Q4.p1.os) (Q4.gok k) Try.mix (fun x K => Q4.p1.r k x K) Q1.nil (by kernel_rfl) (by kernel_rfl) (Q4.p1.is k)
theorem Q4.p2.is (k : Nat) : Q20 (Q4.ctx k) (Q0K (Func.code Try.f16) [1, 1, 1, 1, 1, 0]) (.nil) Q4.p2.T Q4.p2.os (Q4.p2.r k) := by
 intro ρ x K; kernel_rfl
theorem Q4.p2.ok (k : Nat) : StOK 3 Try.prog (Q0K (Func.code Try.f16) [1, 1, 1, 1, 1, 0]) (Q01 Q4.p2.T Q4.p2.os (Q4.p2 k)) :=
 Q1O (C := Q4.ctx k) (T := Q4.p2.T) (os := Q4.p2.os) (Q4.gok k) Try.mix (fun x K => Q4.p2.r k x K) Q1.nil (by kernel_rfl) (by kernel_rfl) (Q4.p2.is k)
theorem Q4.p3.is (k : Nat) : Q20 (Q4.ctx k) (Q0K (Func.code Try.f16) [1, 1, 1, 1, 1, 1, 0]) (.nil) Q4.p3.T Q4.p3.os (Q4.p3.r k) := by
 intro ρ x K; kernel_rfl
theorem Q4.p3.ok (k : Nat) : StOK 3 Try.prog (Q0K (Func.code Try.f16) [1, 1, 1, 1, 1, 1, 0]) (Q01 Q4.p3.T Q4.p3.os (Q4.p3 k)) :=
 Q1O (C := Q4.ctx k) (T := Q4.p3.T) (os := Q4.p3.os) (Q4.gok k) Try.mix (fun x K => Q4.p3.r k x K) Q1.nil (by kernel_rfl) (by kernel_rfl) (Q4.p3.is k)
def Q4.ann (k : Nat) : Ann := .node [] none (.nil) (.node [] none (.nil) (.node [] none (.node [.mask [0, 1], .auto 3] (some (Q01 Q4.p0.T Q4.p0.os (Q4.p0 k))) .nil .nil) (.node [] none (.nil) (.node [] none (.node [.mask [0, 1, 6, 7], .auto 3] (some (Q01 Q4.p1.T Q4.p1.os (Q4.p1 k))) .nil .nil) (.node [] none (.node [.mask [0, 1, 6], .auto 3] (some (Q01 Q4.p2.T Q4.p2.os (Q4.p2 k))) .nil .nil) (.node [] none (.node [.mask [0, 1], .auto 3] (some (Q01 Q4.p3.T Q4.p3.os (Q4.p3 k))) .nil .nil) (.nil)))))))
theorem Q4.body (k : Nat) : Q16 (Q4.ctx k) Try.f16 (Func.code Try.f16) (Q4.ann k) Q4.T Q4.os (fun x K => Q4.c k x.1 x.2.1 x.2.2.1 x.2.2.2.1 K) := by
 intro ρ x K; kernel_rfl
theorem Q4.sem_ok (k : Nat) : Qw Try.prog 16 (Q4.sem k) :=
 Q0r (C := Q4.ctx k) (Q4.gok k) Try.mix (c := Func.code Try.f16) (ann := Q4.ann k) (T := Q4.T) (os := Q4.os) (fun x K => Q4.c k x.1 x.2.1 x.2.2.1 x.2.2.2.1 K) Try.func16 (by kernel_rfl) (by kernel_rfl) (Q1.seq Q1.nil (Q1.seq Q1.nil (Q1.seq (Q1.loop (by kernel_rfl) (Q4.p0.ok k)) (Q1.seq Q1.nil (Q1.seq (Q1.loop (by kernel_rfl) (Q4.p1.ok k)) (Q1.seq (Q1.loop (by kernel_rfl) (Q4.p2.ok k)) (Q1.seq (Q1.loop (by kernel_rfl) (Q4.p3.ok k)) Q1.nil))))))) (Q4.body k) (by kernel_rfl) (by kernel_rfl) (by kernel_rfl)
abbrev Q03.τ : Type := (Bool × Qey × QeC × QeG × QeG × (List Int) × Unit)
def Q03.c (k : Nat) {ρ : Type} (b0 : Qey) (b1 : QeC) (b2 : QeG) (b3 : QeG) (b4 : (List Int)) (K : Q03.τ → Option ρ) : Option ρ :=
 K (b0.2.2.2.2.2.2.1, (((), (b0.2.1, (b0.2.2.1, ((), ((), (b0.2.2.2.2.2.1, (b0.2.2.2.2.2.2.1, ()))))))), (((), ((), ((), (b1.2.2.2.1, ((), (b1.2.2.2.2.2.1, ())))))), (b2, (b3, (b4, ()))))))
def Q03 (k : Nat) (b0 : Qey) (b1 : QeC) (b2 : QeG) (b3 : QeG) (b4 : (List Int)) : Option Q03.τ := Q03.c k b0 b1 b2 b3 b4 some
def Q03.T : Q13 := ⟨[.ptr 0 []], [.pair (.ptr 1 []) (.pair (.dat .str) (.pair (.dat (.int .u64)) (.pair (.nils) (.pair (.vsl 4) (.dat QeE))))), .pair (.mp 2) (.pair (.mp 3) (.pair (.nils) (.pair (.dat (.int .i64)) (.pair (.nils) (.dat QeH))))), .mpd .str .str, .mpd .str .str, .vec (.int .i64)], 4⟩
def Q03.os : List Out := [⟨.ret, [.freeze (.slot 0), .auto 4], ⟨[.dat .bool], [.pair (.ptr 1 []) (.pair (.dat .str) (.pair (.dat (.int .u64)) (.pair (.nils) (.pair (.vsl 4) (.dat QeE))))), .pair (.mp 2) (.pair (.mp 3) (.pair (.nils) (.pair (.dat (.int .i64)) (.pair (.nils) (.dat QeH))))), .mpd .str .str, .mpd .str .str, .vec (.int .i64)]⟩⟩]
def Q03.sem (k : Nat) : QP := Q14 Q03.T Q03.os fun x => Q03 k x.1 x.2.1 x.2.2.1 x.2.2.2.1 x.2.2.2.2.1
noncomputable def Q03.ctx (k : Nat) : Ctx := ⟨Try.prog, gam []⟩
theorem Q03.gok (k : Nat) : ∀ f, Qw Try.prog f ((Q03.ctx k).Γ f) := Q0b
def Q03.ann (k : Nat) : Ann := .nil
theorem Q03.body (k : Nat) : Q16 (Q03.ctx k) Try.f21 (Func.code Try.f21) (Q03.ann k) Q03.T Q03.os (fun x K => Q03.c k x.1 x.2.1 x.2.2.1 x.2.2.2.1 x.2.2.2.2.1 K) := by
 intro ρ x K; kernel_rfl
theorem Q03.sem_ok (k : Nat) : Qw Try.prog 21 (Q03.sem k) :=
 Q0r (C := Q03.ctx k) (Q03.gok k) Try.mix (c := Func.code Try.f21) (ann := Q03.ann k) (T := Q03.T) (os := Q03.os) (fun x K => Q03.c k x.1 x.2.1 x.2.2.1 x.2.2.2.1 x.2.2.2.2.1 K) Try.func21 (by kernel_rfl) (by kernel_rfl) Q1.nil (Q03.body k) (by kernel_rfl) (by kernel_rfl) (by kernel_rfl)
abbrev QY.τ : Type := Qel 
def QY.c (k : Nat) {ρ : Type} (b0 : Qey) (b1 : QeC) (b2 : QeG) (b3 : QeG) (b4 : (List Int)) (K : QY.τ → Option ρ) : Option ρ :=
 (Q03 k ((), (b0.2.1, (b0.2.2.1, ((), ((), (b0.2.2.2.2.2.1, (b0.2.2.2.2.2.2.1, ()))))))) ((), ((), ((), (b1.2.2.2.1, ((), (b1.2.2.2.2.2.1, ())))))) b2 b3 b4).bind fun t0 => bif t0.1 then (K ((7 : Int), (((), (t0.2.1.2.1, (t0.2.1.2.2.1, ((), ((), (t0.2.1.2.2.2.2.2.1, (t0.2.1.2.2.2.2.2.2.1, ()))))))), (((), ((), ((), (t0.2.2.1.2.2.2.1, ((), (t0.2.2.1.2.2.2.2.2.1, ())))))), (t0.2.2.2.1, (t0.2.2.2.2.1, (t0.2.2.2.2.2.1, ()))))))) else (K ((0 : Int), (((), (t0.2.1.2.1, (t0.2.1.2.2.1, ((), ((), (t0.2.1.2.2.2.2.2.1, (t0.2.1.2.2.2.2.2.2.1, ()))))))), (((), ((), ((), (t0.2.2.1.2.2.2.1, ((), (t0.2.2.1.2.2.2.2.2.1, ())))))), (t0.2.2.2.1, (t0.2.2.2.2.1, (t0.2.2.2.2.2.1, ())))))))
def QY (k : Nat) (b0 : Qey) (b1 : QeC) (b2 : QeG) (b3 : QeG) (b4 : (List Int)) : Option QY.τ := QY.c k b0 b1 b2 b3 b4 some
def QY.T : Q13 := ⟨[.ptr 0 []], [.pair (.ptr 1 []) (.pair (.dat .str) (.pair (.dat (.int .u64)) (.pair (.nils) (.pair (.vsl 4) (.dat QeE))))), .pair (.mp 2) (.pair (.mp 3) (.pair (.nils) (.pair (.dat (.int .i64)) (.pair (.nils) (.dat QeH))))), .mpd .str .str, .mpd .str .str, .vec (.int .i64)], 4⟩
def QY.os : List Out := [⟨.ret, [.freeze (.slot 0), .auto 4], ⟨[.dat (.int .i64)], [.pair (.ptr 1 []) (.pair (.dat .str) (.pair (.dat (.int .u64)) (.pair (.nils) (.pair (.vsl 4) (.dat QeE))))), .pair (.mp 2) (.pair (.mp 3) (.pair (.nils) (.pair (.dat (.int .i64)) (.pair (.nils) (.dat QeH))))), .mpd .str .str, .mpd .str .str, .vec (.int .i64)]⟩⟩]
def QY.sem (k : Nat) : QP := Q14 QY.T QY.os fun x => QY k x.1 x.2.1 x.2.2.1 x.2.2.2.1 x.2.2.2.2.1
noncomputable def QY.ctx (k : Nat) : Ctx := ⟨Try.prog, gam [(21, (Q03.sem k))]⟩
theorem QY.gok (k : Nat) : ∀ f, Qw Try.prog f ((QY.ctx k).Γ f) := (Qe (Q03.sem_ok k) Q0b)
def QY.ann (k : Nat) : Ann := .nil
theorem QY.body (k : Nat) : Q16 (QY.ctx k) Try.f58 (Func.code Try.f58) (QY.ann k) QY.T QY.os (fun x K => QY.c k x.1 x.2.1 x.2.2.1 x.2.2.2.1 x.2.2.2.2.1 K) := by
 intro ρ x K; kernel_rfl
theorem QY.sem_ok (k : Nat) : Qw Try.prog 58 (QY.sem k) :=
 Q0r (C := QY.ctx k) (QY.gok k) Try.mix (c := Func.code Try.f58) (ann := QY.ann k) (T := QY.T) (os := QY.os) (fun x K => QY.c k x.1 x.2.1 x.2.2.1 x.2.2.2.1 x.2.2.2.2.1 K) Try.func58 (by kernel_rfl) (by kernel_rfl) Q1.nil (QY.body k) (by kernel_rfl) (by kernel_rfl) (by kernel_rfl)
abbrev Q0o.τ : Type := Qev ⊕ Qep 
def Q0o.c (k : Nat) {ρ : Type} (name : ByteArray) (s : ByteArray) (b0 : QeC) (b1 : QeG) (b2 : QeG) (K : Q0o.τ → Option ρ) : Option ρ :=
  (Q0E k (List.set (List.replicate 1 ByteArray.empty) 0 name) ((), ((), ((), (b0.2.2.2.1, ((), (b0.2.2.2.2.2.1, ())))))) b1 b2).bind fun t0 => bif (t0.1 != (0 : Int)) then (K (.inl (t0.1, (((), ((), ((), (t0.2.1.2.2.2.1, ((), (t0.2.1.2.2.2.2.2.1, ())))))), (t0.2.2.1, (t0.2.2.2.1, ())))))) else (let v1 : ByteArray := (Option.getD (mget Ty.str name t0.2.2.2.1) ByteArray.empty)
  (Q0g k name (((ByteArray.size v1) : Nat) : Int) s ((), ((), ((), (t0.2.1.2.2.2.1, ((), (t0.2.1.2.2.2.2.2.1, ())))))) t0.2.2.1 t0.2.2.2.1).bind fun t2 => (match t2 with
 | .inl t3 => (K (.inl (t3.1, (((), ((), ((), (t3.2.1.2.2.2.1, ((), (t3.2.1.2.2.2.2.2.1, ())))))), (t3.2.2.1, (t3.2.2.2.1, ()))))))
 | .inr (t4) => (K (.inr (t4.1, (((), ((), ((), (t4.2.1.2.2.2.1, ((), (t4.2.1.2.2.2.2.2.1, ())))))), (t4.2.2.1, (t4.2.2.2.1, (t4.2.2.2.2.1, ())))))))))
def Q0o (k : Nat) (name : ByteArray) (s : ByteArray) (b0 : QeC) (b1 : QeG) (b2 : QeG) : Option Q0o.τ := Q0o.c k name s b0 b1 b2 some
def Q0o.T : Q13 := ⟨[.ptr 0 [], .dat .str, .dat .str], [.pair (.mp 1) (.pair (.mp 2) (.pair (.nils) (.pair (.dat (.int .i64)) (.pair (.nils) (.dat QeH))))), .mpd .str .str, .mpd .str .str], 3⟩
def Q0o.os : List Out := [⟨.ret, [.freeze (.slot 0), .auto 3], ⟨[.dat (.int .i64)], [.pair (.mp 1) (.pair (.mp 2) (.pair (.nils) (.pair (.dat (.int .i64)) (.pair (.nils) (.dat QeH))))), .mpd .str .str, .mpd .str .str]⟩⟩, ⟨.ret, [.freeze (.slot 0), .auto 3], ⟨[.dat (.int .i64)], [.pair (.mp 1) (.pair (.mp 2) (.pair (.vsl 3) (.pair (.dat (.int .i64)) (.pair (.nils) (.dat QeH))))), .mpd .str .str, .mpd .str .str, .vec Qex]⟩⟩]
def Q0o.sem (k : Nat) : QP := Q14 Q0o.T Q0o.os fun x => Q0o k x.1 x.2.1 x.2.2.1 x.2.2.2.1 x.2.2.2.2.1
noncomputable def Q0o.ctx (k : Nat) : Ctx := ⟨Try.prog, gam [(79, (Q0E.sem k)), (72, (Q0g.sem k))]⟩
theorem Q0o.gok (k : Nat) : ∀ f, Qw Try.prog f ((Q0o.ctx k).Γ f) := (Qe (Q0E.sem_ok k) (Qe (Q0g.sem_ok k) Q0b))
def Q0o.ann (k : Nat) : Ann := .nil
theorem Q0o.body (k : Nat) : Q16 (Q0o.ctx k) Try.f60 (Func.code Try.f60) (Q0o.ann k) Q0o.T Q0o.os (fun x K => Q0o.c k x.1 x.2.1 x.2.2.1 x.2.2.2.1 x.2.2.2.2.1 K) := by
 intro ρ x K; kernel_rfl
theorem Q0o.sem_ok (k : Nat) : Qw Try.prog 60 (Q0o.sem k) :=
 Q0r (C := Q0o.ctx k) (Q0o.gok k) Try.mix (c := Func.code Try.f60) (ann := Q0o.ann k) (T := Q0o.T) (os := Q0o.os) (fun x K => Q0o.c k x.1 x.2.1 x.2.2.1 x.2.2.2.1 x.2.2.2.2.1 K) Try.func60 (by kernel_rfl) (by kernel_rfl) Q1.nil (Q0o.body k) (by kernel_rfl) (by kernel_rfl) (by kernel_rfl)
abbrev QD.τ : Type := Qel 
def QD.c (k : Nat) {ρ : Type} (e : Int) (b0 : Qey) (b1 : QeC) (b2 : QeG) (b3 : QeG) (b4 : (List Int)) (K : QD.τ → Option ρ) : Option ρ :=
 bif (e == (7 : Int)) then (K (e, (((), (b0.2.1, (b0.2.2.1, ((), ((), (b0.2.2.2.2.2.1, (true, ()))))))), (((), ((), ((), (b1.2.2.2.1, ((), (b1.2.2.2.2.2.1, ())))))), (b2, (b3, (b4, ()))))))) else (K (e, (((), (b0.2.1, (b0.2.2.1, ((), ((), (b0.2.2.2.2.2.1, (b0.2.2.2.2.2.2.1, ()))))))), (((), ((), ((), (b1.2.2.2.1, ((), (b1.2.2.2.2.2.1, ())))))), (b2, (b3, (b4, ())))))))
def QD (k : Nat) (e : Int) (b0 : Qey) (b1 : QeC) (b2 : QeG) (b3 : QeG) (b4 : (List Int)) : Option QD.τ := QD.c k e b0 b1 b2 b3 b4 some
def QD.T : Q13 := ⟨[.ptr 0 [], .dat (.int .i64)], [.pair (.ptr 1 []) (.pair (.dat .str) (.pair (.dat (.int .u64)) (.pair (.nils) (.pair (.vsl 4) (.dat QeE))))), .pair (.mp 2) (.pair (.mp 3) (.pair (.nils) (.pair (.dat (.int .i64)) (.pair (.nils) (.dat QeH))))), .mpd .str .str, .mpd .str .str, .vec (.int .i64)], 4⟩
def QD.os : List Out := [⟨.ret, [.freeze (.slot 0), .auto 4], ⟨[.dat (.int .i64)], [.pair (.ptr 1 []) (.pair (.dat .str) (.pair (.dat (.int .u64)) (.pair (.nils) (.pair (.vsl 4) (.dat QeE))))), .pair (.mp 2) (.pair (.mp 3) (.pair (.nils) (.pair (.dat (.int .i64)) (.pair (.nils) (.dat QeH))))), .mpd .str .str, .mpd .str .str, .vec (.int .i64)]⟩⟩]
def QD.sem (k : Nat) : QP := Q14 QD.T QD.os fun x => QD k x.1 x.2.1 x.2.2.1 x.2.2.2.1 x.2.2.2.2.1 x.2.2.2.2.2.1
noncomputable def QD.ctx (k : Nat) : Ctx := ⟨Try.prog, gam []⟩
theorem QD.gok (k : Nat) : ∀ f, Qw Try.prog f ((QD.ctx k).Γ f) := Q0b
def QD.ann (k : Nat) : Ann := .nil
theorem QD.body (k : Nat) : Q16 (QD.ctx k) Try.f59 (Func.code Try.f59) (QD.ann k) QD.T QD.os (fun x K => QD.c k x.1 x.2.1 x.2.2.1 x.2.2.2.1 x.2.2.2.2.1 x.2.2.2.2.2.1 K) := by
 intro ρ x K; kernel_rfl
theorem QD.sem_ok (k : Nat) : Qw Try.prog 59 (QD.sem k) :=
 Q0r (C := QD.ctx k) (QD.gok k) Try.mix (c := Func.code Try.f59) (ann := QD.ann k) (T := QD.T) (os := QD.os) (fun x K => QD.c k x.1 x.2.1 x.2.2.1 x.2.2.2.1 x.2.2.2.2.1 x.2.2.2.2.2.1 K) Try.func59 (by kernel_rfl) (by kernel_rfl) Q1.nil (QD.body k) (by kernel_rfl) (by kernel_rfl) (by kernel_rfl)
abbrev Qv.τ : Type := Qel 
def Qv.c (k : Nat) {ρ : Type} (b0 : Qey) (b1 : QeC) (b2 : QeG) (b3 : QeG) (b4 : (List Int)) (K : Qv.τ → Option ρ) : Option ρ :=
 let v0 : Int := (((List.length b4) : Nat) : Int)
 bif (v0 == (0 : Int)) then (K ((20 : Int), (((), (b0.2.1, (b0.2.2.1, ((), ((), (b0.2.2.2.2.2.1, (b0.2.2.2.2.2.2.1, ()))))))), (((), ((), ((), (b1.2.2.2.1, ((), (b1.2.2.2.2.2.1, ())))))), (b2, (b3, (b4, ()))))))) else (let v1 : Int := (((List.length b4) : Nat) : Int)
 let v2 : Int := (IntKind.wrap IntKind.i64 (v1 - (1 : Int)))
 bif (decide (((0 : Int) ≤ v2) ∧ (v2 < (((List.length b4) : Nat) : Int)))) then (let v3 : Int := (List.getD b4 (Int.toNat v2) (0 : Int))
 K (v3, (((), (b0.2.1, (b0.2.2.1, ((), ((), (b0.2.2.2.2.2.1, (b0.2.2.2.2.2.2.1, ()))))))), (((), ((), ((), (b1.2.2.2.1, ((), (b1.2.2.2.2.2.1, ())))))), (b2, (b3, (b4, ()))))))) else (none))
def Qv (k : Nat) (b0 : Qey) (b1 : QeC) (b2 : QeG) (b3 : QeG) (b4 : (List Int)) : Option Qv.τ := Qv.c k b0 b1 b2 b3 b4 some
def Qv.T : Q13 := ⟨[.ptr 0 []], [.pair (.ptr 1 []) (.pair (.dat .str) (.pair (.dat (.int .u64)) (.pair (.nils) (.pair (.vsl 4) (.dat QeE))))), .pair (.mp 2) (.pair (.mp 3) (.pair (.nils) (.pair (.dat (.int .i64)) (.pair (.nils) (.dat QeH))))), .mpd .str .str, .mpd .str .str, .vec (.int .i64)], 5⟩
def Qv.os : List Out := [⟨.ret, [.freeze (.slot 0), .auto 5], ⟨[.dat (.int .i64)], [.pair (.ptr 1 []) (.pair (.dat .str) (.pair (.dat (.int .u64)) (.pair (.nils) (.pair (.vsl 4) (.dat QeE))))), .pair (.mp 2) (.pair (.mp 3) (.pair (.nils) (.pair (.dat (.int .i64)) (.pair (.nils) (.dat QeH))))), .mpd .str .str, .mpd .str .str, .vec (.int .i64)]⟩⟩]
def Qv.sem (k : Nat) : QP := Q14 Qv.T Qv.os fun x => Qv k x.1 x.2.1 x.2.2.1 x.2.2.2.1 x.2.2.2.2.1
noncomputable def Qv.ctx (k : Nat) : Ctx := ⟨Try.prog, gam []⟩
theorem Qv.gok (k : Nat) : ∀ f, Qw Try.prog f ((Qv.ctx k).Γ f) := Q0b
def Qv.ann (k : Nat) : Ann := .nil
theorem Qv.body (k : Nat) : Q16 (Qv.ctx k) Try.f28 (Func.code Try.f28) (Qv.ann k) Qv.T Qv.os (fun x K => Qv.c k x.1 x.2.1 x.2.2.1 x.2.2.2.1 x.2.2.2.2.1 K) := by
 intro ρ x K; kernel_rfl
theorem Qv.sem_ok (k : Nat) : Qw Try.prog 28 (Qv.sem k) :=
 Q0r (C := Qv.ctx k) (Qv.gok k) Try.mix (c := Func.code Try.f28) (ann := Qv.ann k) (T := Qv.T) (os := Qv.os) (fun x K => Qv.c k x.1 x.2.1 x.2.2.1 x.2.2.2.1 x.2.2.2.2.1 K) Try.func28 (by kernel_rfl) (by kernel_rfl) Q1.nil (Qv.body k) (by kernel_rfl) (by kernel_rfl) (by kernel_rfl)
def Qv.rsem (k : Nat) : QP := Qbk Qv.T Qv.os fun x => Qv k x.1 x.2.1 x.2.2.1 x.2.2.2.1 x.2.2.2.2.1
theorem Qv.rsem_ok (k : Nat) : Qw Try.prog 28 (Qv.rsem k) :=
 Qdj (Qv.sem_ok k) (by kernel_rfl) (by
  intro x y h
  try dsimp only at h
  simp only [Qv, Qv.c, Bool.cond_eq_ite] at h
  repeat' split at h
  all_goals first | (cases h; done) | (cases h; rfl))
abbrev Qr.τ : Type := Qej 
def Qr.c (k : Nat) {ρ : Type} (e : Int) (b0 : Qey) (b1 : QeC) (b2 : QeG) (b3 : QeG) (b4 : Qez) (b5 : (List Int)) (K : Qr.τ → Option ρ) : Option ρ :=
 bif (e == (7 : Int)) then (K (e, (((), (b0.2.1, (b0.2.2.1, ((), ((), (b0.2.2.2.2.2.1, (true, ()))))))), (((), ((), ((), (b1.2.2.2.1, ((), (b1.2.2.2.2.2.1, ())))))), (b2, (b3, (b5, (b4, ())))))))) else (K (e, (((), (b0.2.1, (b0.2.2.1, ((), ((), (b0.2.2.2.2.2.1, (b0.2.2.2.2.2.2.1, ()))))))), (((), ((), ((), (b1.2.2.2.1, ((), (b1.2.2.2.2.2.1, ())))))), (b2, (b3, (b5, (b4, ()))))))))
def Qr (k : Nat) (e : Int) (b0 : Qey) (b1 : QeC) (b2 : QeG) (b3 : QeG) (b4 : Qez) (b5 : (List Int)) : Option Qr.τ := Qr.c k e b0 b1 b2 b3 b4 b5 some
def Qr.T : Q13 := ⟨[.ptr 0 [], .dat (.int .i64)], [.pair (.ptr 1 []) (.pair (.dat .str) (.pair (.dat (.int .u64)) (.pair (.nils) (.pair (.vsl 5) (.dat QeE))))), .pair (.mp 2) (.pair (.mp 3) (.pair (.vsl 4) (.pair (.dat (.int .i64)) (.pair (.nils) (.dat QeH))))), .mpd .str .str, .mpd .str .str, .vec Qex, .vec (.int .i64)], 4⟩
def Qr.os : List Out := [⟨.ret, [.freeze (.slot 0), .auto 4], ⟨[.dat (.int .i64)], .pair (.ptr 1 []) (.pair (.dat .str) (.pair (.dat (.int .u64)) (.pair (.nils) (.pair (.vsl 4) (.dat QeE))))) :: .pair (.mp 2) (.pair (.mp 3) (.pair (.vsl 5) (.pair (.dat (.int .i64)) (.pair (.nils) (.dat QeH))))) :: .mpd .str .str :: .mpd .str .str :: .vec (.int .i64) :: .vec Qex :: []⟩⟩]
def Qr.sem (k : Nat) : QP := Q14 Qr.T Qr.os fun x => Qr k x.1 x.2.1 x.2.2.1 x.2.2.2.1 x.2.2.2.2.1 x.2.2.2.2.2.1 x.2.2.2.2.2.2.1
noncomputable def Qr.ctx (k : Nat) : Ctx := ⟨Try.prog, gam []⟩
theorem Qr.gok (k : Nat) : ∀ f, Qw Try.prog f ((Qr.ctx k).Γ f) := Q0b
def Qr.ann (k : Nat) : Ann := .nil
theorem Qr.body (k : Nat) : Q16 (Qr.ctx k) Try.f59 (Func.code Try.f59) (Qr.ann k) Qr.T Qr.os (fun x K => Qr.c k x.1 x.2.1 x.2.2.1 x.2.2.2.1 x.2.2.2.2.1 x.2.2.2.2.2.1 x.2.2.2.2.2.2.1 K) := by
 intro ρ x K; kernel_rfl
theorem Qr.sem_ok (k : Nat) : Qw Try.prog 59 (Qr.sem k) :=
 Q0r (C := Qr.ctx k) (Qr.gok k) Try.mix (c := Func.code Try.f59) (ann := Qr.ann k) (T := Qr.T) (os := Qr.os) (fun x K => Qr.c k x.1 x.2.1 x.2.2.1 x.2.2.2.1 x.2.2.2.2.1 x.2.2.2.2.2.1 x.2.2.2.2.2.2.1 K) Try.func59 (by kernel_rfl) (by kernel_rfl) Q1.nil (Qr.body k) (by kernel_rfl) (by kernel_rfl) (by kernel_rfl)
abbrev Qk.τ : Type := (Int × Qey × QeC × QeG × QeG × Qez × (List Int) × Unit)
def Qk.c (k : Nat) {ρ : Type} (b0 : Qey) (b1 : QeC) (b2 : QeG) (b3 : QeG) (b4 : Qez) (b5 : (List Int)) (K : Qk.τ → Option ρ) : Option ρ :=
 let v0 : Int := (((List.length b5) : Nat) : Int)
 bif (v0 == (0 : Int)) then (K ((20 : Int), (((), (b0.2.1, (b0.2.2.1, ((), ((), (b0.2.2.2.2.2.1, (b0.2.2.2.2.2.2.1, ()))))))), (((), ((), ((), (b1.2.2.2.1, ((), (b1.2.2.2.2.2.1, ())))))), (b2, (b3, (b4, (b5, ())))))))) else (let v1 : Int := (((List.length b5) : Nat) : Int)
 let v2 : Int := (IntKind.wrap IntKind.i64 (v1 - (1 : Int)))
 bif (decide (((0 : Int) ≤ v2) ∧ (v2 < (((List.length b5) : Nat) : Int)))) then (let v3 : Int := (List.getD b5 (Int.toNat v2) (0 : Int))
 K (v3, (((), (b0.2.1, (b0.2.2.1, ((), ((), (b0.2.2.2.2.2.1, (b0.2.2.2.2.2.2.1, ()))))))), (((), ((), ((), (b1.2.2.2.1, ((), (b1.2.2.2.2.2.1, ())))))), (b2, (b3, (b4, (b5, ())))))))) else (none))
def Qk (k : Nat) (b0 : Qey) (b1 : QeC) (b2 : QeG) (b3 : QeG) (b4 : Qez) (b5 : (List Int)) : Option Qk.τ := Qk.c k b0 b1 b2 b3 b4 b5 some
def Qk.T : Q13 := ⟨[.ptr 0 []], [.pair (.ptr 1 []) (.pair (.dat .str) (.pair (.dat (.int .u64)) (.pair (.nils) (.pair (.vsl 5) (.dat QeE))))), .pair (.mp 2) (.pair (.mp 3) (.pair (.vsl 4) (.pair (.dat (.int .i64)) (.pair (.nils) (.dat QeH))))), .mpd .str .str, .mpd .str .str, .vec Qex, .vec (.int .i64)], 6⟩
def Qk.os : List Out := [⟨.ret, [.freeze (.slot 0), .auto 6], ⟨[.dat (.int .i64)], .pair (.ptr 1 []) (.pair (.dat .str) (.pair (.dat (.int .u64)) (.pair (.nils) (.pair (.vsl 5) (.dat QeE))))) :: .pair (.mp 2) (.pair (.mp 3) (.pair (.vsl 4) (.pair (.dat (.int .i64)) (.pair (.nils) (.dat QeH))))) :: .mpd .str .str :: .mpd .str .str :: .vec Qex :: .vec (.int .i64) :: []⟩⟩]
def Qk.sem (k : Nat) : QP := Q14 Qk.T Qk.os fun x => Qk k x.1 x.2.1 x.2.2.1 x.2.2.2.1 x.2.2.2.2.1 x.2.2.2.2.2.1
noncomputable def Qk.ctx (k : Nat) : Ctx := ⟨Try.prog, gam []⟩
theorem Qk.gok (k : Nat) : ∀ f, Qw Try.prog f ((Qk.ctx k).Γ f) := Q0b
def Qk.ann (k : Nat) : Ann := .nil
theorem Qk.body (k : Nat) : Q16 (Qk.ctx k) Try.f28 (Func.code Try.f28) (Qk.ann k) Qk.T Qk.os (fun x K => Qk.c k x.1 x.2.1 x.2.2.1 x.2.2.2.1 x.2.2.2.2.1 x.2.2.2.2.2.1 K) := by
 intro ρ x K; kernel_rfl
theorem Qk.sem_ok (k : Nat) : Qw Try.prog 28 (Qk.sem k) :=
 Q0r (C := Qk.ctx k) (Qk.gok k) Try.mix (c := Func.code Try.f28) (ann := Qk.ann k) (T := Qk.T) (os := Qk.os) (fun x K => Qk.c k x.1 x.2.1 x.2.2.1 x.2.2.2.1 x.2.2.2.2.1 x.2.2.2.2.2.1 K) Try.func28 (by kernel_rfl) (by kernel_rfl) Q1.nil (Qk.body k) (by kernel_rfl) (by kernel_rfl) (by kernel_rfl)
def Qk.rsem (k : Nat) : QP := Qbk Qk.T Qk.os fun x => Qk k x.1 x.2.1 x.2.2.1 x.2.2.2.1 x.2.2.2.2.1 x.2.2.2.2.2.1
theorem Qk.rsem_ok (k : Nat) : Qw Try.prog 28 (Qk.rsem k) :=
 Qdj (Qk.sem_ok k) (by kernel_rfl) (by
  intro x y h
  try dsimp only at h
  simp only [Qk, Qk.c, Bool.cond_eq_ite] at h
  repeat' split at h
  all_goals first | (cases h; done) | (cases h; rfl))
abbrev Q09.τ : Type := Qel ⊕ Qek ⊕ Qej ⊕ Qei 
def Q09.c (k : Nat) {ρ : Type} (s : ByteArray) (b0 : Qey) (b1 : QeC) (b2 : QeG) (b3 : QeG) (b4 : (List Int)) (K : Q09.τ → Option ρ) : Option ρ :=
  (QY k ((), (b0.2.1, (b0.2.2.1, ((), ((), (b0.2.2.2.2.2.1, (b0.2.2.2.2.2.2.1, ()))))))) ((), ((), ((), (b1.2.2.2.1, ((), (b1.2.2.2.2.2.1, ())))))) b2 b3 b4).bind fun t0 => bif (t0.1 != (0 : Int)) then (K (.inl (t0.1, (((), (t0.2.1.2.1, (t0.2.1.2.2.1, ((), ((), (t0.2.1.2.2.2.2.2.1, (t0.2.1.2.2.2.2.2.2.1, ()))))))), (((), ((), ((), (t0.2.2.1.2.2.2.1, ((), (t0.2.2.1.2.2.2.2.2.1, ())))))), (t0.2.2.2.1, (t0.2.2.2.2.1, (t0.2.2.2.2.2.1, ())))))))) else (let v1 : Int := t0.2.1.2.2.1
  (Q05 k v1 (IntKind.wrap IntKind.u64 (0 : Int)) s).bind fun t2 => let v3 : ByteArray := t2.1
  let v4 : Int := t2.2.1
  bif (v4 != (0 : Int)) then (K (.inl (v4, (((), (t0.2.1.2.1, (t0.2.1.2.2.1, ((), ((), (t0.2.1.2.2.2.2.2.1, (t0.2.1.2.2.2.2.2.2.1, ()))))))), (((), ((), ((), (t0.2.2.1.2.2.2.1, ((), (t0.2.2.1.2.2.2.2.2.1, ())))))), (t0.2.2.2.1, (t0.2.2.2.2.1, (t0.2.2.2.2.2.1, ())))))))) else (let v5 : ByteArray := t0.2.1.2.1
  (Q0o k v5 v3 ((), ((), ((), (t0.2.2.1.2.2.2.1, ((), (t0.2.2.1.2.2.2.2.2.1, ())))))) t0.2.2.2.1 t0.2.2.2.2.1).bind fun t6 => (match t6 with
 | .inl t7 => ((QD k t7.1 ((), (t0.2.1.2.1, (t0.2.1.2.2.1, ((), ((), (t0.2.1.2.2.2.2.2.1, (t0.2.1.2.2.2.2.2.2.1, ()))))))) ((), ((), ((), (t7.2.1.2.2.2.1, ((), (t7.2.1.2.2.2.2.2.1, ())))))) t7.2.2.1 t7.2.2.2.1 t0.2.2.2.2.2.1).bind fun t8 => bif (t8.1 != (0 : Int)) then (K (.inl (t8.1, (((), (t8.2.1.2.1, (t8.2.1.2.2.1, ((), ((), (t8.2.1.2.2.2.2.2.1, (t8.2.1.2.2.2.2.2.2.1, ()))))))), (((), ((), ((), (t8.2.2.1.2.2.2.1, ((), (t8.2.2.1.2.2.2.2.2.1, ())))))), (t8.2.2.2.1, (t8.2.2.2.2.1, (t8.2.2.2.2.2.1, ())))))))) else (bif (Nat.ble ((List.length (List.set (List.replicate 1 ByteArray.empty) 0 s)) * 16) 140737488355328) then ((Qv k ((), (t8.2.1.2.1, (t8.2.1.2.2.1, ((), ((), (t8.2.1.2.2.2.2.2.1, (t8.2.1.2.2.2.2.2.2.1, ()))))))) ((), ((), ((), (t8.2.2.1.2.2.2.1, ((), (t8.2.2.1.2.2.2.2.2.1, ())))))) t8.2.2.2.1 t8.2.2.2.2.1 t8.2.2.2.2.2.1).bind fun t9 => let v10 : Int := (IntKind.wrap IntKind.i64 (t9.1 + (((ByteArray.size v3) : Nat) : Int)))
  bif (Nat.ble (((List.length t8.2.2.2.2.2.1) + (List.length (List.set (List.replicate 1 (0 : Int)) 0 v10))) * 8) 140737488355328) then (K (.inr (.inl ((0 : Int), (((), (t8.2.1.2.1, (t8.2.1.2.2.1, ((), ((), (t8.2.1.2.2.2.2.2.1, (t8.2.1.2.2.2.2.2.2.1, ()))))))), (((), ((), ((), (t8.2.2.1.2.2.2.1, ((), (t8.2.2.1.2.2.2.2.2.1, ())))))), (t8.2.2.2.1, (t8.2.2.2.2.1, ((List.set (List.replicate 1 ByteArray.empty) 0 s), ((t8.2.2.2.2.2.1 ++ (List.set (List.replicate 1 (0 : Int)) 0 v10)), ())))))))))) else (none)) else (none)))
 | .inr (t11) => ((Qr k t11.1 ((), (t0.2.1.2.1, (t0.2.1.2.2.1, ((), ((), (t0.2.1.2.2.2.2.2.1, (t0.2.1.2.2.2.2.2.2.1, ()))))))) ((), ((), ((), (t11.2.1.2.2.2.1, ((), (t11.2.1.2.2.2.2.2.1, ())))))) t11.2.2.1 t11.2.2.2.1 t11.2.2.2.2.1 t0.2.2.2.2.2.1).bind fun t12 => bif (t12.1 != (0 : Int)) then (K (.inr (.inr (.inl (t12.1, (((), (t12.2.1.2.1, (t12.2.1.2.2.1, ((), ((), (t12.2.1.2.2.2.2.2.1, (t12.2.1.2.2.2.2.2.2.1, ()))))))), (((), ((), ((), (t12.2.2.1.2.2.2.1, ((), (t12.2.2.1.2.2.2.2.2.1, ())))))), (t12.2.2.2.1, (t12.2.2.2.2.1, (t12.2.2.2.2.2.1, (t12.2.2.2.2.2.2.1, ()))))))))))) else (bif (Nat.ble ((List.length (List.set (List.replicate 1 ByteArray.empty) 0 s)) * 16) 140737488355328) then ((Qk k ((), (t12.2.1.2.1, (t12.2.1.2.2.1, ((), ((), (t12.2.1.2.2.2.2.2.1, (t12.2.1.2.2.2.2.2.2.1, ()))))))) ((), ((), ((), (t12.2.2.1.2.2.2.1, ((), (t12.2.2.1.2.2.2.2.2.1, ())))))) t12.2.2.2.1 t12.2.2.2.2.1 t12.2.2.2.2.2.2.1 t12.2.2.2.2.2.1).bind fun t13 => let v14 : Int := (IntKind.wrap IntKind.i64 (t13.1 + (((ByteArray.size v3) : Nat) : Int)))
  bif (Nat.ble (((List.length t12.2.2.2.2.2.1) + (List.length (List.set (List.replicate 1 (0 : Int)) 0 v14))) * 8) 140737488355328) then (K (.inr (.inr (.inr ((0 : Int), (((), (t12.2.1.2.1, (t12.2.1.2.2.1, ((), ((), (t12.2.1.2.2.2.2.2.1, (t12.2.1.2.2.2.2.2.2.1, ()))))))), (((), ((), ((), (t12.2.2.1.2.2.2.1, ((), (t12.2.2.1.2.2.2.2.2.1, ())))))), (t12.2.2.2.1, (t12.2.2.2.2.1, ((List.set (List.replicate 1 ByteArray.empty) 0 s), ((t12.2.2.2.2.2.1 ++ (List.set (List.replicate 1 (0 : Int)) 0 v14)), (t12.2.2.2.2.2.2.1, ())))))))))))) else (none)) else (none))))))
def Q09 (k : Nat) (s : ByteArray) (b0 : Qey) (b1 : QeC) (b2 : QeG) (b3 : QeG) (b4 : (List Int)) : Option Q09.τ := Q09.c k s b0 b1 b2 b3 b4 some
def Q09.T : Q13 := ⟨[.ptr 0 [], .dat .str], [.pair (.ptr 1 []) (.pair (.dat .str) (.pair (.dat (.int .u64)) (.pair (.nils) (.pair (.vsl 4) (.dat QeE))))), .pair (.mp 2) (.pair (.mp 3) (.pair (.nils) (.pair (.dat (.int .i64)) (.pair (.nils) (.dat QeH))))), .mpd .str .str, .mpd .str .str, .vec (.int .i64)], 4⟩
def Q09.os : List Out := [⟨.ret, [.freeze (.slot 0), .auto 4], ⟨[.dat (.int .i64)], [.pair (.ptr 1 []) (.pair (.dat .str) (.pair (.dat (.int .u64)) (.pair (.nils) (.pair (.vsl 4) (.dat QeE))))), .pair (.mp 2) (.pair (.mp 3) (.pair (.nils) (.pair (.dat (.int .i64)) (.pair (.nils) (.dat QeH))))), .mpd .str .str, .mpd .str .str, .vec (.int .i64)]⟩⟩, ⟨.ret, [.freeze (.slot 0), .auto 4], ⟨[.dat (.int .i64)], .pair (.ptr 1 []) (.pair (.dat .str) (.pair (.dat (.int .u64)) (.pair (.vsl 4) (.pair (.vsl 5) (.dat QeE))))) :: .pair (.mp 2) (.pair (.mp 3) (.pair (.nils) (.pair (.dat (.int .i64)) (.pair (.nils) (.dat QeH))))) :: .mpd .str .str :: .mpd .str .str :: .vec .str :: .vec (.int .i64) :: []⟩⟩, ⟨.ret, [.freeze (.slot 0), .auto 4], ⟨[.dat (.int .i64)], .pair (.ptr 1 []) (.pair (.dat .str) (.pair (.dat (.int .u64)) (.pair (.nils) (.pair (.vsl 4) (.dat QeE))))) :: .pair (.mp 2) (.pair (.mp 3) (.pair (.vsl 5) (.pair (.dat (.int .i64)) (.pair (.nils) (.dat QeH))))) :: .mpd .str .str :: .mpd .str .str :: .vec (.int .i64) :: .vec Qex :: []⟩⟩, ⟨.ret, [.freeze (.slot 0), .auto 4], ⟨[.dat (.int .i64)], .pair (.ptr 1 []) (.pair (.dat .str) (.pair (.dat (.int .u64)) (.pair (.vsl 4) (.pair (.vsl 5) (.dat QeE))))) :: .pair (.mp 2) (.pair (.mp 3) (.pair (.vsl 6) (.pair (.dat (.int .i64)) (.pair (.nils) (.dat QeH))))) :: .mpd .str .str :: .mpd .str .str :: .vec .str :: .vec (.int .i64) :: .vec Qex :: []⟩⟩]
def Q09.sem (k : Nat) : QP := Q14 Q09.T Q09.os fun x => Q09 k x.1 x.2.1 x.2.2.1 x.2.2.2.1 x.2.2.2.2.1 x.2.2.2.2.2.1
noncomputable def Q09.ctx (k : Nat) : Ctx := ⟨Try.prog, gam [(58, (QY.sem k)), (7, (Q05.sem k)), (60, (Q0o.sem k)), (59, (Q27 (Q2d QD.T) (QD.sem k) (Qr.sem k))), (28, (Q27 (Q2d Qv.T) (Qv.rsem k) (Qk.rsem k)))]⟩
theorem Q09.gok (k : Nat) : ∀ f, Qw Try.prog f ((Q09.ctx k).Γ f) := (Qe (QY.sem_ok k) (Qe (Q05.sem_ok k) (Qe (Q0o.sem_ok k) (Qe (Q1p (QD.sem_ok k) (Qr.sem_ok k)) (Qe (Q1p (Qv.rsem_ok k) (Qk.rsem_ok k)) Q0b)))))
def Q09.ann (k : Nat) : Ann := .nil
theorem Q09.body (k : Nat) : Q16 (Q09.ctx k) Try.f18 (Func.code Try.f18) (Q09.ann k) Q09.T Q09.os (fun x K => Q09.c k x.1 x.2.1 x.2.2.1 x.2.2.2.1 x.2.2.2.2.1 x.2.2.2.2.2.1 K) := by
 intro ρ x K; kernel_rfl
theorem Q09.sem_ok (k : Nat) : Qw Try.prog 18 (Q09.sem k) :=
 Q0r (C := Q09.ctx k) (Q09.gok k) Try.mix (c := Func.code Try.f18) (ann := Q09.ann k) (T := Q09.T) (os := Q09.os) (fun x K => Q09.c k x.1 x.2.1 x.2.2.1 x.2.2.2.1 x.2.2.2.2.1 x.2.2.2.2.2.1 K) Try.func18 (by kernel_rfl) (by kernel_rfl) Q1.nil (Q09.body k) (by kernel_rfl) (by kernel_rfl) (by kernel_rfl)
abbrev QU.τ : Type := Qel 
def QU.c (k : Nat) {ρ : Type} (b0 : Qey) (b1 : QeC) (b2 : QeG) (b3 : QeG) (b4 : (List Int)) (K : QU.τ → Option ρ) : Option ρ :=
 K ((0 : Int), (((), (b0.2.1, (b0.2.2.1, ((), ((), (b0.2.2.2.2.2.1, (b0.2.2.2.2.2.2.1, ()))))))), (((), ((), ((), (b1.2.2.2.1, ((), (b1.2.2.2.2.2.1, ())))))), (b2, (b3, (b4, ()))))))
def QU (k : Nat) (b0 : Qey) (b1 : QeC) (b2 : QeG) (b3 : QeG) (b4 : (List Int)) : Option QU.τ := QU.c k b0 b1 b2 b3 b4 some
def QU.T : Q13 := ⟨[.ptr 0 []], [.pair (.ptr 1 []) (.pair (.dat .str) (.pair (.dat (.int .u64)) (.pair (.nils) (.pair (.vsl 4) (.dat QeE))))), .pair (.mp 2) (.pair (.mp 3) (.pair (.nils) (.pair (.dat (.int .i64)) (.pair (.nils) (.dat QeH))))), .mpd .str .str, .mpd .str .str, .vec (.int .i64)], 4⟩
def QU.os : List Out := [⟨.ret, [.freeze (.slot 0), .auto 4], ⟨[.dat (.int .i64)], [.pair (.ptr 1 []) (.pair (.dat .str) (.pair (.dat (.int .u64)) (.pair (.nils) (.pair (.vsl 4) (.dat QeE))))), .pair (.mp 2) (.pair (.mp 3) (.pair (.nils) (.pair (.dat (.int .i64)) (.pair (.nils) (.dat QeH))))), .mpd .str .str, .mpd .str .str, .vec (.int .i64)]⟩⟩]
def QU.sem (k : Nat) : QP := Q14 QU.T QU.os fun x => QU k x.1 x.2.1 x.2.2.1 x.2.2.2.1 x.2.2.2.2.1
noncomputable def QU.ctx (k : Nat) : Ctx := ⟨Try.prog, gam []⟩
theorem QU.gok (k : Nat) : ∀ f, Qw Try.prog f ((QU.ctx k).Γ f) := Q0b
def QU.ann (k : Nat) : Ann := .nil
theorem QU.body (k : Nat) : Q16 (QU.ctx k) Try.f25 (Func.code Try.f25) (QU.ann k) QU.T QU.os (fun x K => QU.c k x.1 x.2.1 x.2.2.1 x.2.2.2.1 x.2.2.2.2.1 K) := by
 intro ρ x K; kernel_rfl
theorem QU.sem_ok (k : Nat) : Qw Try.prog 25 (QU.sem k) :=
 Q0r (C := QU.ctx k) (QU.gok k) Try.mix (c := Func.code Try.f25) (ann := QU.ann k) (T := QU.T) (os := QU.os) (fun x K => QU.c k x.1 x.2.1 x.2.2.1 x.2.2.2.1 x.2.2.2.2.1 K) Try.func25 (by kernel_rfl) (by kernel_rfl) Q1.nil (QU.body k) (by kernel_rfl) (by kernel_rfl) (by kernel_rfl)
abbrev Q08.τ : Type := (ByteArray × Bool × Qey × QeC × QeG × QeG × (List Int) × Unit)
def Q08.c (k : Nat) {ρ : Type} (n : Int) (b0 : Qey) (b1 : QeC) (b2 : QeG) (b3 : QeG) (b4 : (List Int)) (K : Q08.τ → Option ρ) : Option ρ :=
 bif (decide (n < (0 : Int))) then (K ((⟨(List.toArray [])⟩ : ByteArray), (false, (((), (b0.2.1, (b0.2.2.1, ((), ((), (b0.2.2.2.2.2.1, (b0.2.2.2.2.2.2.1, ()))))))), (((), ((), ((), (b1.2.2.2.1, ((), (b1.2.2.2.2.2.1, ())))))), (b2, (b3, (b4, ())))))))) else ((QU k ((), (b0.2.1, (b0.2.2.1, ((), ((), (b0.2.2.2.2.2.1, (b0.2.2.2.2.2.2.1, ()))))))) ((), ((), ((), (b1.2.2.2.1, ((), (b1.2.2.2.2.2.1, ())))))) b2 b3 b4).bind fun t0 => bif (decide (n ≥ t0.1)) then (K ((⟨(List.toArray [])⟩ : ByteArray), (false, (((), (t0.2.1.2.1, (t0.2.1.2.2.1, ((), ((), (t0.2.1.2.2.2.2.2.1, (t0.2.1.2.2.2.2.2.2.1, ()))))))), (((), ((), ((), (t0.2.2.1.2.2.2.1, ((), (t0.2.2.1.2.2.2.2.2.1, ())))))), (t0.2.2.2.1, (t0.2.2.2.2.1, (t0.2.2.2.2.2.1, ())))))))) else (none))
def Q08 (k : Nat) (n : Int) (b0 : Qey) (b1 : QeC) (b2 : QeG) (b3 : QeG) (b4 : (List Int)) : Option Q08.τ := Q08.c k n b0 b1 b2 b3 b4 some
def Q08.T : Q13 := ⟨[.ptr 0 [], .dat (.int .i64)], [.pair (.ptr 1 []) (.pair (.dat .str) (.pair (.dat (.int .u64)) (.pair (.nils) (.pair (.vsl 4) (.dat QeE))))), .pair (.mp 2) (.pair (.mp 3) (.pair (.nils) (.pair (.dat (.int .i64)) (.pair (.nils) (.dat QeH))))), .mpd .str .str, .mpd .str .str, .vec (.int .i64)], 4⟩
def Q08.os : List Out := [⟨.ret, [.freeze (.slot 0), .freeze (.slot 1), .auto 4], ⟨[.dat .str, .dat .bool], [.pair (.ptr 1 []) (.pair (.dat .str) (.pair (.dat (.int .u64)) (.pair (.nils) (.pair (.vsl 4) (.dat QeE))))), .pair (.mp 2) (.pair (.mp 3) (.pair (.nils) (.pair (.dat (.int .i64)) (.pair (.nils) (.dat QeH))))), .mpd .str .str, .mpd .str .str, .vec (.int .i64)]⟩⟩]
def Q08.sem (k : Nat) : QP := Q14 Q08.T Q08.os fun x => Q08 k x.1 x.2.1 x.2.2.1 x.2.2.2.1 x.2.2.2.2.1 x.2.2.2.2.2.1
noncomputable def Q08.ctx (k : Nat) : Ctx := ⟨Try.prog, gam [(25, (QU.sem k))]⟩
theorem Q08.gok (k : Nat) : ∀ f, Qw Try.prog f ((Q08.ctx k).Γ f) := (Qe (QU.sem_ok k) Q0b)
def Q08.ann (k : Nat) : Ann := .nil
theorem Q08.body (k : Nat) : Q16 (Q08.ctx k) Try.f22 (Func.code Try.f22) (Q08.ann k) Q08.T Q08.os (fun x K => Q08.c k x.1 x.2.1 x.2.2.1 x.2.2.2.1 x.2.2.2.2.1 x.2.2.2.2.2.1 K) := by
 intro ρ x K; kernel_rfl
theorem Q08.sem_ok (k : Nat) : Qw Try.prog 22 (Q08.sem k) :=
 Q0r (C := Q08.ctx k) (Q08.gok k) Try.mix (c := Func.code Try.f22) (ann := Q08.ann k) (T := Q08.T) (os := Q08.os) (fun x K => Q08.c k x.1 x.2.1 x.2.2.1 x.2.2.2.1 x.2.2.2.2.1 x.2.2.2.2.2.1 K) Try.func22 (by kernel_rfl) (by kernel_rfl) Q1.nil (Q08.body k) (by kernel_rfl) (by kernel_rfl) (by kernel_rfl)
abbrev QS.τ : Type := Qel 
def QS.c (k : Nat) {ρ : Type} (b0 : Qey) (b1 : QeC) (b2 : QeG) (b3 : QeG) (b4 : (List Int)) (K : QS.τ → Option ρ) : Option ρ :=
 (QY k ((), (b0.2.1, (b0.2.2.1, ((), ((), (b0.2.2.2.2.2.1, (b0.2.2.2.2.2.2.1, ()))))))) ((), ((), ((), (b1.2.2.2.1, ((), (b1.2.2.2.2.2.1, ())))))) b2 b3 b4).bind fun t0 => bif (t0.1 != (0 : Int)) then (K (t0.1, (((), (t0.2.1.2.1, (t0.2.1.2.2.1, ((), ((), (t0.2.1.2.2.2.2.2.1, (t0.2.1.2.2.2.2.2.2.1, ()))))))), (((), ((), ((), (t0.2.2.1.2.2.2.1, ((), (t0.2.2.1.2.2.2.2.2.1, ())))))), (t0.2.2.2.1, (t0.2.2.2.2.1, (t0.2.2.2.2.2.1, ()))))))) else ((Q9 k ((), ((), ((), (t0.2.2.1.2.2.2.1, ((), (t0.2.2.1.2.2.2.2.2.1, ())))))) t0.2.2.2.1 t0.2.2.2.2.1).bind fun t1 => (QD k t1.1 ((), (t0.2.1.2.1, (t0.2.1.2.2.1, ((), ((), (t0.2.1.2.2.2.2.2.1, (t0.2.1.2.2.2.2.2.2.1, ()))))))) ((), ((), ((), (t1.2.1.2.2.2.1, ((), (t1.2.1.2.2.2.2.2.1, ())))))) t1.2.2.1 t1.2.2.2.1 t0.2.2.2.2.2.1).bind fun t2 => K (t2.1, (((), (t2.2.1.2.1, (t2.2.1.2.2.1, ((), ((), (t2.2.1.2.2.2.2.2.1, (t2.2.1.2.2.2.2.2.2.1, ()))))))), (((), ((), ((), (t2.2.2.1.2.2.2.1, ((), (t2.2.2.1.2.2.2.2.2.1, ())))))), (t2.2.2.2.1, (t2.2.2.2.2.1, (t2.2.2.2.2.2.1, ())))))))
def QS (k : Nat) (b0 : Qey) (b1 : QeC) (b2 : QeG) (b3 : QeG) (b4 : (List Int)) : Option QS.τ := QS.c k b0 b1 b2 b3 b4 some
def QS.T : Q13 := ⟨[.ptr 0 []], [.pair (.ptr 1 []) (.pair (.dat .str) (.pair (.dat (.int .u64)) (.pair (.nils) (.pair (.vsl 4) (.dat QeE))))), .pair (.mp 2) (.pair (.mp 3) (.pair (.nils) (.pair (.dat (.int .i64)) (.pair (.nils) (.dat QeH))))), .mpd .str .str, .mpd .str .str, .vec (.int .i64)], 4⟩
def QS.os : List Out := [⟨.ret, [.freeze (.slot 0), .auto 4], ⟨[.dat (.int .i64)], [.pair (.ptr 1 []) (.pair (.dat .str) (.pair (.dat (.int .u64)) (.pair (.nils) (.pair (.vsl 4) (.dat QeE))))), .pair (.mp 2) (.pair (.mp 3) (.pair (.nils) (.pair (.dat (.int .i64)) (.pair (.nils) (.dat QeH))))), .mpd .str .str, .mpd .str .str, .vec (.int .i64)]⟩⟩]
def QS.sem (k : Nat) : QP := Q14 QS.T QS.os fun x => QS k x.1 x.2.1 x.2.2.1 x.2.2.2.1 x.2.2.2.2.1
noncomputable def QS.ctx (k : Nat) : Ctx := ⟨Try.prog, gam [(58, (QY.sem k)), (56, (Q9.sem k)), (59, (QD.sem k))]⟩
theorem QS.gok (k : Nat) : ∀ f, Qw Try.prog f ((QS.ctx k).Γ f) := (Qe (QY.sem_ok k) (Qe (Q9.sem_ok k) (Qe (QD.sem_ok k) Q0b)))
def QS.ann (k : Nat) : Ann := .nil
theorem QS.body (k : Nat) : Q16 (QS.ctx k) Try.f19 (Func.code Try.f19) (QS.ann k) QS.T QS.os (fun x K => QS.c k x.1 x.2.1 x.2.2.1 x.2.2.2.1 x.2.2.2.2.1 K) := by
 intro ρ x K; kernel_rfl
theorem QS.sem_ok (k : Nat) : Qw Try.prog 19 (QS.sem k) :=
 Q0r (C := QS.ctx k) (QS.gok k) Try.mix (c := Func.code Try.f19) (ann := QS.ann k) (T := QS.T) (os := QS.os) (fun x K => QS.c k x.1 x.2.1 x.2.2.1 x.2.2.2.1 x.2.2.2.2.1 K) Try.func19 (by kernel_rfl) (by kernel_rfl) Q1.nil (QS.body k) (by kernel_rfl) (by kernel_rfl) (by kernel_rfl)
abbrev QC.τ : Type := Qek 
def QC.c (k : Nat) {ρ : Type} (b0 : Qey) (b1 : QeC) (b2 : QeG) (b3 : QeG) (b4 : (List ByteArray)) (b5 : (List Int)) (K : QC.τ → Option ρ) : Option ρ :=
 K ((((List.length b4) : Nat) : Int), (((), (b0.2.1, (b0.2.2.1, ((), ((), (b0.2.2.2.2.2.1, (b0.2.2.2.2.2.2.1, ()))))))), (((), ((), ((), (b1.2.2.2.1, ((), (b1.2.2.2.2.2.1, ())))))), (b2, (b3, (b4, (b5, ())))))))
def QC (k : Nat) (b0 : Qey) (b1 : QeC) (b2 : QeG) (b3 : QeG) (b4 : (List ByteArray)) (b5 : (List Int)) : Option QC.τ := QC.c k b0 b1 b2 b3 b4 b5 some
def QC.T : Q13 := ⟨[.ptr 0 []], [.pair (.ptr 1 []) (.pair (.dat .str) (.pair (.dat (.int .u64)) (.pair (.vsl 4) (.pair (.vsl 5) (.dat QeE))))), .pair (.mp 2) (.pair (.mp 3) (.pair (.nils) (.pair (.dat (.int .i64)) (.pair (.nils) (.dat QeH))))), .mpd .str .str, .mpd .str .str, .vec .str, .vec (.int .i64)], 4⟩
def QC.os : List Out := [⟨.ret, [.freeze (.slot 0), .auto 4], ⟨[.dat (.int .i64)], .pair (.ptr 1 []) (.pair (.dat .str) (.pair (.dat (.int .u64)) (.pair (.vsl 4) (.pair (.vsl 5) (.dat QeE))))) :: .pair (.mp 2) (.pair (.mp 3) (.pair (.nils) (.pair (.dat (.int .i64)) (.pair (.nils) (.dat QeH))))) :: .mpd .str .str :: .mpd .str .str :: .vec .str :: .vec (.int .i64) :: []⟩⟩]
def QC.sem (k : Nat) : QP := Q14 QC.T QC.os fun x => QC k x.1 x.2.1 x.2.2.1 x.2.2.2.1 x.2.2.2.2.1 x.2.2.2.2.2.1
noncomputable def QC.ctx (k : Nat) : Ctx := ⟨Try.prog, gam []⟩
theorem QC.gok (k : Nat) : ∀ f, Qw Try.prog f ((QC.ctx k).Γ f) := Q0b
def QC.ann (k : Nat) : Ann := .nil
theorem QC.body (k : Nat) : Q16 (QC.ctx k) Try.f25 (Func.code Try.f25) (QC.ann k) QC.T QC.os (fun x K => QC.c k x.1 x.2.1 x.2.2.1 x.2.2.2.1 x.2.2.2.2.1 x.2.2.2.2.2.1 K) := by
 intro ρ x K; kernel_rfl
theorem QC.sem_ok (k : Nat) : Qw Try.prog 25 (QC.sem k) :=
 Q0r (C := QC.ctx k) (QC.gok k) Try.mix (c := Func.code Try.f25) (ann := QC.ann k) (T := QC.T) (os := QC.os) (fun x K => QC.c k x.1 x.2.1 x.2.2.1 x.2.2.2.1 x.2.2.2.2.1 x.2.2.2.2.2.1 K) Try.func25 (by kernel_rfl) (by kernel_rfl) Q1.nil (QC.body k) (by kernel_rfl) (by kernel_rfl) (by kernel_rfl)
abbrev QL.τ : Type := (ByteArray × Bool × Qey × QeC × QeG × QeG × (List ByteArray) × (List Int) × Unit)
def QL.c (k : Nat) {ρ : Type} (n : Int) (b0 : Qey) (b1 : QeC) (b2 : QeG) (b3 : QeG) (b4 : (List ByteArray)) (b5 : (List Int)) (K : QL.τ → Option ρ) : Option ρ :=
 bif (decide (n < (0 : Int))) then (K ((⟨(List.toArray [])⟩ : ByteArray), (false, (((), (b0.2.1, (b0.2.2.1, ((), ((), (b0.2.2.2.2.2.1, (b0.2.2.2.2.2.2.1, ()))))))), (((), ((), ((), (b1.2.2.2.1, ((), (b1.2.2.2.2.2.1, ())))))), (b2, (b3, (b4, (b5, ()))))))))) else ((QC k ((), (b0.2.1, (b0.2.2.1, ((), ((), (b0.2.2.2.2.2.1, (b0.2.2.2.2.2.2.1, ()))))))) ((), ((), ((), (b1.2.2.2.1, ((), (b1.2.2.2.2.2.1, ())))))) b2 b3 b4 b5).bind fun t0 => bif (decide (n ≥ t0.1)) then (K ((⟨(List.toArray [])⟩ : ByteArray), (false, (((), (t0.2.1.2.1, (t0.2.1.2.2.1, ((), ((), (t0.2.1.2.2.2.2.2.1, (t0.2.1.2.2.2.2.2.2.1, ()))))))), (((), ((), ((), (t0.2.2.1.2.2.2.1, ((), (t0.2.2.1.2.2.2.2.2.1, ())))))), (t0.2.2.2.1, (t0.2.2.2.2.1, (t0.2.2.2.2.2.1, (t0.2.2.2.2.2.2.1, ()))))))))) else (bif (decide (((0 : Int) ≤ n) ∧ (n < (((List.length t0.2.2.2.2.2.1) : Nat) : Int)))) then (let v1 : ByteArray := (List.getD t0.2.2.2.2.2.1 (Int.toNat n) ByteArray.empty)
 K (v1, (true, (((), (t0.2.1.2.1, (t0.2.1.2.2.1, ((), ((), (t0.2.1.2.2.2.2.2.1, (t0.2.1.2.2.2.2.2.2.1, ()))))))), (((), ((), ((), (t0.2.2.1.2.2.2.1, ((), (t0.2.2.1.2.2.2.2.2.1, ())))))), (t0.2.2.2.1, (t0.2.2.2.2.1, (t0.2.2.2.2.2.1, (t0.2.2.2.2.2.2.1, ()))))))))) else (none)))
def QL (k : Nat) (n : Int) (b0 : Qey) (b1 : QeC) (b2 : QeG) (b3 : QeG) (b4 : (List ByteArray)) (b5 : (List Int)) : Option QL.τ := QL.c k n b0 b1 b2 b3 b4 b5 some
def QL.T : Q13 := ⟨[.ptr 0 [], .dat (.int .i64)], [.pair (.ptr 1 []) (.pair (.dat .str) (.pair (.dat (.int .u64)) (.pair (.vsl 4) (.pair (.vsl 5) (.dat QeE))))), .pair (.mp 2) (.pair (.mp 3) (.pair (.nils) (.pair (.dat (.int .i64)) (.pair (.nils) (.dat QeH))))), .mpd .str .str, .mpd .str .str, .vec .str, .vec (.int .i64)], 4⟩
def QL.os : List Out := [⟨.ret, [.freeze (.slot 0), .freeze (.slot 1), .auto 4], ⟨[.dat .str, .dat .bool], .pair (.ptr 1 []) (.pair (.dat .str) (.pair (.dat (.int .u64)) (.pair (.vsl 4) (.pair (.vsl 5) (.dat QeE))))) :: .pair (.mp 2) (.pair (.mp 3) (.pair (.nils) (.pair (.dat (.int .i64)) (.pair (.nils) (.dat QeH))))) :: .mpd .str .str :: .mpd .str .str :: .vec .str :: .vec (.int .i64) :: []⟩⟩]
def QL.sem (k : Nat) : QP := Q14 QL.T QL.os fun x => QL k x.1 x.2.1 x.2.2.1 x.2.2.2.1 x.2.2.2.2.1 x.2.2.2.2.2.1 x.2.2.2.2.2.2.1
noncomputable def QL.ctx (k : Nat) : Ctx := ⟨Try.prog, gam [(25, (QC.sem k))]⟩
theorem QL.gok (k : Nat) : ∀ f, Qw Try.prog f ((QL.ctx k).Γ f) := (Qe (QC.sem_ok k) Q0b)
def QL.ann (k : Nat) : Ann := .nil
theorem QL.body (k : Nat) : Q16 (QL.ctx k) Try.f22 (Func.code Try.f22) (QL.ann k) QL.T QL.os (fun x K => QL.c k x.1 x.2.1 x.2.2.1 x.2.2.2.1 x.2.2.2.2.1 x.2.2.2.2.2.1 x.2.2.2.2.2.2.1 K) := by
 intro ρ x K; kernel_rfl
theorem QL.sem_ok (k : Nat) : Qw Try.prog 22 (QL.sem k) :=
 Q0r (C := QL.ctx k) (QL.gok k) Try.mix (c := Func.code Try.f22) (ann := QL.ann k) (T := QL.T) (os := QL.os) (fun x K => QL.c k x.1 x.2.1 x.2.2.1 x.2.2.2.1 x.2.2.2.2.1 x.2.2.2.2.2.1 x.2.2.2.2.2.2.1 K) Try.func22 (by kernel_rfl) (by kernel_rfl) Q1.nil (QL.body k) (by kernel_rfl) (by kernel_rfl) (by kernel_rfl)
abbrev QO.τ : Type := (Bool × Qey × QeC × QeG × QeG × (List ByteArray) × (List Int) × Unit)
def QO.c (k : Nat) {ρ : Type} (b0 : Qey) (b1 : QeC) (b2 : QeG) (b3 : QeG) (b4 : (List ByteArray)) (b5 : (List Int)) (K : QO.τ → Option ρ) : Option ρ :=
 K (b0.2.2.2.2.2.2.1, (((), (b0.2.1, (b0.2.2.1, ((), ((), (b0.2.2.2.2.2.1, (b0.2.2.2.2.2.2.1, ()))))))), (((), ((), ((), (b1.2.2.2.1, ((), (b1.2.2.2.2.2.1, ())))))), (b2, (b3, (b4, (b5, ())))))))
def QO (k : Nat) (b0 : Qey) (b1 : QeC) (b2 : QeG) (b3 : QeG) (b4 : (List ByteArray)) (b5 : (List Int)) : Option QO.τ := QO.c k b0 b1 b2 b3 b4 b5 some
def QO.T : Q13 := ⟨[.ptr 0 []], [.pair (.ptr 1 []) (.pair (.dat .str) (.pair (.dat (.int .u64)) (.pair (.vsl 4) (.pair (.vsl 5) (.dat QeE))))), .pair (.mp 2) (.pair (.mp 3) (.pair (.nils) (.pair (.dat (.int .i64)) (.pair (.nils) (.dat QeH))))), .mpd .str .str, .mpd .str .str, .vec .str, .vec (.int .i64)], 4⟩
def QO.os : List Out := [⟨.ret, [.freeze (.slot 0), .auto 4], ⟨[.dat .bool], .pair (.ptr 1 []) (.pair (.dat .str) (.pair (.dat (.int .u64)) (.pair (.vsl 4) (.pair (.vsl 5) (.dat QeE))))) :: .pair (.mp 2) (.pair (.mp 3) (.pair (.nils) (.pair (.dat (.int .i64)) (.pair (.nils) (.dat QeH))))) :: .mpd .str .str :: .mpd .str .str :: .vec .str :: .vec (.int .i64) :: []⟩⟩]
def QO.sem (k : Nat) : QP := Q14 QO.T QO.os fun x => QO k x.1 x.2.1 x.2.2.1 x.2.2.2.1 x.2.2.2.2.1 x.2.2.2.2.2.1
noncomputable def QO.ctx (k : Nat) : Ctx := ⟨Try.prog, gam []⟩
theorem QO.gok (k : Nat) : ∀ f, Qw Try.prog f ((QO.ctx k).Γ f) := Q0b
def QO.ann (k : Nat) : Ann := .nil
theorem QO.body (k : Nat) : Q16 (QO.ctx k) Try.f21 (Func.code Try.f21) (QO.ann k) QO.T QO.os (fun x K => QO.c k x.1 x.2.1 x.2.2.1 x.2.2.2.1 x.2.2.2.2.1 x.2.2.2.2.2.1 K) := by
 intro ρ x K; kernel_rfl
theorem QO.sem_ok (k : Nat) : Qw Try.prog 21 (QO.sem k) :=
 Q0r (C := QO.ctx k) (QO.gok k) Try.mix (c := Func.code Try.f21) (ann := QO.ann k) (T := QO.T) (os := QO.os) (fun x K => QO.c k x.1 x.2.1 x.2.2.1 x.2.2.2.1 x.2.2.2.2.1 x.2.2.2.2.2.1 K) Try.func21 (by kernel_rfl) (by kernel_rfl) Q1.nil (QO.body k) (by kernel_rfl) (by kernel_rfl) (by kernel_rfl)
abbrev QF.τ : Type := Qek 
def QF.c (k : Nat) {ρ : Type} (b0 : Qey) (b1 : QeC) (b2 : QeG) (b3 : QeG) (b4 : (List ByteArray)) (b5 : (List Int)) (K : QF.τ → Option ρ) : Option ρ :=
 (QO k ((), (b0.2.1, (b0.2.2.1, ((), ((), (b0.2.2.2.2.2.1, (b0.2.2.2.2.2.2.1, ()))))))) ((), ((), ((), (b1.2.2.2.1, ((), (b1.2.2.2.2.2.1, ())))))) b2 b3 b4 b5).bind fun t0 => bif t0.1 then (K ((7 : Int), (((), (t0.2.1.2.1, (t0.2.1.2.2.1, ((), ((), (t0.2.1.2.2.2.2.2.1, (t0.2.1.2.2.2.2.2.2.1, ()))))))), (((), ((), ((), (t0.2.2.1.2.2.2.1, ((), (t0.2.2.1.2.2.2.2.2.1, ())))))), (t0.2.2.2.1, (t0.2.2.2.2.1, (t0.2.2.2.2.2.1, (t0.2.2.2.2.2.2.1, ())))))))) else (K ((0 : Int), (((), (t0.2.1.2.1, (t0.2.1.2.2.1, ((), ((), (t0.2.1.2.2.2.2.2.1, (t0.2.1.2.2.2.2.2.2.1, ()))))))), (((), ((), ((), (t0.2.2.1.2.2.2.1, ((), (t0.2.2.1.2.2.2.2.2.1, ())))))), (t0.2.2.2.1, (t0.2.2.2.2.1, (t0.2.2.2.2.2.1, (t0.2.2.2.2.2.2.1, ()))))))))
def QF (k : Nat) (b0 : Qey) (b1 : QeC) (b2 : QeG) (b3 : QeG) (b4 : (List ByteArray)) (b5 : (List Int)) : Option QF.τ := QF.c k b0 b1 b2 b3 b4 b5 some
def QF.T : Q13 := ⟨[.ptr 0 []], [.pair (.ptr 1 []) (.pair (.dat .str) (.pair (.dat (.int .u64)) (.pair (.vsl 4) (.pair (.vsl 5) (.dat QeE))))), .pair (.mp 2) (.pair (.mp 3) (.pair (.nils) (.pair (.dat (.int .i64)) (.pair (.nils) (.dat QeH))))), .mpd .str .str, .mpd .str .str, .vec .str, .vec (.int .i64)], 4⟩
def QF.os : List Out := [⟨.ret, [.freeze (.slot 0), .auto 4], ⟨[.dat (.int .i64)], .pair (.ptr 1 []) (.pair (.dat .str) (.pair (.dat (.int .u64)) (.pair (.vsl 4) (.pair (.vsl 5) (.dat QeE))))) :: .pair (.mp 2) (.pair (.mp 3) (.pair (.nils) (.pair (.dat (.int .i64)) (.pair (.nils) (.dat QeH))))) :: .mpd .str .str :: .mpd .str .str :: .vec .str :: .vec (.int .i64) :: []⟩⟩]
def QF.sem (k : Nat) : QP := Q14 QF.T QF.os fun x => QF k x.1 x.2.1 x.2.2.1 x.2.2.2.1 x.2.2.2.2.1 x.2.2.2.2.2.1
noncomputable def QF.ctx (k : Nat) : Ctx := ⟨Try.prog, gam [(21, (QO.sem k))]⟩
theorem QF.gok (k : Nat) : ∀ f, Qw Try.prog f ((QF.ctx k).Γ f) := (Qe (QO.sem_ok k) Q0b)
def QF.ann (k : Nat) : Ann := .nil
theorem QF.body (k : Nat) : Q16 (QF.ctx k) Try.f58 (Func.code Try.f58) (QF.ann k) QF.T QF.os (fun x K => QF.c k x.1 x.2.1 x.2.2.1 x.2.2.2.1 x.2.2.2.2.1 x.2.2.2.2.2.1 K) := by
 intro ρ x K; kernel_rfl
theorem QF.sem_ok (k : Nat) : Qw Try.prog 58 (QF.sem k) :=
 Q0r (C := QF.ctx k) (QF.gok k) Try.mix (c := Func.code Try.f58) (ann := QF.ann k) (T := QF.T) (os := QF.os) (fun x K => QF.c k x.1 x.2.1 x.2.2.1 x.2.2.2.1 x.2.2.2.2.1 x.2.2.2.2.2.1 K) Try.func58 (by kernel_rfl) (by kernel_rfl) Q1.nil (QF.body k) (by kernel_rfl) (by kernel_rfl) (by kernel_rfl)
abbrev Qs.τ : Type := Qek 
def Qs.c (k : Nat) {ρ : Type} (e : Int) (b0 : Qey) (b1 : QeC) (b2 : QeG) (b3 : QeG) (b4 : (List ByteArray)) (b5 : (List Int)) (K : Qs.τ → Option ρ) : Option ρ :=
 bif (e == (7 : Int)) then (K (e, (((), (b0.2.1, (b0.2.2.1, ((), ((), (b0.2.2.2.2.2.1, (true, ()))))))), (((), ((), ((), (b1.2.2.2.1, ((), (b1.2.2.2.2.2.1, ())))))), (b2, (b3, (b4, (b5, ())))))))) else (K (e, (((), (b0.2.1, (b0.2.2.1, ((), ((), (b0.2.2.2.2.2.1, (b0.2.2.2.2.2.2.1, ()))))))), (((), ((), ((), (b1.2.2.2.1, ((), (b1.2.2.2.2.2.1, ())))))), (b2, (b3, (b4, (b5, ()))))))))
def Qs (k : Nat) (e : Int) (b0 : Qey) (b1 : QeC) (b2 : QeG) (b3 : QeG) (b4 : (List ByteArray)) (b5 : (List Int)) : Option Qs.τ := Qs.c k e b0 b1 b2 b3 b4 b5 some
def Qs.T : Q13 := ⟨[.ptr 0 [], .dat (.int .i64)], [.pair (.ptr 1 []) (.pair (.dat .str) (.pair (.dat (.int .u64)) (.pair (.vsl 4) (.pair (.vsl 5) (.dat QeE))))), .pair (.mp 2) (.pair (.mp 3) (.pair (.nils) (.pair (.dat (.int .i64)) (.pair (.nils) (.dat QeH))))), .mpd .str .str, .mpd .str .str, .vec .str, .vec (.int .i64)], 4⟩
def Qs.os : List Out := [⟨.ret, [.freeze (.slot 0), .auto 4], ⟨[.dat (.int .i64)], .pair (.ptr 1 []) (.pair (.dat .str) (.pair (.dat (.int .u64)) (.pair (.vsl 4) (.pair (.vsl 5) (.dat QeE))))) :: .pair (.mp 2) (.pair (.mp 3) (.pair (.nils) (.pair (.dat (.int .i64)) (.pair (.nils) (.dat QeH))))) :: .mpd .str .str :: .mpd .str .str :: .vec .str :: .vec (.int .i64) :: []⟩⟩]
def Qs.sem (k : Nat) : QP := Q14 Qs.T Qs.os fun x => Qs k x.1 x.2.1 x.2.2.1 x.2.2.2.1 x.2.2.2.2.1 x.2.2.2.2.2.1 x.2.2.2.2.2.2.1
noncomputable def Qs.ctx (k : Nat) : Ctx := ⟨Try.prog, gam []⟩
theorem Qs.gok (k : Nat) : ∀ f, Qw Try.prog f ((Qs.ctx k).Γ f) := Q0b
def Qs.ann (k : Nat) : Ann := .nil
theorem Qs.body (k : Nat) : Q16 (Qs.ctx k) Try.f59 (Func.code Try.f59) (Qs.ann k) Qs.T Qs.os (fun x K => Qs.c k x.1 x.2.1 x.2.2.1 x.2.2.2.1 x.2.2.2.2.1 x.2.2.2.2.2.1 x.2.2.2.2.2.2.1 K) := by
 intro ρ x K; kernel_rfl
theorem Qs.sem_ok (k : Nat) : Qw Try.prog 59 (Qs.sem k) :=
 Q0r (C := Qs.ctx k) (Qs.gok k) Try.mix (c := Func.code Try.f59) (ann := Qs.ann k) (T := Qs.T) (os := Qs.os) (fun x K => Qs.c k x.1 x.2.1 x.2.2.1 x.2.2.2.1 x.2.2.2.2.1 x.2.2.2.2.2.1 x.2.2.2.2.2.2.1 K) Try.func59 (by kernel_rfl) (by kernel_rfl) Q1.nil (Qs.body k) (by kernel_rfl) (by kernel_rfl) (by kernel_rfl)
abbrev Qz.τ : Type := Qek 
def Qz.c (k : Nat) {ρ : Type} (b0 : Qey) (b1 : QeC) (b2 : QeG) (b3 : QeG) (b4 : (List ByteArray)) (b5 : (List Int)) (K : Qz.τ → Option ρ) : Option ρ :=
 (QF k ((), (b0.2.1, (b0.2.2.1, ((), ((), (b0.2.2.2.2.2.1, (b0.2.2.2.2.2.2.1, ()))))))) ((), ((), ((), (b1.2.2.2.1, ((), (b1.2.2.2.2.2.1, ())))))) b2 b3 b4 b5).bind fun t0 => bif (t0.1 != (0 : Int)) then (K (t0.1, (((), (t0.2.1.2.1, (t0.2.1.2.2.1, ((), ((), (t0.2.1.2.2.2.2.2.1, (t0.2.1.2.2.2.2.2.2.1, ()))))))), (((), ((), ((), (t0.2.2.1.2.2.2.1, ((), (t0.2.2.1.2.2.2.2.2.1, ())))))), (t0.2.2.2.1, (t0.2.2.2.2.1, (t0.2.2.2.2.2.1, (t0.2.2.2.2.2.2.1, ())))))))) else ((Q9 k ((), ((), ((), (t0.2.2.1.2.2.2.1, ((), (t0.2.2.1.2.2.2.2.2.1, ())))))) t0.2.2.2.1 t0.2.2.2.2.1).bind fun t1 => (Qs k t1.1 ((), (t0.2.1.2.1, (t0.2.1.2.2.1, ((), ((), (t0.2.1.2.2.2.2.2.1, (t0.2.1.2.2.2.2.2.2.1, ()))))))) ((), ((), ((), (t1.2.1.2.2.2.1, ((), (t1.2.1.2.2.2.2.2.1, ())))))) t1.2.2.1 t1.2.2.2.1 t0.2.2.2.2.2.1 t0.2.2.2.2.2.2.1).bind fun t2 => K (t2.1, (((), (t2.2.1.2.1, (t2.2.1.2.2.1, ((), ((), (t2.2.1.2.2.2.2.2.1, (t2.2.1.2.2.2.2.2.2.1, ()))))))), (((), ((), ((), (t2.2.2.1.2.2.2.1, ((), (t2.2.2.1.2.2.2.2.2.1, ())))))), (t2.2.2.2.1, (t2.2.2.2.2.1, (t2.2.2.2.2.2.1, (t2.2.2.2.2.2.2.1, ()))))))))
def Qz (k : Nat) (b0 : Qey) (b1 : QeC) (b2 : QeG) (b3 : QeG) (b4 : (List ByteArray)) (b5 : (List Int)) : Option Qz.τ := Qz.c k b0 b1 b2 b3 b4 b5 some
def Qz.T : Q13 := ⟨[.ptr 0 []], [.pair (.ptr 1 []) (.pair (.dat .str) (.pair (.dat (.int .u64)) (.pair (.vsl 4) (.pair (.vsl 5) (.dat QeE))))), .pair (.mp 2) (.pair (.mp 3) (.pair (.nils) (.pair (.dat (.int .i64)) (.pair (.nils) (.dat QeH))))), .mpd .str .str, .mpd .str .str, .vec .str, .vec (.int .i64)], 4⟩
def Qz.os : List Out := [⟨.ret, [.freeze (.slot 0), .auto 4], ⟨[.dat (.int .i64)], .pair (.ptr 1 []) (.pair (.dat .str) (.pair (.dat (.int .u64)) (.pair (.vsl 4) (.pair (.vsl 5) (.dat QeE))))) :: .pair (.mp 2) (.pair (.mp 3) (.pair (.nils) (.pair (.dat (.int .i64)) (.pair (.nils) (.dat QeH))))) :: .mpd .str .str :: .mpd .str .str :: .vec .str :: .vec (.int .i64) :: []⟩⟩]
def Qz.sem (k : Nat) : QP := Q14 Qz.T Qz.os fun x => Qz k x.1 x.2.1 x.2.2.1 x.2.2.2.1 x.2.2.2.2.1 x.2.2.2.2.2.1
noncomputable def Qz.ctx (k : Nat) : Ctx := ⟨Try.prog, gam [(58, (QF.sem k)), (56, (Q9.sem k)), (59, (Qs.sem k))]⟩
theorem Qz.gok (k : Nat) : ∀ f, Qw Try.prog f ((Qz.ctx k).Γ f) := (Qe (QF.sem_ok k) (Qe (Q9.sem_ok k) (Qe (Qs.sem_ok k) Q0b)))
def Qz.ann (k : Nat) : Ann := .nil
theorem Qz.body (k : Nat) : Q16 (Qz.ctx k) Try.f19 (Func.code Try.f19) (Qz.ann k) Qz.T Qz.os (fun x K => Qz.c k x.1 x.2.1 x.2.2.1 x.2.2.2.1 x.2.2.2.2.1 x.2.2.2.2.2.1 K) := by
 intro ρ x K; kernel_rfl
theorem Qz.sem_ok (k : Nat) : Qw Try.prog 19 (Qz.sem k) :=
 Q0r (C := Qz.ctx k) (Qz.gok k) Try.mix (c := Func.code Try.f19) (ann := Qz.ann k) (T := Qz.T) (os := Qz.os) (fun x K => Qz.c k x.1 x.2.1 x.2.2.1 x.2.2.2.1 x.2.2.2.2.1 x.2.2.2.2.2.1 K) Try.func19 (by kernel_rfl) (by kernel_rfl) Q1.nil (Qz.body k) (by kernel_rfl) (by kernel_rfl) (by kernel_rfl)
abbrev QB.τ : Type := Qej 
def QB.c (k : Nat) {ρ : Type} (b0 : Qey) (b1 : QeC) (b2 : QeG) (b3 : QeG) (b4 : Qez) (b5 : (List Int)) (K : QB.τ → Option ρ) : Option ρ :=
 K ((0 : Int), (((), (b0.2.1, (b0.2.2.1, ((), ((), (b0.2.2.2.2.2.1, (b0.2.2.2.2.2.2.1, ()))))))), (((), ((), ((), (b1.2.2.2.1, ((), (b1.2.2.2.2.2.1, ())))))), (b2, (b3, (b5, (b4, ())))))))
def QB (k : Nat) (b0 : Qey) (b1 : QeC) (b2 : QeG) (b3 : QeG) (b4 : Qez) (b5 : (List Int)) : Option QB.τ := QB.c k b0 b1 b2 b3 b4 b5 some
def QB.T : Q13 := ⟨[.ptr 0 []], [.pair (.ptr 1 []) (.pair (.dat .str) (.pair (.dat (.int .u64)) (.pair (.nils) (.pair (.vsl 5) (.dat QeE))))), .pair (.mp 2) (.pair (.mp 3) (.pair (.vsl 4) (.pair (.dat (.int .i64)) (.pair (.nils) (.dat QeH))))), .mpd .str .str, .mpd .str .str, .vec Qex, .vec (.int .i64)], 4⟩
def QB.os : List Out := [⟨.ret, [.freeze (.slot 0), .auto 4], ⟨[.dat (.int .i64)], .pair (.ptr 1 []) (.pair (.dat .str) (.pair (.dat (.int .u64)) (.pair (.nils) (.pair (.vsl 4) (.dat QeE))))) :: .pair (.mp 2) (.pair (.mp 3) (.pair (.vsl 5) (.pair (.dat (.int .i64)) (.pair (.nils) (.dat QeH))))) :: .mpd .str .str :: .mpd .str .str :: .vec (.int .i64) :: .vec Qex :: []⟩⟩]
def QB.sem (k : Nat) : QP := Q14 QB.T QB.os fun x => QB k x.1 x.2.1 x.2.2.1 x.2.2.2.1 x.2.2.2.2.1 x.2.2.2.2.2.1
noncomputable def QB.ctx (k : Nat) : Ctx := ⟨Try.prog, gam []⟩
theorem QB.gok (k : Nat) : ∀ f, Qw Try.prog f ((QB.ctx k).Γ f) := Q0b
def QB.ann (k : Nat) : Ann := .nil
theorem QB.body (k : Nat) : Q16 (QB.ctx k) Try.f25 (Func.code Try.f25) (QB.ann k) QB.T QB.os (fun x K => QB.c k x.1 x.2.1 x.2.2.1 x.2.2.2.1 x.2.2.2.2.1 x.2.2.2.2.2.1 K) := by
 intro ρ x K; kernel_rfl
theorem QB.sem_ok (k : Nat) : Qw Try.prog 25 (QB.sem k) :=
 Q0r (C := QB.ctx k) (QB.gok k) Try.mix (c := Func.code Try.f25) (ann := QB.ann k) (T := QB.T) (os := QB.os) (fun x K => QB.c k x.1 x.2.1 x.2.2.1 x.2.2.2.1 x.2.2.2.2.1 x.2.2.2.2.2.1 K) Try.func25 (by kernel_rfl) (by kernel_rfl) Q1.nil (QB.body k) (by kernel_rfl) (by kernel_rfl) (by kernel_rfl)
abbrev QK.τ : Type := (ByteArray × Bool × Qey × QeC × QeG × QeG × (List Int) × Qez × Unit)
def QK.c (k : Nat) {ρ : Type} (n : Int) (b0 : Qey) (b1 : QeC) (b2 : QeG) (b3 : QeG) (b4 : Qez) (b5 : (List Int)) (K : QK.τ → Option ρ) : Option ρ :=
 bif (decide (n < (0 : Int))) then (K ((⟨(List.toArray [])⟩ : ByteArray), (false, (((), (b0.2.1, (b0.2.2.1, ((), ((), (b0.2.2.2.2.2.1, (b0.2.2.2.2.2.2.1, ()))))))), (((), ((), ((), (b1.2.2.2.1, ((), (b1.2.2.2.2.2.1, ())))))), (b2, (b3, (b5, (b4, ()))))))))) else ((QB k ((), (b0.2.1, (b0.2.2.1, ((), ((), (b0.2.2.2.2.2.1, (b0.2.2.2.2.2.2.1, ()))))))) ((), ((), ((), (b1.2.2.2.1, ((), (b1.2.2.2.2.2.1, ())))))) b2 b3 b4 b5).bind fun t0 => bif (decide (n ≥ t0.1)) then (K ((⟨(List.toArray [])⟩ : ByteArray), (false, (((), (t0.2.1.2.1, (t0.2.1.2.2.1, ((), ((), (t0.2.1.2.2.2.2.2.1, (t0.2.1.2.2.2.2.2.2.1, ()))))))), (((), ((), ((), (t0.2.2.1.2.2.2.1, ((), (t0.2.2.1.2.2.2.2.2.1, ())))))), (t0.2.2.2.1, (t0.2.2.2.2.1, (t0.2.2.2.2.2.1, (t0.2.2.2.2.2.2.1, ()))))))))) else (none))
def QK (k : Nat) (n : Int) (b0 : Qey) (b1 : QeC) (b2 : QeG) (b3 : QeG) (b4 : Qez) (b5 : (List Int)) : Option QK.τ := QK.c k n b0 b1 b2 b3 b4 b5 some
def QK.T : Q13 := ⟨[.ptr 0 [], .dat (.int .i64)], [.pair (.ptr 1 []) (.pair (.dat .str) (.pair (.dat (.int .u64)) (.pair (.nils) (.pair (.vsl 5) (.dat QeE))))), .pair (.mp 2) (.pair (.mp 3) (.pair (.vsl 4) (.pair (.dat (.int .i64)) (.pair (.nils) (.dat QeH))))), .mpd .str .str, .mpd .str .str, .vec Qex, .vec (.int .i64)], 4⟩
def QK.os : List Out := [⟨.ret, [.freeze (.slot 0), .freeze (.slot 1), .auto 4], ⟨[.dat .str, .dat .bool], .pair (.ptr 1 []) (.pair (.dat .str) (.pair (.dat (.int .u64)) (.pair (.nils) (.pair (.vsl 4) (.dat QeE))))) :: .pair (.mp 2) (.pair (.mp 3) (.pair (.vsl 5) (.pair (.dat (.int .i64)) (.pair (.nils) (.dat QeH))))) :: .mpd .str .str :: .mpd .str .str :: .vec (.int .i64) :: .vec Qex :: []⟩⟩]
def QK.sem (k : Nat) : QP := Q14 QK.T QK.os fun x => QK k x.1 x.2.1 x.2.2.1 x.2.2.2.1 x.2.2.2.2.1 x.2.2.2.2.2.1 x.2.2.2.2.2.2.1
noncomputable def QK.ctx (k : Nat) : Ctx := ⟨Try.prog, gam [(25, (QB.sem k))]⟩
theorem QK.gok (k : Nat) : ∀ f, Qw Try.prog f ((QK.ctx k).Γ f) := (Qe (QB.sem_ok k) Q0b)
def QK.ann (k : Nat) : Ann := .nil
theorem QK.body (k : Nat) : Q16 (QK.ctx k) Try.f22 (Func.code Try.f22) (QK.ann k) QK.T QK.os (fun x K => QK.c k x.1 x.2.1 x.2.2.1 x.2.2.2.1 x.2.2.2.2.1 x.2.2.2.2.2.1 x.2.2.2.2.2.2.1 K) := by
 intro ρ x K; kernel_rfl
theorem QK.sem_ok (k : Nat) : Qw Try.prog 22 (QK.sem k) :=
 Q0r (C := QK.ctx k) (QK.gok k) Try.mix (c := Func.code Try.f22) (ann := QK.ann k) (T := QK.T) (os := QK.os) (fun x K => QK.c k x.1 x.2.1 x.2.2.1 x.2.2.2.1 x.2.2.2.2.1 x.2.2.2.2.2.1 x.2.2.2.2.2.2.1 K) Try.func22 (by kernel_rfl) (by kernel_rfl) Q1.nil (QK.body k) (by kernel_rfl) (by kernel_rfl) (by kernel_rfl)
abbrev QN.τ : Type := (Bool × Qey × QeC × QeG × QeG × (List Int) × Qez × Unit)
def QN.c (k : Nat) {ρ : Type} (b0 : Qey) (b1 : QeC) (b2 : QeG) (b3 : QeG) (b4 : Qez) (b5 : (List Int)) (K : QN.τ → Option ρ) : Option ρ :=
 K (b0.2.2.2.2.2.2.1, (((), (b0.2.1, (b0.2.2.1, ((), ((), (b0.2.2.2.2.2.1, (b0.2.2.2.2.2.2.1, ()))))))), (((), ((), ((), (b1.2.2.2.1, ((), (b1.2.2.2.2.2.1, ())))))), (b2, (b3, (b5, (b4, ())))))))
def QN (k : Nat) (b0 : Qey) (b1 : QeC) (b2 : QeG) (b3 : QeG) (b4 : Qez) (b5 : (List Int)) : Option QN.τ := QN.c k b0 b1 b2 b3 b4 b5 some
def QN.T : Q13 := ⟨[.ptr 0 []], [.pair (.ptr 1 []) (.pair (.dat .str) (.pair (.dat (.int .u64)) (.pair (.nils) (.pair (.vsl 5) (.dat QeE))))), .pair (.mp 2) (.pair (.mp 3) (.pair (.vsl 4) (.pair (.dat (.int .i64)) (.pair (.nils) (.dat QeH))))), .mpd .str .str, .mpd .str .str, .vec Qex, .vec (.int .i64)], 4⟩
def QN.os : List Out := [⟨.ret, [.freeze (.slot 0), .auto 4], ⟨[.dat .bool], .pair (.ptr 1 []) (.pair (.dat .str) (.pair (.dat (.int .u64)) (.pair (.nils) (.pair (.vsl 4) (.dat QeE))))) :: .pair (.mp 2) (.pair (.mp 3) (.pair (.vsl 5) (.pair (.dat (.int .i64)) (.pair (.nils) (.dat QeH))))) :: .mpd .str .str :: .mpd .str .str :: .vec (.int .i64) :: .vec Qex :: []⟩⟩]
def QN.sem (k : Nat) : QP := Q14 QN.T QN.os fun x => QN k x.1 x.2.1 x.2.2.1 x.2.2.2.1 x.2.2.2.2.1 x.2.2.2.2.2.1
noncomputable def QN.ctx (k : Nat) : Ctx := ⟨Try.prog, gam []⟩
theorem QN.gok (k : Nat) : ∀ f, Qw Try.prog f ((QN.ctx k).Γ f) := Q0b
def QN.ann (k : Nat) : Ann := .nil
theorem QN.body (k : Nat) : Q16 (QN.ctx k) Try.f21 (Func.code Try.f21) (QN.ann k) QN.T QN.os (fun x K => QN.c k x.1 x.2.1 x.2.2.1 x.2.2.2.1 x.2.2.2.2.1 x.2.2.2.2.2.1 K) := by
 intro ρ x K; kernel_rfl
theorem QN.sem_ok (k : Nat) : Qw Try.prog 21 (QN.sem k) :=
 Q0r (C := QN.ctx k) (QN.gok k) Try.mix (c := Func.code Try.f21) (ann := QN.ann k) (T := QN.T) (os := QN.os) (fun x K => QN.c k x.1 x.2.1 x.2.2.1 x.2.2.2.1 x.2.2.2.2.1 x.2.2.2.2.2.1 K) Try.func21 (by kernel_rfl) (by kernel_rfl) Q1.nil (QN.body k) (by kernel_rfl) (by kernel_rfl) (by kernel_rfl)
abbrev QG.τ : Type := Qej 
def QG.c (k : Nat) {ρ : Type} (b0 : Qey) (b1 : QeC) (b2 : QeG) (b3 : QeG) (b4 : Qez) (b5 : (List Int)) (K : QG.τ → Option ρ) : Option ρ :=
 (QN k ((), (b0.2.1, (b0.2.2.1, ((), ((), (b0.2.2.2.2.2.1, (b0.2.2.2.2.2.2.1, ()))))))) ((), ((), ((), (b1.2.2.2.1, ((), (b1.2.2.2.2.2.1, ())))))) b2 b3 b4 b5).bind fun t0 => bif t0.1 then (K ((7 : Int), (((), (t0.2.1.2.1, (t0.2.1.2.2.1, ((), ((), (t0.2.1.2.2.2.2.2.1, (t0.2.1.2.2.2.2.2.2.1, ()))))))), (((), ((), ((), (t0.2.2.1.2.2.2.1, ((), (t0.2.2.1.2.2.2.2.2.1, ())))))), (t0.2.2.2.1, (t0.2.2.2.2.1, (t0.2.2.2.2.2.1, (t0.2.2.2.2.2.2.1, ())))))))) else (K ((0 : Int), (((), (t0.2.1.2.1, (t0.2.1.2.2.1, ((), ((), (t0.2.1.2.2.2.2.2.1, (t0.2.1.2.2.2.2.2.2.1, ()))))))), (((), ((), ((), (t0.2.2.1.2.2.2.1, ((), (t0.2.2.1.2.2.2.2.2.1, ())))))), (t0.2.2.2.1, (t0.2.2.2.2.1, (t0.2.2.2.2.2.1, (t0.2.2.2.2.2.2.1, ()))))))))
def QG (k : Nat) (b0 : Qey) (b1 : QeC) (b2 : QeG) (b3 : QeG) (b4 : Qez) (b5 : (List Int)) : Option QG.τ := QG.c k b0 b1 b2 b3 b4 b5 some
def QG.T : Q13 := ⟨[.ptr 0 []], [.pair (.ptr 1 []) (.pair (.dat .str) (.pair (.dat (.int .u64)) (.pair (.nils) (.pair (.vsl 5) (.dat QeE))))), .pair (.mp 2) (.pair (.mp 3) (.pair (.vsl 4) (.pair (.dat (.int .i64)) (.pair (.nils) (.dat QeH))))), .mpd .str .str, .mpd .str .str, .vec Qex, .vec (.int .i64)], 4⟩
def QG.os : List Out := [⟨.ret, [.freeze (.slot 0), .auto 4], ⟨[.dat (.int .i64)], .pair (.ptr 1 []) (.pair (.dat .str) (.pair (.dat (.int .u64)) (.pair (.nils) (.pair (.vsl 4) (.dat QeE))))) :: .pair (.mp 2) (.pair (.mp 3) (.pair (.vsl 5) (.pair (.dat (.int .i64)) (.pair (.nils) (.dat QeH))))) :: .mpd .str .str :: .mpd .str .str :: .vec (.int .i64) :: .vec Qex :: []⟩⟩]
def QG.sem (k : Nat) : QP := Q14 QG.T QG.os fun x => QG k x.1 x.2.1 x.2.2.1 x.2.2.2.1 x.2.2.2.2.1 x.2.2.2.2.2.1
noncomputable def QG.ctx (k : Nat) : Ctx := ⟨Try.prog, gam [(21, (QN.sem k))]⟩
theorem QG.gok (k : Nat) : ∀ f, Qw Try.prog f ((QG.ctx k).Γ f) := (Qe (QN.sem_ok k) Q0b)
def QG.ann (k : Nat) : Ann := .nil
theorem QG.body (k : Nat) : Q16 (QG.ctx k) Try.f58 (Func.code Try.f58) (QG.ann k) QG.T QG.os (fun x K => QG.c k x.1 x.2.1 x.2.2.1 x.2.2.2.1 x.2.2.2.2.1 x.2.2.2.2.2.1 K) := by
 intro ρ x K; kernel_rfl
theorem QG.sem_ok (k : Nat) : Qw Try.prog 58 (QG.sem k) :=
 Q0r (C := QG.ctx k) (QG.gok k) Try.mix (c := Func.code Try.f58) (ann := QG.ann k) (T := QG.T) (os := QG.os) (fun x K => QG.c k x.1 x.2.1 x.2.2.1 x.2.2.2.1 x.2.2.2.2.1 x.2.2.2.2.2.1 K) Try.func58 (by kernel_rfl) (by kernel_rfl) Q1.nil (QG.body k) (by kernel_rfl) (by kernel_rfl) (by kernel_rfl)
abbrev QA.τ : Type := Qej ⊕ Qel 
def QA.c (k : Nat) {ρ : Type} (b0 : Qey) (b1 : QeC) (b2 : QeG) (b3 : QeG) (b4 : Qez) (b5 : (List Int)) (K : QA.τ → Option ρ) : Option ρ :=
  (QG k ((), (b0.2.1, (b0.2.2.1, ((), ((), (b0.2.2.2.2.2.1, (b0.2.2.2.2.2.2.1, ()))))))) ((), ((), ((), (b1.2.2.2.1, ((), (b1.2.2.2.2.2.1, ())))))) b2 b3 b4 b5).bind fun t0 => bif (t0.1 != (0 : Int)) then (K (.inl (t0.1, (((), (t0.2.1.2.1, (t0.2.1.2.2.1, ((), ((), (t0.2.1.2.2.2.2.2.1, (t0.2.1.2.2.2.2.2.2.1, ()))))))), (((), ((), ((), (t0.2.2.1.2.2.2.1, ((), (t0.2.2.1.2.2.2.2.2.1, ())))))), (t0.2.2.2.1, (t0.2.2.2.2.1, (t0.2.2.2.2.2.1, (t0.2.2.2.2.2.2.1, ()))))))))) else ((Q3 k ((), ((), ((), (t0.2.2.1.2.2.2.1, ((), (t0.2.2.1.2.2.2.2.2.1, ())))))) t0.2.2.2.1 t0.2.2.2.2.1 t0.2.2.2.2.2.2.1).bind fun t1 => (match t1 with
 | .inl t2 => ((Qr k t2.1 ((), (t0.2.1.2.1, (t0.2.1.2.2.1, ((), ((), (t0.2.1.2.2.2.2.2.1, (t0.2.1.2.2.2.2.2.2.1, ()))))))) ((), ((), ((), (t2.2.1.2.2.2.1, ((), (t2.2.1.2.2.2.2.2.1, ())))))) t2.2.2.1 t2.2.2.2.1 t2.2.2.2.2.1 t0.2.2.2.2.2.1).bind fun t3 => K (.inl (t3.1, (((), (t3.2.1.2.1, (t3.2.1.2.2.1, ((), ((), (t3.2.1.2.2.2.2.2.1, (t3.2.1.2.2.2.2.2.2.1, ()))))))), (((), ((), ((), (t3.2.2.1.2.2.2.1, ((), (t3.2.2.1.2.2.2.2.2.1, ())))))), (t3.2.2.2.1, (t3.2.2.2.2.1, (t3.2.2.2.2.2.1, (t3.2.2.2.2.2.2.1, ())))))))))
 | .inr (t4) => ((QD k t4.1 ((), (t0.2.1.2.1, (t0.2.1.2.2.1, ((), ((), (t0.2.1.2.2.2.2.2.1, (t0.2.1.2.2.2.2.2.2.1, ()))))))) ((), ((), ((), (t4.2.1.2.2.2.1, ((), (t4.2.1.2.2.2.2.2.1, ())))))) t4.2.2.1 t4.2.2.2.1 t0.2.2.2.2.2.1).bind fun t5 => K (.inr (t5.1, (((), (t5.2.1.2.1, (t5.2.1.2.2.1, ((), ((), (t5.2.1.2.2.2.2.2.1, (t5.2.1.2.2.2.2.2.2.1, ()))))))), (((), ((), ((), (t5.2.2.1.2.2.2.1, ((), (t5.2.2.1.2.2.2.2.2.1, ())))))), (t5.2.2.2.1, (t5.2.2.2.2.1, (t5.2.2.2.2.2.1, ()))))))))))
def QA (k : Nat) (b0 : Qey) (b1 : QeC) (b2 : QeG) (b3 : QeG) (b4 : Qez) (b5 : (List Int)) : Option QA.τ := QA.c k b0 b1 b2 b3 b4 b5 some
def QA.T : Q13 := ⟨[.ptr 0 []], [.pair (.ptr 1 []) (.pair (.dat .str) (.pair (.dat (.int .u64)) (.pair (.nils) (.pair (.vsl 5) (.dat QeE))))), .pair (.mp 2) (.pair (.mp 3) (.pair (.vsl 4) (.pair (.dat (.int .i64)) (.pair (.nils) (.dat QeH))))), .mpd .str .str, .mpd .str .str, .vec Qex, .vec (.int .i64)], 4⟩
def QA.os : List Out := [⟨.ret, [.freeze (.slot 0), .auto 4], ⟨[.dat (.int .i64)], .pair (.ptr 1 []) (.pair (.dat .str) (.pair (.dat (.int .u64)) (.pair (.nils) (.pair (.vsl 4) (.dat QeE))))) :: .pair (.mp 2) (.pair (.mp 3) (.pair (.vsl 5) (.pair (.dat (.int .i64)) (.pair (.nils) (.dat QeH))))) :: .mpd .str .str :: .mpd .str .str :: .vec (.int .i64) :: .vec Qex :: []⟩⟩, ⟨.ret, [.freeze (.slot 0), .auto 4], ⟨[.dat (.int .i64)], [.pair (.ptr 1 []) (.pair (.dat .str) (.pair (.dat (.int .u64)) (.pair (.nils) (.pair (.vsl 4) (.dat QeE))))), .pair (.mp 2) (.pair (.mp 3) (.pair (.nils) (.pair (.dat (.int .i64)) (.pair (.nils) (.dat QeH))))), .mpd .str .str, .mpd .str .str, .vec (.int .i64)]⟩⟩]
def QA.sem (k : Nat) : QP := Q14 QA.T QA.os fun x => QA k x.1 x.2.1 x.2.2.1 x.2.2.2.1 x.2.2.2.2.1 x.2.2.2.2.2.1
noncomputable def QA.ctx (k : Nat) : Ctx := ⟨Try.prog, gam [(58, (QG.sem k)), (56, (Q3.sem k)), (59, (Q27 (Q2d Qr.T) (Qr.sem k) (QD.sem k)))]⟩
theorem QA.gok (k : Nat) : ∀ f, Qw Try.prog f ((QA.ctx k).Γ f) := (Qe (QG.sem_ok k) (Qe (Q3.sem_ok k) (Qe (Q1p (Qr.sem_ok k) (QD.sem_ok k)) Q0b)))
def QA.ann (k : Nat) : Ann := .nil
theorem QA.body (k : Nat) : Q16 (QA.ctx k) Try.f19 (Func.code Try.f19) (QA.ann k) QA.T QA.os (fun x K => QA.c k x.1 x.2.1 x.2.2.1 x.2.2.2.1 x.2.2.2.2.1 x.2.2.2.2.2.1 K) := by
 intro ρ x K; kernel_rfl
theorem QA.sem_ok (k : Nat) : Qw Try.prog 19 (QA.sem k) :=
 Q0r (C := QA.ctx k) (QA.gok k) Try.mix (c := Func.code Try.f19) (ann := QA.ann k) (T := QA.T) (os := QA.os) (fun x K => QA.c k x.1 x.2.1 x.2.2.1 x.2.2.2.1 x.2.2.2.2.1 x.2.2.2.2.2.1 K) Try.func19 (by kernel_rfl) (by kernel_rfl) Q1.nil (QA.body k) (by kernel_rfl) (by kernel_rfl) (by kernel_rfl)
abbrev Qy.τ : Type := Qei 
def Qy.c (k : Nat) {ρ : Type} (b0 : Qey) (b1 : QeC) (b2 : QeG) (b3 : QeG) (b4 : Qez) (b5 : (List ByteArray)) (b6 : (List Int)) (K : Qy.τ → Option ρ) : Option ρ :=
 K ((((List.length b5) : Nat) : Int), (((), (b0.2.1, (b0.2.2.1, ((), ((), (b0.2.2.2.2.2.1, (b0.2.2.2.2.2.2.1, ()))))))), (((), ((), ((), (b1.2.2.2.1, ((), (b1.2.2.2.2.2.1, ())))))), (b2, (b3, (b5, (b6, (b4, ()))))))))
def Qy (k : Nat) (b0 : Qey) (b1 : QeC) (b2 : QeG) (b3 : QeG) (b4 : Qez) (b5 : (List ByteArray)) (b6 : (List Int)) : Option Qy.τ := Qy.c k b0 b1 b2 b3 b4 b5 b6 some
def Qy.T : Q13 := ⟨[.ptr 0 []], [.pair (.ptr 1 []) (.pair (.dat .str) (.pair (.dat (.int .u64)) (.pair (.vsl 5) (.pair (.vsl 6) (.dat QeE))))), .pair (.mp 2) (.pair (.mp 3) (.pair (.vsl 4) (.pair (.dat (.int .i64)) (.pair (.nils) (.dat QeH))))), .mpd .str .str, .mpd .str .str, .vec Qex, .vec .str, .vec (.int .i64)], 4⟩
def Qy.os : List Out := [⟨.ret, [.freeze (.slot 0), .auto 4], ⟨[.dat (.int .i64)], .pair (.ptr 1 []) (.pair (.dat .str) (.pair (.dat (.int .u64)) (.pair (.vsl 4) (.pair (.vsl 5) (.dat QeE))))) :: .pair (.mp 2) (.pair (.mp 3) (.pair (.vsl 6) (.pair (.dat (.int .i64)) (.pair (.nils) (.dat QeH))))) :: .mpd .str .str :: .mpd .str .str :: .vec .str :: .vec (.int .i64) :: .vec Qex :: []⟩⟩]
def Qy.sem (k : Nat) : QP := Q14 Qy.T Qy.os fun x => Qy k x.1 x.2.1 x.2.2.1 x.2.2.2.1 x.2.2.2.2.1 x.2.2.2.2.2.1 x.2.2.2.2.2.2.1
noncomputable def Qy.ctx (k : Nat) : Ctx := ⟨Try.prog, gam []⟩
theorem Qy.gok (k : Nat) : ∀ f, Qw Try.prog f ((Qy.ctx k).Γ f) := Q0b
def Qy.ann (k : Nat) : Ann := .nil
theorem Qy.body (k : Nat) : Q16 (Qy.ctx k) Try.f25 (Func.code Try.f25) (Qy.ann k) Qy.T Qy.os (fun x K => Qy.c k x.1 x.2.1 x.2.2.1 x.2.2.2.1 x.2.2.2.2.1 x.2.2.2.2.2.1 x.2.2.2.2.2.2.1 K) := by
 intro ρ x K; kernel_rfl
theorem Qy.sem_ok (k : Nat) : Qw Try.prog 25 (Qy.sem k) :=
 Q0r (C := Qy.ctx k) (Qy.gok k) Try.mix (c := Func.code Try.f25) (ann := Qy.ann k) (T := Qy.T) (os := Qy.os) (fun x K => Qy.c k x.1 x.2.1 x.2.2.1 x.2.2.2.1 x.2.2.2.2.1 x.2.2.2.2.2.1 x.2.2.2.2.2.2.1 K) Try.func25 (by kernel_rfl) (by kernel_rfl) Q1.nil (Qy.body k) (by kernel_rfl) (by kernel_rfl) (by kernel_rfl)
abbrev QH.τ : Type := (ByteArray × Bool × Qey × QeC × QeG × QeG × (List ByteArray) × (List Int) × Qez × Unit)
def QH.c (k : Nat) {ρ : Type} (n : Int) (b0 : Qey) (b1 : QeC) (b2 : QeG) (b3 : QeG) (b4 : Qez) (b5 : (List ByteArray)) (b6 : (List Int)) (K : QH.τ → Option ρ) : Option ρ :=
 bif (decide (n < (0 : Int))) then (K ((⟨(List.toArray [])⟩ : ByteArray), (false, (((), (b0.2.1, (b0.2.2.1, ((), ((), (b0.2.2.2.2.2.1, (b0.2.2.2.2.2.2.1, ()))))))), (((), ((), ((), (b1.2.2.2.1, ((), (b1.2.2.2.2.2.1, ())))))), (b2, (b3, (b5, (b6, (b4, ())))))))))) else ((Qy k ((), (b0.2.1, (b0.2.2.1, ((), ((), (b0.2.2.2.2.2.1, (b0.2.2.2.2.2.2.1, ()))))))) ((), ((), ((), (b1.2.2.2.1, ((), (b1.2.2.2.2.2.1, ())))))) b2 b3 b4 b5 b6).bind fun t0 => bif (decide (n ≥ t0.1)) then (K ((⟨(List.toArray [])⟩ : ByteArray), (false, (((), (t0.2.1.2.1, (t0.2.1.2.2.1, ((), ((), (t0.2.1.2.2.2.2.2.1, (t0.2.1.2.2.2.2.2.2.1, ()))))))), (((), ((), ((), (t0.2.2.1.2.2.2.1, ((), (t0.2.2.1.2.2.2.2.2.1, ())))))), (t0.2.2.2.1, (t0.2.2.2.2.1, (t0.2.2.2.2.2.1, (t0.2.2.2.2.2.2.1, (t0.2.2.2.2.2.2.2.1, ())))))))))) else (bif (decide (((0 : Int) ≤ n) ∧ (n < (((List.length t0.2.2.2.2.2.1) : Nat) : Int)))) then (let v1 : ByteArray := (List.getD t0.2.2.2.2.2.1 (Int.toNat n) ByteArray.empty)
 K (v1, (true, (((), (t0.2.1.2.1, (t0.2.1.2.2.1, ((), ((), (t0.2.1.2.2.2.2.2.1, (t0.2.1.2.2.2.2.2.2.1, ()))))))), (((), ((), ((), (t0.2.2.1.2.2.2.1, ((), (t0.2.2.1.2.2.2.2.2.1, ())))))), (t0.2.2.2.1, (t0.2.2.2.2.1, (t0.2.2.2.2.2.1, (t0.2.2.2.2.2.2.1, (t0.2.2.2.2.2.2.2.1, ())))))))))) else (none)))
def QH (k : Nat) (n : Int) (b0 : Qey) (b1 : QeC) (b2 : QeG) (b3 : QeG) (b4 : Qez) (b5 : (List ByteArray)) (b6 : (List Int)) : Option QH.τ := QH.c k n b0 b1 b2 b3 b4 b5 b6 some
def QH.T : Q13 := ⟨[.ptr 0 [], .dat (.int .i64)], [.pair (.ptr 1 []) (.pair (.dat .str) (.pair (.dat (.int .u64)) (.pair (.vsl 5) (.pair (.vsl 6) (.dat QeE))))), .pair (.mp 2) (.pair (.mp 3) (.pair (.vsl 4) (.pair (.dat (.int .i64)) (.pair (.nils) (.dat QeH))))), .mpd .str .str, .mpd .str .str, .vec Qex, .vec .str, .vec (.int .i64)], 4⟩
def QH.os : List Out := [⟨.ret, [.freeze (.slot 0), .freeze (.slot 1), .auto 4], ⟨[.dat .str, .dat .bool], .pair (.ptr 1 []) (.pair (.dat .str) (.pair (.dat (.int .u64)) (.pair (.vsl 4) (.pair (.vsl 5) (.dat QeE))))) :: .pair (.mp 2) (.pair (.mp 3) (.pair (.vsl 6) (.pair (.dat (.int .i64)) (.pair (.nils) (.dat QeH))))) :: .mpd .str .str :: .mpd .str .str :: .vec .str :: .vec (.int .i64) :: .vec Qex :: []⟩⟩]
def QH.sem (k : Nat) : QP := Q14 QH.T QH.os fun x => QH k x.1 x.2.1 x.2.2.1 x.2.2.2.1 x.2.2.2.2.1 x.2.2.2.2.2.1 x.2.2.2.2.2.2.1 x.2.2.2.2.2.2.2.1
noncomputable def QH.ctx (k : Nat) : Ctx := ⟨Try.prog, gam [(25, (Qy.sem k))]⟩
theorem QH.gok (k : Nat) : ∀ f, Qw Try.prog f ((QH.ctx k).Γ f) := (Qe (Qy.sem_ok k) Q0b)
def QH.ann (k : Nat) : Ann := .nil
theorem QH.body (k : Nat) : Q16 (QH.ctx k) Try.f22 (Func.code Try.f22) (QH.ann k) QH.T QH.os (fun x K => QH.c k x.1 x.2.1 x.2.2.1 x.2.2.2.1 x.2.2.2.2.1 x.2.2.2.2.2.1 x.2.2.2.2.2.2.1 x.2.2.2.2.2.2.2.1 K) := by
 intro ρ x K; kernel_rfl
theorem QH.sem_ok (k : Nat) : Qw Try.prog 22 (QH.sem k) :=
 Q0r (C := QH.ctx k) (QH.gok k) Try.mix (c := Func.code Try.f22) (ann := QH.ann k) (T := QH.T) (os := QH.os) (fun x K => QH.c k x.1 x.2.1 x.2.2.1 x.2.2.2.1 x.2.2.2.2.1 x.2.2.2.2.2.1 x.2.2.2.2.2.2.1 x.2.2.2.2.2.2.2.1 K) Try.func22 (by kernel_rfl) (by kernel_rfl) Q1.nil (QH.body k) (by kernel_rfl) (by kernel_rfl) (by kernel_rfl)
abbrev QM.τ : Type := (Bool × Qey × QeC × QeG × QeG × (List ByteArray) × (List Int) × Qez × Unit)
def QM.c (k : Nat) {ρ : Type} (b0 : Qey) (b1 : QeC) (b2 : QeG) (b3 : QeG) (b4 : Qez) (b5 : (List ByteArray)) (b6 : (List Int)) (K : QM.τ → Option ρ) : Option ρ :=
 K (b0.2.2.2.2.2.2.1, (((), (b0.2.1, (b0.2.2.1, ((), ((), (b0.2.2.2.2.2.1, (b0.2.2.2.2.2.2.1, ()))))))), (((), ((), ((), (b1.2.2.2.1, ((), (b1.2.2.2.2.2.1, ())))))), (b2, (b3, (b5, (b6, (b4, ()))))))))
def QM (k : Nat) (b0 : Qey) (b1 : QeC) (b2 : QeG) (b3 : QeG) (b4 : Qez) (b5 : (List ByteArray)) (b6 : (List Int)) : Option QM.τ := QM.c k b0 b1 b2 b3 b4 b5 b6 some
def QM.T : Q13 := ⟨[.ptr 0 []], [.pair (.ptr 1 []) (.pair (.dat .str) (.pair (.dat (.int .u64)) (.pair (.vsl 5) (.pair (.vsl 6) (.dat QeE))))), .pair (.mp 2) (.pair (.mp 3) (.pair (.vsl 4) (.pair (.dat (.int .i64)) (.pair (.nils) (.dat QeH))))), .mpd .str .str, .mpd .str .str, .vec Qex, .vec .str, .vec (.int .i64)], 4⟩
def QM.os : List Out := [⟨.ret, [.freeze (.slot 0), .auto 4], ⟨[.dat .bool], .pair (.ptr 1 []) (.pair (.dat .str) (.pair (.dat (.int .u64)) (.pair (.vsl 4) (.pair (.vsl 5) (.dat QeE))))) :: .pair (.mp 2) (.pair (.mp 3) (.pair (.vsl 6) (.pair (.dat (.int .i64)) (.pair (.nils) (.dat QeH))))) :: .mpd .str .str :: .mpd .str .str :: .vec .str :: .vec (.int .i64) :: .vec Qex :: []⟩⟩]
def QM.sem (k : Nat) : QP := Q14 QM.T QM.os fun x => QM k x.1 x.2.1 x.2.2.1 x.2.2.2.1 x.2.2.2.2.1 x.2.2.2.2.2.1 x.2.2.2.2.2.2.1
noncomputable def QM.ctx (k : Nat) : Ctx := ⟨Try.prog, gam []⟩
theorem QM.gok (k : Nat) : ∀ f, Qw Try.prog f ((QM.ctx k).Γ f) := Q0b
def QM.ann (k : Nat) : Ann := .nil
theorem QM.body (k : Nat) : Q16 (QM.ctx k) Try.f21 (Func.code Try.f21) (QM.ann k) QM.T QM.os (fun x K => QM.c k x.1 x.2.1 x.2.2.1 x.2.2.2.1 x.2.2.2.2.1 x.2.2.2.2.2.1 x.2.2.2.2.2.2.1 K) := by
 intro ρ x K; kernel_rfl
theorem QM.sem_ok (k : Nat) : Qw Try.prog 21 (QM.sem k) :=
 Q0r (C := QM.ctx k) (QM.gok k) Try.mix (c := Func.code Try.f21) (ann := QM.ann k) (T := QM.T) (os := QM.os) (fun x K => QM.c k x.1 x.2.1 x.2.2.1 x.2.2.2.1 x.2.2.2.2.1 x.2.2.2.2.2.1 x.2.2.2.2.2.2.1 K) Try.func21 (by kernel_rfl) (by kernel_rfl) Q1.nil (QM.body k) (by kernel_rfl) (by kernel_rfl) (by kernel_rfl)
abbrev QI.τ : Type := Qei 
def QI.c (k : Nat) {ρ : Type} (b0 : Qey) (b1 : QeC) (b2 : QeG) (b3 : QeG) (b4 : Qez) (b5 : (List ByteArray)) (b6 : (List Int)) (K : QI.τ → Option ρ) : Option ρ :=
 (QM k ((), (b0.2.1, (b0.2.2.1, ((), ((), (b0.2.2.2.2.2.1, (b0.2.2.2.2.2.2.1, ()))))))) ((), ((), ((), (b1.2.2.2.1, ((), (b1.2.2.2.2.2.1, ())))))) b2 b3 b4 b5 b6).bind fun t0 => bif t0.1 then (K ((7 : Int), (((), (t0.2.1.2.1, (t0.2.1.2.2.1, ((), ((), (t0.2.1.2.2.2.2.2.1, (t0.2.1.2.2.2.2.2.2.1, ()))))))), (((), ((), ((), (t0.2.2.1.2.2.2.1, ((), (t0.2.2.1.2.2.2.2.2.1, ())))))), (t0.2.2.2.1, (t0.2.2.2.2.1, (t0.2.2.2.2.2.1, (t0.2.2.2.2.2.2.1, (t0.2.2.2.2.2.2.2.1, ()))))))))) else (K ((0 : Int), (((), (t0.2.1.2.1, (t0.2.1.2.2.1, ((), ((), (t0.2.1.2.2.2.2.2.1, (t0.2.1.2.2.2.2.2.2.1, ()))))))), (((), ((), ((), (t0.2.2.1.2.2.2.1, ((), (t0.2.2.1.2.2.2.2.2.1, ())))))), (t0.2.2.2.1, (t0.2.2.2.2.1, (t0.2.2.2.2.2.1, (t0.2.2.2.2.2.2.1, (t0.2.2.2.2.2.2.2.1, ())))))))))
def QI (k : Nat) (b0 : Qey) (b1 : QeC) (b2 : QeG) (b3 : QeG) (b4 : Qez) (b5 : (List ByteArray)) (b6 : (List Int)) : Option QI.τ := QI.c k b0 b1 b2 b3 b4 b5 b6 some
def QI.T : Q13 := ⟨[.ptr 0 []], [.pair (.ptr 1 []) (.pair (.dat .str) (.pair (.dat (.int .u64)) (.pair (.vsl 5) (.pair (.vsl 6) (.dat QeE))))), .pair (.mp 2) (.pair (.mp 3) (.pair (.vsl 4) (.pair (.dat (.int .i64)) (.pair (.nils) (.dat QeH))))), .mpd .str .str, .mpd .str .str, .vec Qex, .vec .str, .vec (.int .i64)], 4⟩
def QI.os : List Out := [⟨.ret, [.freeze (.slot 0), .auto 4], ⟨[.dat (.int .i64)], .pair (.ptr 1 []) (.pair (.dat .str) (.pair (.dat (.int .u64)) (.pair (.vsl 4) (.pair (.vsl 5) (.dat QeE))))) :: .pair (.mp 2) (.pair (.mp 3) (.pair (.vsl 6) (.pair (.dat (.int .i64)) (.pair (.nils) (.dat QeH))))) :: .mpd .str .str :: .mpd .str .str :: .vec .str :: .vec (.int .i64) :: .vec Qex :: []⟩⟩]
def QI.sem (k : Nat) : QP := Q14 QI.T QI.os fun x => QI k x.1 x.2.1 x.2.2.1 x.2.2.2.1 x.2.2.2.2.1 x.2.2.2.2.2.1 x.2.2.2.2.2.2.1
noncomputable def QI.ctx (k : Nat) : Ctx := ⟨Try.prog, gam [(21, (QM.sem k))]⟩
theorem QI.gok (k : Nat) : ∀ f, Qw Try.prog f ((QI.ctx k).Γ f) := (Qe (QM.sem_ok k) Q0b)
def QI.ann (k : Nat) : Ann := .nil
theorem QI.body (k : Nat) : Q16 (QI.ctx k) Try.f58 (Func.code Try.f58) (QI.ann k) QI.T QI.os (fun x K => QI.c k x.1 x.2.1 x.2.2.1 x.2.2.2.1 x.2.2.2.2.1 x.2.2.2.2.2.1 x.2.2.2.2.2.2.1 K) := by
 intro ρ x K; kernel_rfl
theorem QI.sem_ok (k : Nat) : Qw Try.prog 58 (QI.sem k) :=
 Q0r (C := QI.ctx k) (QI.gok k) Try.mix (c := Func.code Try.f58) (ann := QI.ann k) (T := QI.T) (os := QI.os) (fun x K => QI.c k x.1 x.2.1 x.2.2.1 x.2.2.2.1 x.2.2.2.2.1 x.2.2.2.2.2.1 x.2.2.2.2.2.2.1 K) Try.func58 (by kernel_rfl) (by kernel_rfl) Q1.nil (QI.body k) (by kernel_rfl) (by kernel_rfl) (by kernel_rfl)
abbrev Qt.τ : Type := Qei 
def Qt.c (k : Nat) {ρ : Type} (e : Int) (b0 : Qey) (b1 : QeC) (b2 : QeG) (b3 : QeG) (b4 : Qez) (b5 : (List ByteArray)) (b6 : (List Int)) (K : Qt.τ → Option ρ) : Option ρ :=
 bif (e == (7 : Int)) then (K (e, (((), (b0.2.1, (b0.2.2.1, ((), ((), (b0.2.2.2.2.2.1, (true, ()))))))), (((), ((), ((), (b1.2.2.2.1, ((), (b1.2.2.2.2.2.1, ())))))), (b2, (b3, (b5, (b6, (b4, ()))))))))) else (K (e, (((), (b0.2.1, (b0.2.2.1, ((), ((), (b0.2.2.2.2.2.1, (b0.2.2.2.2.2.2.1, ()))))))), (((), ((), ((), (b1.2.2.2.1, ((), (b1.2.2.2.2.2.1, ())))))), (b2, (b3, (b5, (b6, (b4, ())))))))))
def Qt (k : Nat) (e : Int) (b0 : Qey) (b1 : QeC) (b2 : QeG) (b3 : QeG) (b4 : Qez) (b5 : (List ByteArray)) (b6 : (List Int)) : Option Qt.τ := Qt.c k e b0 b1 b2 b3 b4 b5 b6 some
def Qt.T : Q13 := ⟨[.ptr 0 [], .dat (.int .i64)], [.pair (.ptr 1 []) (.pair (.dat .str) (.pair (.dat (.int .u64)) (.pair (.vsl 5) (.pair (.vsl 6) (.dat QeE))))), .pair (.mp 2) (.pair (.mp 3) (.pair (.vsl 4) (.pair (.dat (.int .i64)) (.pair (.nils) (.dat QeH))))), .mpd .str .str, .mpd .str .str, .vec Qex, .vec .str, .vec (.int .i64)], 4⟩
def Qt.os : List Out := [⟨.ret, [.freeze (.slot 0), .auto 4], ⟨[.dat (.int .i64)], .pair (.ptr 1 []) (.pair (.dat .str) (.pair (.dat (.int .u64)) (.pair (.vsl 4) (.pair (.vsl 5) (.dat QeE))))) :: .pair (.mp 2) (.pair (.mp 3) (.pair (.vsl 6) (.pair (.dat (.int .i64)) (.pair (.nils) (.dat QeH))))) :: .mpd .str .str :: .mpd .str .str :: .vec .str :: .vec (.int .i64) :: .vec Qex :: []⟩⟩]
def Qt.sem (k : Nat) : QP := Q14 Qt.T Qt.os fun x => Qt k x.1 x.2.1 x.2.2.1 x.2.2.2.1 x.2.2.2.2.1 x.2.2.2.2.2.1 x.2.2.2.2.2.2.1 x.2.2.2.2.2.2.2.1
noncomputable def Qt.ctx (k : Nat) : Ctx := ⟨Try.prog, gam []⟩
theorem Qt.gok (k : Nat) : ∀ f, Qw Try.prog f ((Qt.ctx k).Γ f) := Q0b
def Qt.ann (k : Nat) : Ann := .nil
theorem Qt.body (k : Nat) : Q16 (Qt.ctx k) Try.f59 (Func.code Try.f59) (Qt.ann k) Qt.T Qt.os (fun x K => Qt.c k x.1 x.2.1 x.2.2.1 x.2.2.2.1 x.2.2.2.2.1 x.2.2.2.2.2.1 x.2.2.2.2.2.2.1 x.2.2.2.2.2.2.2.1 K) := by
 intro ρ x K; kernel_rfl
theorem Qt.sem_ok (k : Nat) : Qw Try.prog 59 (Qt.sem k) :=
 Q0r (C := Qt.ctx k) (Qt.gok k) Try.mix (c := Func.code Try.f59) (ann := Qt.ann k) (T := Qt.T) (os := Qt.os) (fun x K => Qt.c k x.1 x.2.1 x.2.2.1 x.2.2.2.1 x.2.2.2.2.1 x.2.2.2.2.2.1 x.2.2.2.2.2.2.1 x.2.2.2.2.2.2.2.1 K) Try.func59 (by kernel_rfl) (by kernel_rfl) Q1.nil (Qt.body k) (by kernel_rfl) (by kernel_rfl) (by kernel_rfl)
abbrev Qx.τ : Type := Qei ⊕ Qek 
def Qx.c (k : Nat) {ρ : Type} (b0 : Qey) (b1 : QeC) (b2 : QeG) (b3 : QeG) (b4 : Qez) (b5 : (List ByteArray)) (b6 : (List Int)) (K : Qx.τ → Option ρ) : Option ρ :=
  (QI k ((), (b0.2.1, (b0.2.2.1, ((), ((), (b0.2.2.2.2.2.1, (b0.2.2.2.2.2.2.1, ()))))))) ((), ((), ((), (b1.2.2.2.1, ((), (b1.2.2.2.2.2.1, ())))))) b2 b3 b4 b5 b6).bind fun t0 => bif (t0.1 != (0 : Int)) then (K (.inl (t0.1, (((), (t0.2.1.2.1, (t0.2.1.2.2.1, ((), ((), (t0.2.1.2.2.2.2.2.1, (t0.2.1.2.2.2.2.2.2.1, ()))))))), (((), ((), ((), (t0.2.2.1.2.2.2.1, ((), (t0.2.2.1.2.2.2.2.2.1, ())))))), (t0.2.2.2.1, (t0.2.2.2.2.1, (t0.2.2.2.2.2.1, (t0.2.2.2.2.2.2.1, (t0.2.2.2.2.2.2.2.1, ())))))))))) else ((Q3 k ((), ((), ((), (t0.2.2.1.2.2.2.1, ((), (t0.2.2.1.2.2.2.2.2.1, ())))))) t0.2.2.2.1 t0.2.2.2.2.1 t0.2.2.2.2.2.2.2.1).bind fun t1 => (match t1 with
 | .inl t2 => ((Qt k t2.1 ((), (t0.2.1.2.1, (t0.2.1.2.2.1, ((), ((), (t0.2.1.2.2.2.2.2.1, (t0.2.1.2.2.2.2.2.2.1, ()))))))) ((), ((), ((), (t2.2.1.2.2.2.1, ((), (t2.2.1.2.2.2.2.2.1, ())))))) t2.2.2.1 t2.2.2.2.1 t2.2.2.2.2.1 t0.2.2.2.2.2.1 t0.2.2.2.2.2.2.1).bind fun t3 => K (.inl (t3.1, (((), (t3.2.1.2.1, (t3.2.1.2.2.1, ((), ((), (t3.2.1.2.2.2.2.2.1, (t3.2.1.2.2.2.2.2.2.1, ()))))))), (((), ((), ((), (t3.2.2.1.2.2.2.1, ((), (t3.2.2.1.2.2.2.2.2.1, ())))))), (t3.2.2.2.1, (t3.2.2.2.2.1, (t3.2.2.2.2.2.1, (t3.2.2.2.2.2.2.1, (t3.2.2.2.2.2.2.2.1, ()))))))))))
 | .inr (t4) => ((Qs k t4.1 ((), (t0.2.1.2.1, (t0.2.1.2.2.1, ((), ((), (t0.2.1.2.2.2.2.2.1, (t0.2.1.2.2.2.2.2.2.1, ()))))))) ((), ((), ((), (t4.2.1.2.2.2.1, ((), (t4.2.1.2.2.2.2.2.1, ())))))) t4.2.2.1 t4.2.2.2.1 t0.2.2.2.2.2.1 t0.2.2.2.2.2.2.1).bind fun t5 => K (.inr (t5.1, (((), (t5.2.1.2.1, (t5.2.1.2.2.1, ((), ((), (t5.2.1.2.2.2.2.2.1, (t5.2.1.2.2.2.2.2.2.1, ()))))))), (((), ((), ((), (t5.2.2.1.2.2.2.1, ((), (t5.2.2.1.2.2.2.2.2.1, ())))))), (t5.2.2.2.1, (t5.2.2.2.2.1, (t5.2.2.2.2.2.1, (t5.2.2.2.2.2.2.1, ())))))))))))
def Qx (k : Nat) (b0 : Qey) (b1 : QeC) (b2 : QeG) (b3 : QeG) (b4 : Qez) (b5 : (List ByteArray)) (b6 : (List Int)) : Option Qx.τ := Qx.c k b0 b1 b2 b3 b4 b5 b6 some
def Qx.T : Q13 := ⟨[.ptr 0 []], [.pair (.ptr 1 []) (.pair (.dat .str) (.pair (.dat (.int .u64)) (.pair (.vsl 5) (.pair (.vsl 6) (.dat QeE))))), .pair (.mp 2) (.pair (.mp 3) (.pair (.vsl 4) (.pair (.dat (.int .i64)) (.pair (.nils) (.dat QeH))))), .mpd .str .str, .mpd .str .str, .vec Qex, .vec .str, .vec (.int .i64)], 4⟩
def Qx.os : List Out := [⟨.ret, [.freeze (.slot 0), .auto 4], ⟨[.dat (.int .i64)], .pair (.ptr 1 []) (.pair (.dat .str) (.pair (.dat (.int .u64)) (.pair (.vsl 4) (.pair (.vsl 5) (.dat QeE))))) :: .pair (.mp 2) (.pair (.mp 3) (.pair (.vsl 6) (.pair (.dat (.int .i64)) (.pair (.nils) (.dat QeH))))) :: .mpd .str .str :: .mpd .str .str :: .vec .str :: .vec (.int .i64) :: .vec Qex :: []⟩⟩, ⟨.ret, [.freeze (.slot 0), .auto 4], ⟨[.dat (.int .i64)], .pair (.ptr 1 []) (.pair (.dat .str) (.pair (.dat (.int .u64)) (.pair (.vsl 4) (.pair (.vsl 5) (.dat QeE))))) :: .pair (.mp 2) (.pair (.mp 3) (.pair (.nils) (.pair (.dat (.int .i64)) (.pair (.nils) (.dat QeH))))) :: .mpd .str .str :: .mpd .str .str :: .vec .str :: .vec (.int .i64) :: []⟩⟩]
def Qx.sem (k : Nat) : QP := Q14 Qx.T Qx.os fun x => Qx k x.1 x.2.1 x.2.2.1 x.2.2.2.1 x.2.2.2.2.1 x.2.2.2.2.2.1 x.2.2.2.2.2.2.1
noncomputable def Qx.ctx (k : Nat) : Ctx := ⟨Try.prog, gam [(58, (QI.sem k)), (56, (Q3.sem k)), (59, (Q27 (Q2d Qt.T) (Qt.sem k) (Qs.sem k)))]⟩
theorem Qx.gok (k : Nat) : ∀ f, Qw Try.prog f ((Qx.ctx k).Γ f) := (Qe (QI.sem_ok k) (Qe (Q3.sem_ok k) (Qe (Q1p (Qt.sem_ok k) (Qs.sem_ok k)) Q0b)))
def Qx.ann (k : Nat) : Ann := .nil
theorem Qx.body (k : Nat) : Q16 (Qx.ctx k) Try.f19 (Func.code Try.f19) (Qx.ann k) Qx.T Qx.os (fun x K => Qx.c k x.1 x.2.1 x.2.2.1 x.2.2.2.1 x.2.2.2.2.1 x.2.2.2.2.2.1 x.2.2.2.2.2.2.1 K) := by
 intro ρ x K; kernel_rfl
theorem Qx.sem_ok (k : Nat) : Qw Try.prog 19 (Qx.sem k) :=
 Q0r (C := Qx.ctx k) (Qx.gok k) Try.mix (c := Func.code Try.f19) (ann := Qx.ann k) (T := Qx.T) (os := Qx.os) (fun x K => Qx.c k x.1 x.2.1 x.2.2.1 x.2.2.2.1 x.2.2.2.2.1 x.2.2.2.2.2.1 x.2.2.2.2.2.2.1 K) Try.func19 (by kernel_rfl) (by kernel_rfl) Q1.nil (Qx.body k) (by kernel_rfl) (by kernel_rfl) (by kernel_rfl)
abbrev Q0a.τ : Type := Qep 
def Q0a.c (k : Nat) {ρ : Type} (name : ByteArray) (s : ByteArray) (b0 : QeC) (b1 : QeG) (b2 : QeG) (b3 : Qez) (K : Q0a.τ → Option ρ) : Option ρ :=
 (Q0m k (List.set (List.replicate 1 ByteArray.empty) 0 name) ((), ((), ((), (b0.2.2.2.1, ((), (b0.2.2.2.2.2.1, ())))))) b1 b2 b3).bind fun t0 => bif (t0.1 != (0 : Int)) then (K (t0.1, (((), ((), ((), (t0.2.1.2.2.2.1, ((), (t0.2.1.2.2.2.2.2.1, ())))))), (t0.2.2.1, (t0.2.2.2.1, (t0.2.2.2.2.1, ())))))) else (let v1 : ByteArray := (Option.getD (mget Ty.str name t0.2.2.2.1) ByteArray.empty)
 (Q06 k name (((ByteArray.size v1) : Nat) : Int) s ((), ((), ((), (t0.2.1.2.2.2.1, ((), (t0.2.1.2.2.2.2.2.1, ())))))) t0.2.2.1 t0.2.2.2.1 t0.2.2.2.2.1).bind fun t2 => K (t2.1, (((), ((), ((), (t2.2.1.2.2.2.1, ((), (t2.2.1.2.2.2.2.2.1, ())))))), (t2.2.2.1, (t2.2.2.2.1, (t2.2.2.2.2.1, ()))))))
def Q0a (k : Nat) (name : ByteArray) (s : ByteArray) (b0 : QeC) (b1 : QeG) (b2 : QeG) (b3 : Qez) : Option Q0a.τ := Q0a.c k name s b0 b1 b2 b3 some
def Q0a.T : Q13 := ⟨[.ptr 0 [], .dat .str, .dat .str], [.pair (.mp 1) (.pair (.mp 2) (.pair (.vsl 3) (.pair (.dat (.int .i64)) (.pair (.nils) (.dat QeH))))), .mpd .str .str, .mpd .str .str, .vec Qex], 3⟩
def Q0a.os : List Out := [⟨.ret, [.freeze (.slot 0), .auto 3], ⟨[.dat (.int .i64)], [.pair (.mp 1) (.pair (.mp 2) (.pair (.vsl 3) (.pair (.dat (.int .i64)) (.pair (.nils) (.dat QeH))))), .mpd .str .str, .mpd .str .str, .vec Qex]⟩⟩]
def Q0a.sem (k : Nat) : QP := Q14 Q0a.T Q0a.os fun x => Q0a k x.1 x.2.1 x.2.2.1 x.2.2.2.1 x.2.2.2.2.1 x.2.2.2.2.2.1
noncomputable def Q0a.ctx (k : Nat) : Ctx := ⟨Try.prog, gam [(79, (Q0m.sem k)), (72, (Q06.sem k))]⟩
theorem Q0a.gok (k : Nat) : ∀ f, Qw Try.prog f ((Q0a.ctx k).Γ f) := (Qe (Q0m.sem_ok k) (Qe (Q06.sem_ok k) Q0b))
def Q0a.ann (k : Nat) : Ann := .nil
theorem Q0a.body (k : Nat) : Q16 (Q0a.ctx k) Try.f60 (Func.code Try.f60) (Q0a.ann k) Q0a.T Q0a.os (fun x K => Q0a.c k x.1 x.2.1 x.2.2.1 x.2.2.2.1 x.2.2.2.2.1 x.2.2.2.2.2.1 K) := by
 intro ρ x K; kernel_rfl
theorem Q0a.sem_ok (k : Nat) : Qw Try.prog 60 (Q0a.sem k) :=
 Q0r (C := Q0a.ctx k) (Q0a.gok k) Try.mix (c := Func.code Try.f60) (ann := Q0a.ann k) (T := Q0a.T) (os := Q0a.os) (fun x K => Q0a.c k x.1 x.2.1 x.2.2.1 x.2.2.2.1 x.2.2.2.2.1 x.2.2.2.2.2.1 K) Try.func60 (by kernel_rfl) (by kernel_rfl) Q1.nil (Q0a.body k) (by kernel_rfl) (by kernel_rfl) (by kernel_rfl)
abbrev QR.τ : Type := Qej ⊕ Qei 
def QR.c (k : Nat) {ρ : Type} (s : ByteArray) (b0 : Qey) (b1 : QeC) (b2 : QeG) (b3 : QeG) (b4 : Qez) (b5 : (List Int)) (K : QR.τ → Option ρ) : Option ρ :=
 (QG k ((), (b0.2.1, (b0.2.2.1, ((), ((), (b0.2.2.2.2.2.1, (b0.2.2.2.2.2.2.1, ()))))))) ((), ((), ((), (b1.2.2.2.1, ((), (b1.2.2.2.2.2.1, ())))))) b2 b3 b4 b5).bind fun t0 => bif (t0.1 != (0 : Int)) then (K (.inl (t0.1, (((), (t0.2.1.2.1, (t0.2.1.2.2.1, ((), ((), (t0.2.1.2.2.2.2.2.1, (t0.2.1.2.2.2.2.2.2.1, ()))))))), (((), ((), ((), (t0.2.2.1.2.2.2.1, ((), (t0.2.2.1.2.2.2.2.2.1, ())))))), (t0.2.2.2.1, (t0.2.2.2.2.1, (t0.2.2.2.2.2.1, (t0.2.2.2.2.2.2.1, ()))))))))) else (let v1 : Int := t0.2.1.2.2.1
 (Q05 k v1 (IntKind.wrap IntKind.u64 (0 : Int)) s).bind fun t2 => let v3 : ByteArray := t2.1
 let v4 : Int := t2.2.1
 bif (v4 != (0 : Int)) then (K (.inl (v4, (((), (t0.2.1.2.1, (t0.2.1.2.2.1, ((), ((), (t0.2.1.2.2.2.2.2.1, (t0.2.1.2.2.2.2.2.2.1, ()))))))), (((), ((), ((), (t0.2.2.1.2.2.2.1, ((), (t0.2.2.1.2.2.2.2.2.1, ())))))), (t0.2.2.2.1, (t0.2.2.2.2.1, (t0.2.2.2.2.2.1, (t0.2.2.2.2.2.2.1, ()))))))))) else (let v5 : ByteArray := t0.2.1.2.1
 (Q0a k v5 v3 ((), ((), ((), (t0.2.2.1.2.2.2.1, ((), (t0.2.2.1.2.2.2.2.2.1, ())))))) t0.2.2.2.1 t0.2.2.2.2.1 t0.2.2.2.2.2.2.1).bind fun t6 => (Qr k t6.1 ((), (t0.2.1.2.1, (t0.2.1.2.2.1, ((), ((), (t0.2.1.2.2.2.2.2.1, (t0.2.1.2.2.2.2.2.2.1, ()))))))) ((), ((), ((), (t6.2.1.2.2.2.1, ((), (t6.2.1.2.2.2.2.2.1, ())))))) t6.2.2.1 t6.2.2.2.1 t6.2.2.2.2.1 t0.2.2.2.2.2.1).bind fun t7 => bif (t7.1 != (0 : Int)) then (K (.inl (t7.1, (((), (t7.2.1.2.1, (t7.2.1.2.2.1, ((), ((), (t7.2.1.2.2.2.2.2.1, (t7.2.1.2.2.2.2.2.2.1, ()))))))), (((), ((), ((), (t7.2.2.1.2.2.2.1, ((), (t7.2.2.1.2.2.2.2.2.1, ())))))), (t7.2.2.2.1, (t7.2.2.2.2.1, (t7.2.2.2.2.2.1, (t7.2.2.2.2.2.2.1, ()))))))))) else (bif (Nat.ble ((List.length (List.set (List.replicate 1 ByteArray.empty) 0 s)) * 16) 140737488355328) then ((Qk k ((), (t7.2.1.2.1, (t7.2.1.2.2.1, ((), ((), (t7.2.1.2.2.2.2.2.1, (t7.2.1.2.2.2.2.2.2.1, ()))))))) ((), ((), ((), (t7.2.2.1.2.2.2.1, ((), (t7.2.2.1.2.2.2.2.2.1, ())))))) t7.2.2.2.1 t7.2.2.2.2.1 t7.2.2.2.2.2.2.1 t7.2.2.2.2.2.1).bind fun t8 => let v9 : Int := (IntKind.wrap IntKind.i64 (t8.1 + (((ByteArray.size v3) : Nat) : Int)))
 bif (Nat.ble (((List.length t7.2.2.2.2.2.1) + (List.length (List.set (List.replicate 1 (0 : Int)) 0 v9))) * 8) 140737488355328) then (K (.inr ((0 : Int), (((), (t7.2.1.2.1, (t7.2.1.2.2.1, ((), ((), (t7.2.1.2.2.2.2.2.1, (t7.2.1.2.2.2.2.2.2.1, ()))))))), (((), ((), ((), (t7.2.2.1.2.2.2.1, ((), (t7.2.2.1.2.2.2.2.2.1, ())))))), (t7.2.2.2.1, (t7.2.2.2.2.1, ((List.set (List.replicate 1 ByteArray.empty) 0 s), ((t7.2.2.2.2.2.1 ++ (List.set (List.replicate 1 (0 : Int)) 0 v9)), (t7.2.2.2.2.2.2.1, ())))))))))) else (none)) else (none))))
def QR (k : Nat) (s : ByteArray) (b0 : Qey) (b1 : QeC) (b2 : QeG) (b3 : QeG) (b4 : Qez) (b5 : (List Int)) : Option QR.τ := QR.c k s b0 b1 b2 b3 b4 b5 some
def QR.T : Q13 := ⟨[.ptr 0 [], .dat .str], [.pair (.ptr 1 []) (.pair (.dat .str) (.pair (.dat (.int .u64)) (.pair (.nils) (.pair (.vsl 5) (.dat QeE))))), .pair (.mp 2) (.pair (.mp 3) (.pair (.vsl 4) (.pair (.dat (.int .i64)) (.pair (.nils) (.dat QeH))))), .mpd .str .str, .mpd .str .str, .vec Qex, .vec (.int .i64)], 4⟩
def QR.os : List Out := [⟨.ret, [.freeze (.slot 0), .auto 4], ⟨[.dat (.int .i64)], .pair (.ptr 1 []) (.pair (.dat .str) (.pair (.dat (.int .u64)) (.pair (.nils) (.pair (.vsl 4) (.dat QeE))))) :: .pair (.mp 2) (.pair (.mp 3) (.pair (.vsl 5) (.pair (.dat (.int .i64)) (.pair (.nils) (.dat QeH))))) :: .mpd .str .str :: .mpd .str .str :: .vec (.int .i64) :: .vec Qex :: []⟩⟩, ⟨.ret, [.freeze (.slot 0), .auto 4], ⟨[.dat (.int .i64)], .pair (.ptr 1 []) (.pair (.dat .str) (.pair (.dat (.int .u64)) (.pair (.vsl 4) (.pair (.vsl 5) (.dat QeE))))) :: .pair (.mp 2) (.pair (.mp 3) (.pair (.vsl 6) (.pair (.dat (.int .i64)) (.pair (.nils) (.dat QeH))))) :: .mpd .str .str :: .mpd .str .str :: .vec .str :: .vec (.int .i64) :: .vec Qex :: []⟩⟩]
def QR.sem (k : Nat) : QP := Q14 QR.T QR.os fun x => QR k x.1 x.2.1 x.2.2.1 x.2.2.2.1 x.2.2.2.2.1 x.2.2.2.2.2.1 x.2.2.2.2.2.2.1
noncomputable def QR.ctx (k : Nat) : Ctx := ⟨Try.prog, gam [(58, (QG.sem k)), (7, (Q05.sem k)), (60, (Q0a.sem k)), (59, (Qr.sem k)), (28, (Qk.rsem k))]⟩
theorem QR.gok (k : Nat) : ∀ f, Qw Try.prog f ((QR.ctx k).Γ f) := (Qe (QG.sem_ok k) (Qe (Q05.sem_ok k) (Qe (Q0a.sem_ok k) (Qe (Qr.sem_ok k) (Qe (Qk.rsem_ok k) Q0b)))))
def QR.ann (k : Nat) : Ann := .nil
theorem QR.body (k : Nat) : Q16 (QR.ctx k) Try.f18 (Func.code Try.f18) (QR.ann k) QR.T QR.os (fun x K => QR.c k x.1 x.2.1 x.2.2.1 x.2.2.2.1 x.2.2.2.2.1 x.2.2.2.2.2.1 x.2.2.2.2.2.2.1 K) := by
 intro ρ x K; kernel_rfl
theorem QR.sem_ok (k : Nat) : Qw Try.prog 18 (QR.sem k) :=
 Q0r (C := QR.ctx k) (QR.gok k) Try.mix (c := Func.code Try.f18) (ann := QR.ann k) (T := QR.T) (os := QR.os) (fun x K => QR.c k x.1 x.2.1 x.2.2.1 x.2.2.2.1 x.2.2.2.2.1 x.2.2.2.2.2.1 x.2.2.2.2.2.2.1 K) Try.func18 (by kernel_rfl) (by kernel_rfl) Q1.nil (QR.body k) (by kernel_rfl) (by kernel_rfl) (by kernel_rfl)
abbrev QQ.τ : Type := Qek ⊕ Qei 
def QQ.c (k : Nat) {ρ : Type} (s : ByteArray) (b0 : Qey) (b1 : QeC) (b2 : QeG) (b3 : QeG) (b4 : (List ByteArray)) (b5 : (List Int)) (K : QQ.τ → Option ρ) : Option ρ :=
  (QF k ((), (b0.2.1, (b0.2.2.1, ((), ((), (b0.2.2.2.2.2.1, (b0.2.2.2.2.2.2.1, ()))))))) ((), ((), ((), (b1.2.2.2.1, ((), (b1.2.2.2.2.2.1, ())))))) b2 b3 b4 b5).bind fun t0 => bif (t0.1 != (0 : Int)) then (K (.inl (t0.1, (((), (t0.2.1.2.1, (t0.2.1.2.2.1, ((), ((), (t0.2.1.2.2.2.2.2.1, (t0.2.1.2.2.2.2.2.2.1, ()))))))), (((), ((), ((), (t0.2.2.1.2.2.2.1, ((), (t0.2.2.1.2.2.2.2.2.1, ())))))), (t0.2.2.2.1, (t0.2.2.2.2.1, (t0.2.2.2.2.2.1, (t0.2.2.2.2.2.2.1, ()))))))))) else (let v1 : Int := t0.2.1.2.2.1
  let v2 : Int := (((List.length t0.2.2.2.2.2.1) : Nat) : Int)
  (Q05 k v1 (IntKind.wrap IntKind.u64 v2) s).bind fun t3 => let v4 : ByteArray := t3.1
  let v5 : Int := t3.2.1
  bif (v5 != (0 : Int)) then (K (.inl (v5, (((), (t0.2.1.2.1, (t0.2.1.2.2.1, ((), ((), (t0.2.1.2.2.2.2.2.1, (t0.2.1.2.2.2.2.2.2.1, ()))))))), (((), ((), ((), (t0.2.2.1.2.2.2.1, ((), (t0.2.2.1.2.2.2.2.2.1, ())))))), (t0.2.2.2.1, (t0.2.2.2.2.1, (t0.2.2.2.2.2.1, (t0.2.2.2.2.2.2.1, ()))))))))) else (let v6 : ByteArray := t0.2.1.2.1
  (Q0o k v6 v4 ((), ((), ((), (t0.2.2.1.2.2.2.1, ((), (t0.2.2.1.2.2.2.2.2.1, ())))))) t0.2.2.2.1 t0.2.2.2.2.1).bind fun t7 => (match t7 with
 | .inl t8 => ((Qs k t8.1 ((), (t0.2.1.2.1, (t0.2.1.2.2.1, ((), ((), (t0.2.1.2.2.2.2.2.1, (t0.2.1.2.2.2.2.2.2.1, ()))))))) ((), ((), ((), (t8.2.1.2.2.2.1, ((), (t8.2.1.2.2.2.2.2.1, ())))))) t8.2.2.1 t8.2.2.2.1 t0.2.2.2.2.2.1 t0.2.2.2.2.2.2.1).bind fun t9 => bif (t9.1 != (0 : Int)) then (K (.inl (t9.1, (((), (t9.2.1.2.1, (t9.2.1.2.2.1, ((), ((), (t9.2.1.2.2.2.2.2.1, (t9.2.1.2.2.2.2.2.2.1, ()))))))), (((), ((), ((), (t9.2.2.1.2.2.2.1, ((), (t9.2.2.1.2.2.2.2.2.1, ())))))), (t9.2.2.2.1, (t9.2.2.2.2.1, (t9.2.2.2.2.2.1, (t9.2.2.2.2.2.2.1, ()))))))))) else (bif (Nat.ble (((List.length t9.2.2.2.2.2.1) + (List.length (List.set (List.replicate 1 ByteArray.empty) 0 s))) * 16) 140737488355328) then (none) else (none)))
 | .inr (t10) => ((Qt k t10.1 ((), (t0.2.1.2.1, (t0.2.1.2.2.1, ((), ((), (t0.2.1.2.2.2.2.2.1, (t0.2.1.2.2.2.2.2.2.1, ()))))))) ((), ((), ((), (t10.2.1.2.2.2.1, ((), (t10.2.1.2.2.2.2.2.1, ())))))) t10.2.2.1 t10.2.2.2.1 t10.2.2.2.2.1 t0.2.2.2.2.2.1 t0.2.2.2.2.2.2.1).bind fun t11 => bif (t11.1 != (0 : Int)) then (K (.inr (t11.1, (((), (t11.2.1.2.1, (t11.2.1.2.2.1, ((), ((), (t11.2.1.2.2.2.2.2.1, (t11.2.1.2.2.2.2.2.2.1, ()))))))), (((), ((), ((), (t11.2.2.1.2.2.2.1, ((), (t11.2.2.1.2.2.2.2.2.1, ())))))), (t11.2.2.2.1, (t11.2.2.2.2.1, (t11.2.2.2.2.2.1, (t11.2.2.2.2.2.2.1, (t11.2.2.2.2.2.2.2.1, ())))))))))) else (bif (Nat.ble (((List.length t11.2.2.2.2.2.1) + (List.length (List.set (List.replicate 1 ByteArray.empty) 0 s))) * 16) 140737488355328) then (none) else (none))))))
def QQ (k : Nat) (s : ByteArray) (b0 : Qey) (b1 : QeC) (b2 : QeG) (b3 : QeG) (b4 : (List ByteArray)) (b5 : (List Int)) : Option QQ.τ := QQ.c k s b0 b1 b2 b3 b4 b5 some
def QQ.T : Q13 := ⟨[.ptr 0 [], .dat .str], [.pair (.ptr 1 []) (.pair (.dat .str) (.pair (.dat (.int .u64)) (.pair (.vsl 4) (.pair (.vsl 5) (.dat QeE))))), .pair (.mp 2) (.pair (.mp 3) (.pair (.nils) (.pair (.dat (.int .i64)) (.pair (.nils) (.dat QeH))))), .mpd .str .str, .mpd .str .str, .vec .str, .vec (.int .i64)], 4⟩
def QQ.os : List Out := [⟨.ret, [.freeze (.slot 0), .auto 4], ⟨[.dat (.int .i64)], .pair (.ptr 1 []) (.pair (.dat .str) (.pair (.dat (.int .u64)) (.pair (.vsl 4) (.pair (.vsl 5) (.dat QeE))))) :: .pair (.mp 2) (.pair (.mp 3) (.pair (.nils) (.pair (.dat (.int .i64)) (.pair (.nils) (.dat QeH))))) :: .mpd .str .str :: .mpd .str .str :: .vec .str :: .vec (.int .i64) :: []⟩⟩, ⟨.ret, [.freeze (.slot 0), .auto 4], ⟨[.dat (.int .i64)], .pair (.ptr 1 []) (.pair (.dat .str) (.pair (.dat (.int .u64)) (.pair (.vsl 4) (.pair (.vsl 5) (.dat QeE))))) :: .pair (.mp 2) (.pair (.mp 3) (.pair (.vsl 6) (.pair (.dat (.int .i64)) (.pair (.nils) (.dat QeH))))) :: .mpd .str .str :: .mpd .str .str :: .vec .str :: .vec (.int .i64) :: .vec Qex :: []⟩⟩]
def QQ.sem (k : Nat) : QP := Q14 QQ.T QQ.os fun x => QQ k x.1 x.2.1 x.2.2.1 x.2.2.2.1 x.2.2.2.2.1 x.2.2.2.2.2.1 x.2.2.2.2.2.2.1
noncomputable def QQ.ctx (k : Nat) : Ctx := ⟨Try.prog, gam [(58, (QF.sem k)), (7, (Q05.sem k)), (60, (Q0o.sem k)), (59, (Q27 (Q2d Qs.T) (Qs.sem k) (Qt.sem k)))]⟩
theorem QQ.gok (k : Nat) : ∀ f, Qw Try.prog f ((QQ.ctx k).Γ f) := (Qe (QF.sem_ok k) (Qe (Q05.sem_ok k) (Qe (Q0o.sem_ok k) (Qe (Q1p (Qs.sem_ok k) (Qt.sem_ok k)) Q0b))))
def QQ.ann (k : Nat) : Ann := .nil
theorem QQ.body (k : Nat) : Q16 (QQ.ctx k) Try.f18 (Func.code Try.f18) (QQ.ann k) QQ.T QQ.os (fun x K => QQ.c k x.1 x.2.1 x.2.2.1 x.2.2.2.1 x.2.2.2.2.1 x.2.2.2.2.2.1 x.2.2.2.2.2.2.1 K) := by
 intro ρ x K; kernel_rfl
theorem QQ.sem_ok (k : Nat) : Qw Try.prog 18 (QQ.sem k) :=
 Q0r (C := QQ.ctx k) (QQ.gok k) Try.mix (c := Func.code Try.f18) (ann := QQ.ann k) (T := QQ.T) (os := QQ.os) (fun x K => QQ.c k x.1 x.2.1 x.2.2.1 x.2.2.2.1 x.2.2.2.2.1 x.2.2.2.2.2.1 x.2.2.2.2.2.2.1 K) Try.func18 (by kernel_rfl) (by kernel_rfl) Q1.nil (QQ.body k) (by kernel_rfl) (by kernel_rfl) (by kernel_rfl)
abbrev QV.τ : Type := Qei 
def QV.c (k : Nat) {ρ : Type} (s : ByteArray) (b0 : Qey) (b1 : QeC) (b2 : QeG) (b3 : QeG) (b4 : Qez) (b5 : (List ByteArray)) (b6 : (List Int)) (K : QV.τ → Option ρ) : Option ρ :=
 (QI k ((), (b0.2.1, (b0.2.2.1, ((), ((), (b0.2.2.2.2.2.1, (b0.2.2.2.2.2.2.1, ()))))))) ((), ((), ((), (b1.2.2.2.1, ((), (b1.2.2.2.2.2.1, ())))))) b2 b3 b4 b5 b6).bind fun t0 => bif (t0.1 != (0 : Int)) then (K (t0.1, (((), (t0.2.1.2.1, (t0.2.1.2.2.1, ((), ((), (t0.2.1.2.2.2.2.2.1, (t0.2.1.2.2.2.2.2.2.1, ()))))))), (((), ((), ((), (t0.2.2.1.2.2.2.1, ((), (t0.2.2.1.2.2.2.2.2.1, ())))))), (t0.2.2.2.1, (t0.2.2.2.2.1, (t0.2.2.2.2.2.1, (t0.2.2.2.2.2.2.1, (t0.2.2.2.2.2.2.2.1, ()))))))))) else (let v1 : Int := t0.2.1.2.2.1
 let v2 : Int := (((List.length t0.2.2.2.2.2.1) : Nat) : Int)
 (Q05 k v1 (IntKind.wrap IntKind.u64 v2) s).bind fun t3 => let v4 : ByteArray := t3.1
 let v5 : Int := t3.2.1
 bif (v5 != (0 : Int)) then (K (v5, (((), (t0.2.1.2.1, (t0.2.1.2.2.1, ((), ((), (t0.2.1.2.2.2.2.2.1, (t0.2.1.2.2.2.2.2.2.1, ()))))))), (((), ((), ((), (t0.2.2.1.2.2.2.1, ((), (t0.2.2.1.2.2.2.2.2.1, ())))))), (t0.2.2.2.1, (t0.2.2.2.2.1, (t0.2.2.2.2.2.1, (t0.2.2.2.2.2.2.1, (t0.2.2.2.2.2.2.2.1, ()))))))))) else (let v6 : ByteArray := t0.2.1.2.1
 (Q0a k v6 v4 ((), ((), ((), (t0.2.2.1.2.2.2.1, ((), (t0.2.2.1.2.2.2.2.2.1, ())))))) t0.2.2.2.1 t0.2.2.2.2.1 t0.2.2.2.2.2.2.2.1).bind fun t7 => (Qt k t7.1 ((), (t0.2.1.2.1, (t0.2.1.2.2.1, ((), ((), (t0.2.1.2.2.2.2.2.1, (t0.2.1.2.2.2.2.2.2.1, ()))))))) ((), ((), ((), (t7.2.1.2.2.2.1, ((), (t7.2.1.2.2.2.2.2.1, ())))))) t7.2.2.1 t7.2.2.2.1 t7.2.2.2.2.1 t0.2.2.2.2.2.1 t0.2.2.2.2.2.2.1).bind fun t8 => bif (t8.1 != (0 : Int)) then (K (t8.1, (((), (t8.2.1.2.1, (t8.2.1.2.2.1, ((), ((), (t8.2.1.2.2.2.2.2.1, (t8.2.1.2.2.2.2.2.2.1, ()))))))), (((), ((), ((), (t8.2.2.1.2.2.2.1, ((), (t8.2.2.1.2.2.2.2.2.1, ())))))), (t8.2.2.2.1, (t8.2.2.2.2.1, (t8.2.2.2.2.2.1, (t8.2.2.2.2.2.2.1, (t8.2.2.2.2.2.2.2.1, ()))))))))) else (bif (Nat.ble (((List.length t8.2.2.2.2.2.1) + (List.length (List.set (List.replicate 1 ByteArray.empty) 0 s))) * 16) 140737488355328) then (none) else (none))))
def QV (k : Nat) (s : ByteArray) (b0 : Qey) (b1 : QeC) (b2 : QeG) (b3 : QeG) (b4 : Qez) (b5 : (List ByteArray)) (b6 : (List Int)) : Option QV.τ := QV.c k s b0 b1 b2 b3 b4 b5 b6 some
def QV.T : Q13 := ⟨[.ptr 0 [], .dat .str], [.pair (.ptr 1 []) (.pair (.dat .str) (.pair (.dat (.int .u64)) (.pair (.vsl 5) (.pair (.vsl 6) (.dat QeE))))), .pair (.mp 2) (.pair (.mp 3) (.pair (.vsl 4) (.pair (.dat (.int .i64)) (.pair (.nils) (.dat QeH))))), .mpd .str .str, .mpd .str .str, .vec Qex, .vec .str, .vec (.int .i64)], 4⟩
def QV.os : List Out := [⟨.ret, [.freeze (.slot 0), .auto 4], ⟨[.dat (.int .i64)], .pair (.ptr 1 []) (.pair (.dat .str) (.pair (.dat (.int .u64)) (.pair (.vsl 4) (.pair (.vsl 5) (.dat QeE))))) :: .pair (.mp 2) (.pair (.mp 3) (.pair (.vsl 6) (.pair (.dat (.int .i64)) (.pair (.nils) (.dat QeH))))) :: .mpd .str .str :: .mpd .str .str :: .vec .str :: .vec (.int .i64) :: .vec Qex :: []⟩⟩]
def QV.sem (k : Nat) : QP := Q14 QV.T QV.os fun x => QV k x.1 x.2.1 x.2.2.1 x.2.2.2.1 x.2.2.2.2.1 x.2.2.2.2.2.1 x.2.2.2.2.2.2.1 x.2.2.2.2.2.2.2.1
noncomputable def QV.ctx (k : Nat) : Ctx := ⟨Try.prog, gam [(58, (QI.sem k)), (7, (Q05.sem k)), (60, (Q0a.sem k)), (59, (Qt.sem k))]⟩
theorem QV.gok (k : Nat) : ∀ f, Qw Try.prog f ((QV.ctx k).Γ f) := (Qe (QI.sem_ok k) (Qe (Q05.sem_ok k) (Qe (Q0a.sem_ok k) (Qe (Qt.sem_ok k) Q0b))))
def QV.ann (k : Nat) : Ann := .nil
theorem QV.body (k : Nat) : Q16 (QV.ctx k) Try.f18 (Func.code Try.f18) (QV.ann k) QV.T QV.os (fun x K => QV.c k x.1 x.2.1 x.2.2.1 x.2.2.2.1 x.2.2.2.2.1 x.2.2.2.2.2.1 x.2.2.2.2.2.2.1 x.2.2.2.2.2.2.2.1 K) := by
 intro ρ x K; kernel_rfl
theorem QV.sem_ok (k : Nat) : Qw Try.prog 18 (QV.sem k) :=
 Q0r (C := QV.ctx k) (QV.gok k) Try.mix (c := Func.code Try.f18) (ann := QV.ann k) (T := QV.T) (os := QV.os) (fun x K => QV.c k x.1 x.2.1 x.2.2.1 x.2.2.2.1 x.2.2.2.2.1 x.2.2.2.2.2.1 x.2.2.2.2.2.2.1 x.2.2.2.2.2.2.2.1 K) Try.func18 (by kernel_rfl) (by kernel_rfl) Q1.nil (QV.body k) (by kernel_rfl) (by kernel_rfl) (by kernel_rfl)
def Q0j.c (k : Nat) {ρ : Type}  (K : Bool × Unit → Option ρ) : Option ρ :=
  (Q19 k ).bind fun t0 => (Q4 k (⟨(List.toArray [106])⟩ : ByteArray) ((), ((), ((), (t0.1.2.2.2.1, ((), (t0.1.2.2.2.2.2.1, ())))))) t0.2.1 t0.2.2.1).bind fun t1 => (match t1 with
 | .inl t2 => (let v3 : Int := t2.1
  bif (v3 != (0 : Int)) then (K (false, ())) else (K (false, ())))
 | .inr (.inl t4) => (let v5 : Int := t4.1
  bif (v5 != (0 : Int)) then (K (false, ())) else ((Q09 k (⟨(List.toArray [97, 98, 99])⟩ : ByteArray) ((), (t4.2.2.2.2.1.2.1, (t4.2.2.2.2.1.2.2.1, ((), ((), (t4.2.2.2.2.1.2.2.2.2.2.1, (t4.2.2.2.2.1.2.2.2.2.2.2.1, ()))))))) ((), ((), ((), (t4.2.1.2.2.2.1, ((), (t4.2.1.2.2.2.2.2.1, ())))))) t4.2.2.1 t4.2.2.2.1 t4.2.2.2.2.2.1).bind fun t6 => (match t6 with
 | .inl t7 => (bif (t7.1 != (0 : Int)) then (K (false, ())) else ((Q08 k (0 : Int) ((), (t7.2.1.2.1, (t7.2.1.2.2.1, ((), ((), (t7.2.1.2.2.2.2.2.1, (t7.2.1.2.2.2.2.2.2.1, ()))))))) ((), ((), ((), (t7.2.2.1.2.2.2.1, ((), (t7.2.2.1.2.2.2.2.2.1, ())))))) t7.2.2.2.1 t7.2.2.2.2.1 t7.2.2.2.2.2.1).bind fun t8 => let v9 : ByteArray := t8.1
  bif (Q1J v9 (⟨(List.toArray [97, 98, 99])⟩ : ByteArray)) then (bif t8.2.1 then ((QU k ((), (t8.2.2.1.2.1, (t8.2.2.1.2.2.1, ((), ((), (t8.2.2.1.2.2.2.2.2.1, (t8.2.2.1.2.2.2.2.2.2.1, ()))))))) ((), ((), ((), (t8.2.2.2.1.2.2.2.1, ((), (t8.2.2.2.1.2.2.2.2.2.1, ())))))) t8.2.2.2.2.1 t8.2.2.2.2.2.1 t8.2.2.2.2.2.2.1).bind fun t10 => bif (t10.1 == (1 : Int)) then ((QS k ((), (t10.2.1.2.1, (t10.2.1.2.2.1, ((), ((), (t10.2.1.2.2.2.2.2.1, (t10.2.1.2.2.2.2.2.2.1, ()))))))) ((), ((), ((), (t10.2.2.1.2.2.2.1, ((), (t10.2.2.1.2.2.2.2.2.1, ())))))) t10.2.2.2.1 t10.2.2.2.2.1 t10.2.2.2.2.2.1).bind fun t11 => K ((t11.1 == (0 : Int)), ())) else (K (false, ()))) else (K (false, ()))) else (K (false, ()))))
 | .inr (.inl t12) => (bif (t12.1 != (0 : Int)) then (K (false, ())) else ((QL k (0 : Int) ((), (t12.2.1.2.1, (t12.2.1.2.2.1, ((), ((), (t12.2.1.2.2.2.2.2.1, (t12.2.1.2.2.2.2.2.2.1, ()))))))) ((), ((), ((), (t12.2.2.1.2.2.2.1, ((), (t12.2.2.1.2.2.2.2.2.1, ())))))) t12.2.2.2.1 t12.2.2.2.2.1 t12.2.2.2.2.2.1 t12.2.2.2.2.2.2.1).bind fun t13 => let v14 : ByteArray := t13.1
  bif (Q1J v14 (⟨(List.toArray [97, 98, 99])⟩ : ByteArray)) then (bif t13.2.1 then ((QC k ((), (t13.2.2.1.2.1, (t13.2.2.1.2.2.1, ((), ((), (t13.2.2.1.2.2.2.2.2.1, (t13.2.2.1.2.2.2.2.2.2.1, ()))))))) ((), ((), ((), (t13.2.2.2.1.2.2.2.1, ((), (t13.2.2.2.1.2.2.2.2.2.1, ())))))) t13.2.2.2.2.1 t13.2.2.2.2.2.1 t13.2.2.2.2.2.2.1 t13.2.2.2.2.2.2.2.1).bind fun t15 => bif (t15.1 == (1 : Int)) then ((Qz k ((), (t15.2.1.2.1, (t15.2.1.2.2.1, ((), ((), (t15.2.1.2.2.2.2.2.1, (t15.2.1.2.2.2.2.2.2.1, ()))))))) ((), ((), ((), (t15.2.2.1.2.2.2.1, ((), (t15.2.2.1.2.2.2.2.2.1, ())))))) t15.2.2.2.1 t15.2.2.2.2.1 t15.2.2.2.2.2.1 t15.2.2.2.2.2.2.1).bind fun t16 => K ((t16.1 == (0 : Int)), ())) else (K (false, ()))) else (K (false, ()))) else (K (false, ()))))
 | .inr (.inr (.inl t17)) => (bif (t17.1 != (0 : Int)) then (K (false, ())) else ((QK k (0 : Int) ((), (t17.2.1.2.1, (t17.2.1.2.2.1, ((), ((), (t17.2.1.2.2.2.2.2.1, (t17.2.1.2.2.2.2.2.2.1, ()))))))) ((), ((), ((), (t17.2.2.1.2.2.2.1, ((), (t17.2.2.1.2.2.2.2.2.1, ())))))) t17.2.2.2.1 t17.2.2.2.2.1 t17.2.2.2.2.2.2.1 t17.2.2.2.2.2.1).bind fun t18 => let v19 : ByteArray := t18.1
  bif (Q1J v19 (⟨(List.toArray [97, 98, 99])⟩ : ByteArray)) then (bif t18.2.1 then ((QB k ((), (t18.2.2.1.2.1, (t18.2.2.1.2.2.1, ((), ((), (t18.2.2.1.2.2.2.2.2.1, (t18.2.2.1.2.2.2.2.2.2.1, ()))))))) ((), ((), ((), (t18.2.2.2.1.2.2.2.1, ((), (t18.2.2.2.1.2.2.2.2.2.1, ())))))) t18.2.2.2.2.1 t18.2.2.2.2.2.1 t18.2.2.2.2.2.2.2.1 t18.2.2.2.2.2.2.1).bind fun t20 => bif (t20.1 == (1 : Int)) then ((QA k ((), (t20.2.1.2.1, (t20.2.1.2.2.1, ((), ((), (t20.2.1.2.2.2.2.2.1, (t20.2.1.2.2.2.2.2.2.1, ()))))))) ((), ((), ((), (t20.2.2.1.2.2.2.1, ((), (t20.2.2.1.2.2.2.2.2.1, ())))))) t20.2.2.2.1 t20.2.2.2.2.1 t20.2.2.2.2.2.2.1 t20.2.2.2.2.2.1).bind fun t21 => (match t21 with
 | .inl t22 => (K ((t22.1 == (0 : Int)), ()))
 | .inr (t23) => (K ((t23.1 == (0 : Int)), ())))) else (K (false, ()))) else (K (false, ()))) else (K (false, ()))))
 | .inr (.inr (.inr (t24))) => (bif (t24.1 != (0 : Int)) then (K (false, ())) else ((QH k (0 : Int) ((), (t24.2.1.2.1, (t24.2.1.2.2.1, ((), ((), (t24.2.1.2.2.2.2.2.1, (t24.2.1.2.2.2.2.2.2.1, ()))))))) ((), ((), ((), (t24.2.2.1.2.2.2.1, ((), (t24.2.2.1.2.2.2.2.2.1, ())))))) t24.2.2.2.1 t24.2.2.2.2.1 t24.2.2.2.2.2.2.2.1 t24.2.2.2.2.2.1 t24.2.2.2.2.2.2.1).bind fun t25 => let v26 : ByteArray := t25.1
  bif (Q1J v26 (⟨(List.toArray [97, 98, 99])⟩ : ByteArray)) then (bif t25.2.1 then ((Qy k ((), (t25.2.2.1.2.1, (t25.2.2.1.2.2.1, ((), ((), (t25.2.2.1.2.2.2.2.2.1, (t25.2.2.1.2.2.2.2.2.2.1, ()))))))) ((), ((), ((), (t25.2.2.2.1.2.2.2.1, ((), (t25.2.2.2.1.2.2.2.2.2.1, ())))))) t25.2.2.2.2.1 t25.2.2.2.2.2.1 t25.2.2.2.2.2.2.2.2.1 t25.2.2.2.2.2.2.1 t25.2.2.2.2.2.2.2.1).bind fun t27 => bif (t27.1 == (1 : Int)) then ((Qx k ((), (t27.2.1.2.1, (t27.2.1.2.2.1, ((), ((), (t27.2.1.2.2.2.2.2.1, (t27.2.1.2.2.2.2.2.2.1, ()))))))) ((), ((), ((), (t27.2.2.1.2.2.2.1, ((), (t27.2.2.1.2.2.2.2.2.1, ())))))) t27.2.2.2.1 t27.2.2.2.2.1 t27.2.2.2.2.2.2.2.1 t27.2.2.2.2.2.1 t27.2.2.2.2.2.2.1).bind fun t28 => (match t28 with
 | .inl t29 => (K ((t29.1 == (0 : Int)), ()))
 | .inr (t30) => (K ((t30.1 == (0 : Int)), ())))) else (K (false, ()))) else (K (false, ()))) else (K (false, ())))))))
 | .inr (.inr (.inl t31)) => (let v32 : Int := t31.1
  bif (v32 != (0 : Int)) then (K (false, ())) else (K (false, ())))
 | .inr (.inr (.inr (.inl t33))) => (let v34 : Int := t33.1
  bif (v34 != (0 : Int)) then (K (false, ())) else ((QR k (⟨(List.toArray [97, 98, 99])⟩ : ByteArray) ((), (t33.2.2.2.2.2.1.2.1, (t33.2.2.2.2.2.1.2.2.1, ((), ((), (t33.2.2.2.2.2.1.2.2.2.2.2.1, (t33.2.2.2.2.2.1.2.2.2.2.2.2.1, ()))))))) ((), ((), ((), (t33.2.1.2.2.2.1, ((), (t33.2.1.2.2.2.2.2.1, ())))))) t33.2.2.1 t33.2.2.2.1 t33.2.2.2.2.1 t33.2.2.2.2.2.2.1).bind fun t35 => (match t35 with
 | .inl t36 => (bif (t36.1 != (0 : Int)) then (K (false, ())) else ((QK k (0 : Int) ((), (t36.2.1.2.1, (t36.2.1.2.2.1, ((), ((), (t36.2.1.2.2.2.2.2.1, (t36.2.1.2.2.2.2.2.2.1, ()))))))) ((), ((), ((), (t36.2.2.1.2.2.2.1, ((), (t36.2.2.1.2.2.2.2.2.1, ())))))) t36.2.2.2.1 t36.2.2.2.2.1 t36.2.2.2.2.2.2.1 t36.2.2.2.2.2.1).bind fun t37 => let v38 : ByteArray := t37.1
  bif (Q1J v38 (⟨(List.toArray [97, 98, 99])⟩ : ByteArray)) then (bif t37.2.1 then ((QB k ((), (t37.2.2.1.2.1, (t37.2.2.1.2.2.1, ((), ((), (t37.2.2.1.2.2.2.2.2.1, (t37.2.2.1.2.2.2.2.2.2.1, ()))))))) ((), ((), ((), (t37.2.2.2.1.2.2.2.1, ((), (t37.2.2.2.1.2.2.2.2.2.1, ())))))) t37.2.2.2.2.1 t37.2.2.2.2.2.1 t37.2.2.2.2.2.2.2.1 t37.2.2.2.2.2.2.1).bind fun t39 => bif (t39.1 == (1 : Int)) then ((QA k ((), (t39.2.1.2.1, (t39.2.1.2.2.1, ((), ((), (t39.2.1.2.2.2.2.2.1, (t39.2.1.2.2.2.2.2.2.1, ()))))))) ((), ((), ((), (t39.2.2.1.2.2.2.1, ((), (t39.2.2.1.2.2.2.2.2.1, ())))))) t39.2.2.2.1 t39.2.2.2.2.1 t39.2.2.2.2.2.2.1 t39.2.2.2.2.2.1).bind fun t40 => (match t40 with
 | .inl t41 => (K ((t41.1 == (0 : Int)), ()))
 | .inr (t42) => (K ((t42.1 == (0 : Int)), ())))) else (K (false, ()))) else (K (false, ()))) else (K (false, ()))))
 | .inr (t43) => (bif (t43.1 != (0 : Int)) then (K (false, ())) else ((QH k (0 : Int) ((), (t43.2.1.2.1, (t43.2.1.2.2.1, ((), ((), (t43.2.1.2.2.2.2.2.1, (t43.2.1.2.2.2.2.2.2.1, ()))))))) ((), ((), ((), (t43.2.2.1.2.2.2.1, ((), (t43.2.2.1.2.2.2.2.2.1, ())))))) t43.2.2.2.1 t43.2.2.2.2.1 t43.2.2.2.2.2.2.2.1 t43.2.2.2.2.2.1 t43.2.2.2.2.2.2.1).bind fun t44 => let v45 : ByteArray := t44.1
  bif (Q1J v45 (⟨(List.toArray [97, 98, 99])⟩ : ByteArray)) then (bif t44.2.1 then ((Qy k ((), (t44.2.2.1.2.1, (t44.2.2.1.2.2.1, ((), ((), (t44.2.2.1.2.2.2.2.2.1, (t44.2.2.1.2.2.2.2.2.2.1, ()))))))) ((), ((), ((), (t44.2.2.2.1.2.2.2.1, ((), (t44.2.2.2.1.2.2.2.2.2.1, ())))))) t44.2.2.2.2.1 t44.2.2.2.2.2.1 t44.2.2.2.2.2.2.2.2.1 t44.2.2.2.2.2.2.1 t44.2.2.2.2.2.2.2.1).bind fun t46 => bif (t46.1 == (1 : Int)) then ((Qx k ((), (t46.2.1.2.1, (t46.2.1.2.2.1, ((), ((), (t46.2.1.2.2.2.2.2.1, (t46.2.1.2.2.2.2.2.2.1, ()))))))) ((), ((), ((), (t46.2.2.1.2.2.2.1, ((), (t46.2.2.1.2.2.2.2.2.1, ())))))) t46.2.2.2.1 t46.2.2.2.2.1 t46.2.2.2.2.2.2.2.1 t46.2.2.2.2.2.1 t46.2.2.2.2.2.2.1).bind fun t47 => (match t47 with
 | .inl t48 => (K ((t48.1 == (0 : Int)), ()))
 | .inr (t49) => (K ((t49.1 == (0 : Int)), ())))) else (K (false, ()))) else (K (false, ()))) else (K (false, ())))))))
 | .inr (.inr (.inr (.inr (.inl t50)))) => (let v51 : Int := t50.1
  bif (v51 != (0 : Int)) then (K (false, ())) else ((QQ k (⟨(List.toArray [97, 98, 99])⟩ : ByteArray) ((), (t50.2.2.2.2.1.2.1, (t50.2.2.2.2.1.2.2.1, ((), ((), (t50.2.2.2.2.1.2.2.2.2.2.1, (t50.2.2.2.2.1.2.2.2.2.2.2.1, ()))))))) ((), ((), ((), (t50.2.1.2.2.2.1, ((), (t50.2.1.2.2.2.2.2.1, ())))))) t50.2.2.1 t50.2.2.2.1 t50.2.2.2.2.2.1 t50.2.2.2.2.2.2.1).bind fun t52 => (match t52 with
 | .inl t53 => (bif (t53.1 != (0 : Int)) then (K (false, ())) else ((QL k (0 : Int) ((), (t53.2.1.2.1, (t53.2.1.2.2.1, ((), ((), (t53.2.1.2.2.2.2.2.1, (t53.2.1.2.2.2.2.2.2.1, ()))))))) ((), ((), ((), (t53.2.2.1.2.2.2.1, ((), (t53.2.2.1.2.2.2.2.2.1, ())))))) t53.2.2.2.1 t53.2.2.2.2.1 t53.2.2.2.2.2.1 t53.2.2.2.2.2.2.1).bind fun t54 => let v55 : ByteArray := t54.1
  bif (Q1J v55 (⟨(List.toArray [97, 98, 99])⟩ : ByteArray)) then (bif t54.2.1 then ((QC k ((), (t54.2.2.1.2.1, (t54.2.2.1.2.2.1, ((), ((), (t54.2.2.1.2.2.2.2.2.1, (t54.2.2.1.2.2.2.2.2.2.1, ()))))))) ((), ((), ((), (t54.2.2.2.1.2.2.2.1, ((), (t54.2.2.2.1.2.2.2.2.2.1, ())))))) t54.2.2.2.2.1 t54.2.2.2.2.2.1 t54.2.2.2.2.2.2.1 t54.2.2.2.2.2.2.2.1).bind fun t56 => bif (t56.1 == (1 : Int)) then ((Qz k ((), (t56.2.1.2.1, (t56.2.1.2.2.1, ((), ((), (t56.2.1.2.2.2.2.2.1, (t56.2.1.2.2.2.2.2.2.1, ()))))))) ((), ((), ((), (t56.2.2.1.2.2.2.1, ((), (t56.2.2.1.2.2.2.2.2.1, ())))))) t56.2.2.2.1 t56.2.2.2.2.1 t56.2.2.2.2.2.1 t56.2.2.2.2.2.2.1).bind fun t57 => K ((t57.1 == (0 : Int)), ())) else (K (false, ()))) else (K (false, ()))) else (K (false, ()))))
 | .inr (t58) => (bif (t58.1 != (0 : Int)) then (K (false, ())) else ((QH k (0 : Int) ((), (t58.2.1.2.1, (t58.2.1.2.2.1, ((), ((), (t58.2.1.2.2.2.2.2.1, (t58.2.1.2.2.2.2.2.2.1, ()))))))) ((), ((), ((), (t58.2.2.1.2.2.2.1, ((), (t58.2.2.1.2.2.2.2.2.1, ())))))) t58.2.2.2.1 t58.2.2.2.2.1 t58.2.2.2.2.2.2.2.1 t58.2.2.2.2.2.1 t58.2.2.2.2.2.2.1).bind fun t59 => let v60 : ByteArray := t59.1
  bif (Q1J v60 (⟨(List.toArray [97, 98, 99])⟩ : ByteArray)) then (bif t59.2.1 then ((Qy k ((), (t59.2.2.1.2.1, (t59.2.2.1.2.2.1, ((), ((), (t59.2.2.1.2.2.2.2.2.1, (t59.2.2.1.2.2.2.2.2.2.1, ()))))))) ((), ((), ((), (t59.2.2.2.1.2.2.2.1, ((), (t59.2.2.2.1.2.2.2.2.2.1, ())))))) t59.2.2.2.2.1 t59.2.2.2.2.2.1 t59.2.2.2.2.2.2.2.2.1 t59.2.2.2.2.2.2.1 t59.2.2.2.2.2.2.2.1).bind fun t61 => bif (t61.1 == (1 : Int)) then ((Qx k ((), (t61.2.1.2.1, (t61.2.1.2.2.1, ((), ((), (t61.2.1.2.2.2.2.2.1, (t61.2.1.2.2.2.2.2.2.1, ()))))))) ((), ((), ((), (t61.2.2.1.2.2.2.1, ((), (t61.2.2.1.2.2.2.2.2.1, ())))))) t61.2.2.2.1 t61.2.2.2.2.1 t61.2.2.2.2.2.2.2.1 t61.2.2.2.2.2.1 t61.2.2.2.2.2.2.1).bind fun t62 => (match t62 with
 | .inl t63 => (K ((t63.1 == (0 : Int)), ()))
 | .inr (t64) => (K ((t64.1 == (0 : Int)), ())))) else (K (false, ()))) else (K (false, ()))) else (K (false, ())))))))
 | .inr (.inr (.inr (.inr (.inr (t65))))) => (let v66 : Int := t65.1
  bif (v66 != (0 : Int)) then (K (false, ())) else ((QV k (⟨(List.toArray [97, 98, 99])⟩ : ByteArray) ((), (t65.2.2.2.2.2.1.2.1, (t65.2.2.2.2.2.1.2.2.1, ((), ((), (t65.2.2.2.2.2.1.2.2.2.2.2.1, (t65.2.2.2.2.2.1.2.2.2.2.2.2.1, ()))))))) ((), ((), ((), (t65.2.1.2.2.2.1, ((), (t65.2.1.2.2.2.2.2.1, ())))))) t65.2.2.1 t65.2.2.2.1 t65.2.2.2.2.1 t65.2.2.2.2.2.2.1 t65.2.2.2.2.2.2.2.1).bind fun t67 => bif (t67.1 != (0 : Int)) then (K (false, ())) else ((QH k (0 : Int) ((), (t67.2.1.2.1, (t67.2.1.2.2.1, ((), ((), (t67.2.1.2.2.2.2.2.1, (t67.2.1.2.2.2.2.2.2.1, ()))))))) ((), ((), ((), (t67.2.2.1.2.2.2.1, ((), (t67.2.2.1.2.2.2.2.2.1, ())))))) t67.2.2.2.1 t67.2.2.2.2.1 t67.2.2.2.2.2.2.2.1 t67.2.2.2.2.2.1 t67.2.2.2.2.2.2.1).bind fun t68 => let v69 : ByteArray := t68.1
  bif (Q1J v69 (⟨(List.toArray [97, 98, 99])⟩ : ByteArray)) then (bif t68.2.1 then ((Qy k ((), (t68.2.2.1.2.1, (t68.2.2.1.2.2.1, ((), ((), (t68.2.2.1.2.2.2.2.2.1, (t68.2.2.1.2.2.2.2.2.2.1, ()))))))) ((), ((), ((), (t68.2.2.2.1.2.2.2.1, ((), (t68.2.2.2.1.2.2.2.2.2.1, ())))))) t68.2.2.2.2.1 t68.2.2.2.2.2.1 t68.2.2.2.2.2.2.2.2.1 t68.2.2.2.2.2.2.1 t68.2.2.2.2.2.2.2.1).bind fun t70 => bif (t70.1 == (1 : Int)) then ((Qx k ((), (t70.2.1.2.1, (t70.2.1.2.2.1, ((), ((), (t70.2.1.2.2.2.2.2.1, (t70.2.1.2.2.2.2.2.2.1, ()))))))) ((), ((), ((), (t70.2.2.1.2.2.2.1, ((), (t70.2.2.1.2.2.2.2.2.1, ())))))) t70.2.2.2.1 t70.2.2.2.2.1 t70.2.2.2.2.2.2.2.1 t70.2.2.2.2.2.1 t70.2.2.2.2.2.2.1).bind fun t71 => (match t71 with
 | .inl t72 => (K ((t72.1 == (0 : Int)), ()))
 | .inr (t73) => (K ((t73.1 == (0 : Int)), ())))) else (K (false, ()))) else (K (false, ()))) else (K (false, ()))))))
def Q0j (k : Nat)  : Option (Bool × Unit) := Q0j.c k  some
def Q0j.tin : List Ty := []
def Q0j.tout : List Ty := [.bool]
def Q0j.sem (k : Nat) : QP := Q15 Q0j.tin Q0j.tout fun x => Q0j k 
noncomputable def Q0j.ctx (k : Nat) : Ctx := ⟨Try.prog, gam [(15, (Q19.sem k)), (16, (Q4.sem k)), (18, (Q27 (Q2d Q09.T) (Q09.sem k) (Q27 (Q2d QR.T) (QR.sem k) (Q27 (Q2d QQ.T) (QQ.sem k) (QV.sem k))))), (22, (Q27 (Q2d Q08.T) (Q08.sem k) (Q27 (Q2d QL.T) (QL.sem k) (Q27 (Q2d QK.T) (QK.sem k) (QH.sem k))))), (25, (Q27 (Q2d QU.T) (QU.sem k) (Q27 (Q2d QC.T) (QC.sem k) (Q27 (Q2d QB.T) (QB.sem k) (Qy.sem k))))), (19, (Q27 (Q2d QS.T) (QS.sem k) (Q27 (Q2d Qz.T) (Qz.sem k) (Q27 (Q2d QA.T) (QA.sem k) (Qx.sem k)))))]⟩
theorem Q0j.gok (k : Nat) : ∀ f, Qw Try.prog f ((Q0j.ctx k).Γ f) := (Qe (Q19.sem_ok k) (Qe (Q4.sem_ok k) (Qe (Q1p (Q09.sem_ok k) (Q1p (QR.sem_ok k) (Q1p (QQ.sem_ok k) (QV.sem_ok k)))) (Qe (Q1p (Q08.sem_ok k) (Q1p (QL.sem_ok k) (Q1p (QK.sem_ok k) (QH.sem_ok k)))) (Qe (Q1p (QU.sem_ok k) (Q1p (QC.sem_ok k) (Q1p (QB.sem_ok k) (Qy.sem_ok k)))) (Qe (Q1p (QS.sem_ok k) (Q1p (Qz.sem_ok k) (Q1p (QA.sem_ok k) (Qx.sem_ok k)))) Q0b))))))
def Q0j.ann (k : Nat) : Ann := .nil
theorem Q0j.body (k : Nat) : Q1n (Q0j.ctx k) Try.f8 (Func.code Try.f8) (Q0j.ann k) Q0j.tin Q0j.tout (fun x K => Q0j.c k  K) := by
 intro ρ x K; kernel_rfl
theorem Q0j.sem_ok (k : Nat) : Qw Try.prog 8 (Q0j.sem k) :=
 Q11 (C := Q0j.ctx k) (Q0j.gok k) Try.mix (c := Func.code Try.f8) (ann := Q0j.ann k) (tin := Q0j.tin) (tout := Q0j.tout) (fun x K => Q0j.c k  K) Try.func8 (by kernel_rfl) (by kernel_rfl) Q1.nil (Q0j.body k)
end Go.Am
