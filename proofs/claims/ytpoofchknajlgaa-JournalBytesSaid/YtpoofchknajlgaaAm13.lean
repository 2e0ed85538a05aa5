/- A part of a proof: a machine of abstract values that tells what functions of the program compute, and the plain facts on them. -/
import Derived.Test.YtpoofchknajlgaaAm12
import Derived.KernelRfl
import Derived.Test.YtpoofchknajlgaaAm11
set_option linter.unusedVariables false
set_option linter.unusedSimpArgs false
set_option linter.unnecessarySimpa false
set_option linter.unusedSectionVars false
namespace Go.Am
open Go Go.Proofs
set_option maxRecDepth 100000
abbrev Q5.p0.σ : Type := Int × Int × ByteArray × ByteArray × Int × Unit
abbrev Q5.p0.τ : Type := (Bool × Unit) ⊕ (Int × Int × ByteArray × ByteArray × Int × Unit)
def Q5.p0.r (k : Nat) {ρ : Type} (x : Q5.p0.σ) (K : Q5.p0.τ → Option ρ) : Option ρ :=
 (Q0j k ).bind fun t3 => bif (!t3.1) then (K (.inl (false, ()))) else ((Q0n k x.1).bind fun t4 => (Q0d k x.1).bind fun t5 => bif (!(Q1J t4.1 t5.1)) then (K (.inl (false, ()))) else (K (.inr (x.1, (x.2.1, (x.2.2.1, (x.2.2.2.1, (x.2.2.2.2.1, ()))))))))
def Q5.p0 (k : Nat) (x : Q5.p0.σ) : Option Q5.p0.τ := Q5.p0.r k x some
def Q5.p0.T : StT := ⟨.dat (.int .u64) :: .dat (.int .u64) :: .dat .str :: us 4 ++ .dat .str :: .dat (.int .i64) :: us 35, []⟩
def Q5.p0.os : List Out := [⟨.ret, [.mask [6], .auto 0], ⟨us 6 ++ .dat .bool :: us 37, []⟩⟩, ⟨.normal, [.mask [0, 1, 2, 7, 8], .auto 0], ⟨.dat (.int .u64) :: .dat (.int .u64) :: .dat .str :: us 4 ++ .dat .str :: .dat (.int .i64) :: us 35, []⟩⟩]
def Q5.c (k : Nat) {ρ : Type} (epoch : Int) (number : Int) (s : ByteArray) (K : Bool × Unit → Option ρ) : Option ρ :=
  (Q05 k epoch number s).bind fun t0 => let v1 : ByteArray := t0.1
  let v2 : Int := t0.2.1
  (Q5.p0 k (epoch, (number, (s, (v1, (v2, ())))))).bind fun t6 => (match t6 with
 | .inl t7 => (K (t7.1, ()))
 | .inr (t8) => (let v9 : Int := (((ByteArray.size t8.2.2.1) : Nat) : Int)
  bif (decide (v9 > (65536 : Int))) then (bif (Q1J t8.2.2.2.1 (⟨(List.toArray [])⟩ : ByteArray)) then (K ((t8.2.2.2.2.1 == (121 : Int)), ())) else (K (false, ()))) else ((QZ k t8.1 t8.2.1 t8.2.2.1).bind fun t10 => bif (Q1J t8.2.2.2.1 t10.1) then (K ((t8.2.2.2.2.1 == (0 : Int)), ())) else (K (false, ())))))
def Q5 (k : Nat) (epoch : Int) (number : Int) (s : ByteArray) : Option (Bool × Unit) := Q5.c k epoch number s some
def Q5.tin : List Ty := [(.int .u64), (.int .u64), .str]
def Q5.tout : List Ty := [.bool]
def Q5.sem (k : Nat) : QP := Q15 Q5.tin Q5.tout fun x => Q5 k x.1 x.2.1 x.2.2.1
noncomputable def Q5.ctx (k : Nat) : Ctx := ⟨Try.prog, gam [(7, (Q05.sem k)), (8, (Q0j.sem k)), (9, (Q0n.sem k)), (10, (Q0d.sem k)), (11, (QZ.sem k))]⟩
theorem Q5.gok (k : Nat) : ∀ f, Qw Try.prog f ((Q5.ctx k).Γ f) := (Qe (Q05.sem_ok k) (Qe (Q0j.sem_ok k) (Qe (Q0n.sem_ok k) (Qe (Q0d.sem_ok k) (Qe (QZ.sem_ok k) Q0b)))))
theorem Q5.p0.is (k : Nat) : Q20 (Q5.ctx k) (Q0K (Func.code Try.f3) [1, 1, 0]) (.nil) Q5.p0.T Q5.p0.os (Q5.p0.r k) := by
 intro ρ x K; kernel_rfl
theorem Q5.p0.ok (k : Nat) : StOK 0 Try.prog (Q0K (Func.code Try.f3) [1, 1, 0]) (Q01 Q5.p0.T Q5.p0.os (Q5.p0 k)) :=
 Q1O (C := Q5.ctx k) (T := Q5.p0.T) (os := Q5.p0.os) (Q5.gok k) Try.mix (fun x K => Q5.p0.r k x K) Q1.nil (by kernel_rfl) (by kernel_rfl) (Q5.p0.is k)
def Q5.ann (k : Nat) : Ann := .node [] none (.nil) (.node [] none (.nil) (.node [] none (.node [] (some (Q01 Q5.p0.T Q5.p0.os (Q5.p0 k))) .nil .nil) (.nil)))
theorem Q5.body (k : Nat) : Q1n (Q5.ctx k) Try.f3 (Func.code Try.f3) (Q5.ann k) Q5.tin Q5.tout (fun x K => Q5.c k x.1 x.2.1 x.2.2.1 K) := by
 intro ρ x K; kernel_rfl
theorem Q5.sem_ok (k : Nat) : Qw Try.prog 3 (Q5.sem k) :=
 Q11 (C := Q5.ctx k) (Q5.gok k) Try.mix (c := Func.code Try.f3) (ann := Q5.ann k) (tin := Q5.tin) (tout := Q5.tout) (fun x K => Q5.c k x.1 x.2.1 x.2.2.1 K) Try.func3 (by kernel_rfl) (by kernel_rfl) (Q1.seq Q1.nil (Q1.seq Q1.nil (Q1.seq (Q1.loop (by kernel_rfl) (Q5.p0.ok k)) Q1.nil))) (Q5.body k)
end Go.Am
namespace Go.Am
open Go
theorem Q5V {k : Nat} (hk : 2000 ≤ k) (haw : Q0j k = some (true, ())) {e n : Int} (he : 0 ≤ e ∧ e ≤ 18446744073709551615) (hn : 0 ≤ n ∧ n ≤ 18446744073709551615) (s : ByteArray) (hs : s.size ≤ 140737488351232) :
  Q5 k e n s = some (true, ()) := by
 unfold Q5 Q5.c
 rw [Q5M hk]
 simp only [Option.bind_some]
 have p0 : ∀ (t : ByteArray) (x : Int), Q5.p0 k (e, n, s, t, x, ()) = some (.inr (e, n, s, t, x, ())) := by
  intro t x
  unfold Q5.p0
  simp only [Q5.p0.r]
  rw [haw]
  simp only [Option.bind_some, Bool.not_true, cond_false]
  rw [Q71 (by omega)]
  simp only [Option.bind_some]
  rw [Q8f (by omega) he]
  simp only [Option.bind_some]
  rw [Q5d]
  rfl
 rw [p0]
 simp only [Option.bind_some]
 by_cases c : s.size > 65536
 ·rw [Q0X (by omega), if_pos c]
  dsimp only
  rw [Q5d]
  rfl
 ·rw [Q1R (by omega), if_neg c, Q73 hk he hn (by omega)]
  simp only [Option.bind_some]
  rw [Q5d]
  rfl
end Go.Am
namespace Go.Am
open Go
theorem Qd8 : Q0j 140737488355328 = some (true, ()) := by kernel_rfl
end Go.Am
