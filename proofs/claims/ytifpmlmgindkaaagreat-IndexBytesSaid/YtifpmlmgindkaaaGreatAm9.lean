/- A part of a proof: a machine of abstract values that tells what functions of the program compute, and the plain facts on them. -/
import Derived.Test.YtifpmlmgindkaaaGreatAm6
import Derived.Test.YtifpmlmgindkaaaGreatRows
import Derived.KernelRfl
import Derived.Test.YtifpmlmgindkaaaGreatAm5
import Derived.Test.YtifpmlmgindkaaaGreatProg
import Derived.Test.YtifpmlmgindkaaaGreatAm8
import Derived.Test.YtifpmlmgindkaaaGreatAm7
set_option linter.unusedVariables false
set_option linter.unusedSimpArgs false
set_option linter.unnecessarySimpa false
set_option linter.unusedSectionVars false
namespace Go.Am
abbrev QdH : Type := (ByteArray × Unit)
abbrev QdG : Ty := (.arr 32 (.int .u8))
abbrev QdF : Type := ((Unit × (Unit × Unit)) × Unit)
abbrev QdE : Type := (ByteArray × (Int × (Int × Unit)))
abbrev QdD : Type := (Int ×  QdE  × Unit)
abbrev QdC : Type := ( QdF  × (List Int) × Unit)
abbrev QdB : Ty := (.pair .str (.pair (.int .i64) (.pair (.int .i64) .unit)))
abbrev QdA : Type := (Int × ((List Int) × ((List Int) × (Int × (Int × (Int × Unit))))))
abbrev Qdz : Type := ( QdA  × Int × Unit)
abbrev Qdy : Type := (Int ×  QdA  × Unit)
abbrev Qdx : Type := (ByteArray × Int ×  QdA  × Unit)
abbrev Qdw : Type := ( QdA  × (Int × (Int × (Int × (Int × (Int × Unit))))))
abbrev Qdv : Type := ( Qdw  × Int × Unit)
abbrev Qdu : Ty := (.pair (.int .u32) (.pair  QdG  (.pair  QdG  (.pair (.int .u32) (.pair (.int .u32) (.pair (.int .u32) .unit))))))
abbrev Qdt : Ty := (.pair  Qdu  (.pair (.int .i64) (.pair (.int .i64) (.pair (.int .i64) (.pair (.int .i64) (.pair (.int .i64) .unit))))))
end Go.Am
namespace Go.Proofs.YtifpmlmgindkaaaGreat
open Go.RowKit Go.Am
theorem Tryz.own : ownKnob Tryz.prog.godebug = none := by kernel_rfl
theorem Tryz.laidOut : laidOutB Tryz.prog = true := by kernel_rfl
end Go.Proofs.YtifpmlmgindkaaaGreat
namespace Go.Am
open Go
theorem Qbm {p : Int → Prop} {l : List Int} (h : ∀ i, i < l.length → p (l.getD i 0)) : ∀ x ∈ l, p x := by
 intro x hx
 obtain ⟨i, hi, rfl⟩ := List.getElem_of_mem hx
 have := h i hi
 rw [List.getD_eq_getElem?_getD] at this
 simpa [hi] using this
theorem Qc6 : reachBytes = 140737488351232 := rfl
end Go.Am
namespace Go.Am
open Go
theorem Qaj {σ τ : Type} {r : {ρ : Type} → σ → (σ → Option ρ) → (τ → Option ρ) → Option ρ} (S : Nat → σ) (n : Nat) (T : τ) (a : Nat)
  (hstep : ∀ i, a ≤ i → i < n → ∀ (kn : σ → Option τ) (ke : τ → Option τ), r (S i) kn ke = kn (S (i + 1))) (hend : ∀ (kn : σ → Option τ) (ke : τ → Option τ), r (S n) kn ke = ke T) :
  ∀ {fuel : Nat}, a ≤ n → n - a < fuel → Q0T r fuel (S a) = some T := by
 intro fuel ha hf
 have key : ∀ (d i fuel : Nat), a ≤ i → i + d = n → d < fuel → Q0T r fuel (S i) = some T := by
  intro d
  induction d with
  | zero =>
   intro i fuel _ hi hf
   cases fuel with
   | zero => omega
   | succ fuel =>
    have : i = n := by omega
    subst this
    exact hend _ _
  | succ d ih =>
   intro i fuel hai hi hf
   cases fuel with
   | zero => omega
   | succ fuel =>
    show r (S i) (Q0T r fuel) some = _
    rw [hstep i hai (by omega)]
    exact ih (i + 1) fuel (by omega) (by omega) (by omega)
 exact key (n - a) a fuel (Nat.le_refl _) (by omega) hf
theorem Qal {σ τ : Type} {r : {ρ : Type} → σ → (σ → Option ρ) → (τ → Option ρ) → Option ρ} (S : Nat → σ) (n : Nat) (T : τ)
  (hstep : ∀ i, i < n → ∀ (kn : σ → Option τ) (ke : τ → Option τ), r (S i) kn ke = kn (S (i + 1))) (hend : ∀ (kn : σ → Option τ) (ke : τ → Option τ), r (S n) kn ke = ke T)
  {fuel : Nat} (hf : n < fuel) : Q0T r fuel (S 0) = some T := Qaj S n T 0 (fun i _ hi => hstep i hi) hend (Nat.zero_le _) (by omega)
theorem QbZ {σ τ : Type} {r : {ρ : Type} → σ → (σ → Option ρ) → (τ → Option ρ) → Option ρ} (I : Nat → σ → Prop) (T : τ → Prop)
  (h : ∀ n s, I n s → (∃ s' m, m < n ∧ I m s' ∧ ∀ (kn : σ → Option τ) (ke : τ → Option τ), r s kn ke = kn s') ∨ (∃ t, T t ∧ ∀ (kn : σ → Option τ) (ke : τ → Option τ), r s kn ke = ke t)) :
  ∀ (n fuel : Nat) (s : σ), n < fuel → I n s → ∃ t, T t ∧ Q0T r fuel s = some t
 | n, fuel + 1, s, hf, hi => by
  rcases h n s hi with ⟨s', m, hm, hI, hr⟩ | ⟨t, ht, hr⟩
  ·obtain ⟨t, ht, h2⟩ := QbZ I T h m fuel s' (by omega) hI
   exact ⟨t, ht, (hr (Q0T r fuel) some).trans h2⟩
  ·exact ⟨t, ht, hr (Q0T r fuel) some⟩
theorem i64_in {n : Int} (h : -9223372036854775808 ≤ n ∧ n ≤ 9223372036854775807) : IntKind.i64.wrap n = n := IntWalk.i64_in n h
theorem u64_in {n : Int} (h : 0 ≤ n ∧ n ≤ 18446744073709551615) : IntKind.u64.wrap n = n := IntWalk.u64_in n h
theorem u8_in {n : Int} (h : 0 ≤ n ∧ n ≤ 255) : IntKind.u8.wrap n = n := IntWalk.u8_in n h
theorem Q2b {a b : Nat} (h : a ≤ b) : Nat.ble a b = true := by rw [Nat.ble_eq]; exact h
theorem QbW (n : Int) : IntKind.u8.wrap n = n % 256 := IntKind.wrap_u8 n
theorem Q8R (n : Int) : IntKind.u32.wrap n = n % 4294967296 := IntKind.wrap_u32 n
theorem Qde (n : Int) : IntKind.u64.wrap n = n % 18446744073709551616 := IntKind.wrap_u64 n
theorem Q2D {n : Int} (h : 0 ≤ n ∧ n ≤ 4294967295) : IntKind.u32.wrap n = n := by rw [Q8R]; omega
theorem Q1g {α : Type} {b : Bool} {x y : α} (h : b = true) : (bif b then x else y) = x := by rw [h]; rfl
theorem Qct {α : Type} {b : Bool} {x y : α} (h : b = false) : (bif b then x else y) = y := by rw [h]; rfl
theorem Q0L {α : Type} {p : Prop} [Decidable p] {x y : α} (h : p) : (bif decide p then x else y) = x := by rw [decide_eq_true h]; rfl
theorem Q1r {α : Type} {p : Prop} [Decidable p] {x y : α} (h : ¬ p) : (bif decide p then x else y) = y := by rw [decide_eq_false h]; rfl
theorem Qcf (k : IntKind) (x y : Int) : Q0U .or k x y = Q0U .or k y x := by
 simp only [Q0U, BitVec.or_comm]
theorem Qc5 (k : IntKind) (x y : Int) : Q0U .xor k x y = Q0U .xor k y x := by
 simp only [Q0U, BitVec.xor_comm]
theorem Qc4 (k : IntKind) (x y : Int) : Q0U .and k x y = Q0U .and k y x := by
 simp only [Q0U, BitVec.and_comm]
theorem toNat_ofInt (w A : Nat) (h : A < 2 ^ w) : (BitVec.ofInt w (A : Int)).toNat = A := by
 rw [BitVec.toNat_ofInt]
 have : ((A : Int) % ((2 : Nat) ^ w : Nat)).toNat = A % 2 ^ w := by
  rw [← Int.natCast_emod]; rfl
 rw [this]
 exact Nat.mod_eq_of_lt h
theorem Qdf {A B : Nat} (ha : A < 4294967296) (hb : B < 4294967296) : Q0U .and .u32 (A : Int) (B : Int) = ((A &&& B : Nat) : Int) := by
 show IntKind.u32.wrap (((BitVec.ofInt 32 (A : Int) &&& BitVec.ofInt 32 (B : Int) : BitVec 32).toNat : Nat) : Int) = _
 rw [BitVec.toNat_and, toNat_ofInt 32 A (by simpa using ha), toNat_ofInt 32 B (by simpa using hb)]
 exact Q2D ⟨by omega, by have : A &&& B ≤ A := Nat.and_le_left; omega⟩
theorem QcS {A B : Nat} (ha : A < 4294967296) (hb : B < 4294967296) : Q0U .or .u32 (A : Int) (B : Int) = ((A ||| B : Nat) : Int) := by
 show IntKind.u32.wrap (((BitVec.ofInt 32 (A : Int) ||| BitVec.ofInt 32 (B : Int) : BitVec 32).toNat : Nat) : Int) = _
 rw [BitVec.toNat_or, toNat_ofInt 32 A (by simpa using ha), toNat_ofInt 32 B (by simpa using hb)]
 exact Q2D ⟨by omega, by have : A ||| B < 2 ^ 32 := Nat.or_lt_two_pow (by simpa using ha) (by simpa using hb); simp at this; omega⟩
theorem Qcn {A B : Nat} (ha : A < 4294967296) (hb : B < 4294967296) : Q0U .xor .u32 (A : Int) (B : Int) = ((A ^^^ B : Nat) : Int) := by
 show IntKind.u32.wrap (((BitVec.ofInt 32 (A : Int) ^^^ BitVec.ofInt 32 (B : Int) : BitVec 32).toNat : Nat) : Int) = _
 rw [BitVec.toNat_xor, toNat_ofInt 32 A (by simpa using ha), toNat_ofInt 32 B (by simpa using hb)]
 exact Q2D ⟨by omega, by have : A ^^^ B < 2 ^ 32 := Nat.xor_lt_two_pow (by simpa using ha) (by simpa using hb); simp at this; omega⟩
theorem Qdd {x : Int} (h : 0 ≤ x ∧ x ≤ 4294967295) : notI .u32 x = 4294967295 - x := by
 obtain ⟨A, rfl⟩ := Int.eq_ofNat_of_zero_le h.1
 show Q0U .xor .u32 (4294967295 : Int) (A : Int) = _
 rw [show (4294967295 : Int) = ((4294967295 : Nat) : Int) from rfl, Qcn (by omega) (by omega)]
 have : 4294967295 ^^^ A = 4294967295 - A := by
  have h1 : (BitVec.allOnes 32 ^^^ BitVec.ofNat 32 A).toNat = 4294967295 - A := by
   rw [BitVec.allOnes_xor, BitVec.toNat_not, BitVec.toNat_ofNat, Nat.mod_eq_of_lt (by omega)]
  rw [← h1, BitVec.toNat_xor, BitVec.toNat_allOnes, BitVec.toNat_ofNat, Nat.mod_eq_of_lt (show A < 2 ^ 32 by omega)]
 rw [this]; omega
theorem QbQ (op : BinOp) (x y : Int) (h : op = .and ∨ op = .or ∨ op = .xor) : 0 ≤ Q0U op .u32 x y ∧ Q0U op .u32 x y ≤ 4294967295 := by
 rcases h with rfl | rfl | rfl <;> simp only [Q0U] <;> rw [Q8R] <;> omega
theorem Qd1 {A B j : Nat} (ha : A < 2 ^ j) : A ||| B * 2 ^ j = B * 2 ^ j + A := by
 rw [Nat.or_comm, Nat.mul_comm, ← Nat.two_pow_add_eq_or_of_lt ha]
theorem QcU {A B j : Nat} (ha : A < 2 ^ j) (hlt : B * 2 ^ j + A < 4294967296) : Q0U .or .u32 ((B * 2 ^ j : Nat) : Int) (A : Int) = ((B * 2 ^ j + A : Nat) : Int) := by
 rw [QcS (by omega) (by omega), Nat.or_comm, Qd1 ha]
theorem Qdb (x : Int) {j : Nat} (hj : j ≤ 32) : Q2Y .u32 x (j : Int) = (x * 2 ^ j) % 4294967296 := by
 unfold Q2Y
 rw [show min (j : Int).toNat IntKind.u32.bits = j by simp [IntKind.bits]; omega, Q8R]
theorem Qdg {x : Int} {j : Nat} (hj : j ≤ 32) : Q22 .u32 x (j : Int) = x / 2 ^ j := by
 unfold Q22
 rw [show min (j : Int).toNat IntKind.u32.bits = j by simp [IntKind.bits]; omega]
 exact Int.fdiv_eq_ediv_of_nonneg _ (Int.le_of_lt (Int.pow_pos (by omega)))
def Qdr (a b c d : Int) : Int := ((a * 256 + b) * 256 + c) * 256 + d
def Qdi (x : Int) : Prop := 0 ≤ x ∧ x < 256
def Qdn (x : Int) : Prop := 0 ≤ x ∧ x ≤ 4294967295
end Go.Am
namespace Go.Am
open Go Go.Proofs
theorem _root_.Go.Proofs.Tryz.mix : Tryz.prog.follows .mixedOrders = true := by kernel_rfl
end Go.Am
namespace Go.Am
open Go Go.Proofs Go.Shelf
set_option maxRecDepth 100000
def Bld.fs : List (Nat × Nat) := [(240, 112), (276, 129), (169, 83)]
def Bld.ts : List (Nat × Nat) := [(72, 144), (70, 141), (164, 202), (37, 142), (127, 182)]
def Bld.look : List (Nat × Nat) → Nat → Nat
 | [], n => n
 | (a, b) :: l, n => if n = a then b else Bld.look l n
def Bld.ren : Ren := ⟨Bld.look Bld.fs, Bld.look Bld.ts, fun n => n⟩
theorem Bld.lays240 : Lays.n240 Tryz.prog Bld.ren := by
 constructor <;> first | kernel_rfl | (intro w; kernel_rfl)
theorem Bld.lays169 : Lays.n169 Tryz.prog Bld.ren := by
 constructor <;> first | kernel_rfl | (intro w; kernel_rfl)
theorem Bld.x72 : Builder.X72 Tryz.prog Bld.ren where
 sizeBuilder := by kernel_rfl
 liesBuilder := by kernel_rfl
theorem Bld.extra : Builder.Extra Tryz.prog Bld.ren where
 sizeBuilder := by kernel_rfl
 liesBuilder := by kernel_rfl
 t5 := by kernel_rfl
 a5 := fun w => by kernel_rfl
 z5 := fun w => by kernel_rfl
 v5 := fun w => by kernel_rfl
 infoByte := by kernel_rfl
 cellsByte := by kernel_rfl
 sizeByte := by kernel_rfl
 neB5 := by decide
theorem Bld.copyCheck : Qo Tryz.prog 112 (QbB 146 2) := Q8J Bld.lays240 Bld.x72 (by kernel_rfl) (by constructor <;> kernel_rfl)
theorem Bld.string : Qo Tryz.prog 83 Qai := Qba Bld.lays169 Bld.extra rfl (by constructor <;> kernel_rfl)
end Go.Am
namespace Go.Am
open Go Go.Proofs
set_option maxRecDepth 100000
def Q0H.c (k : Nat) {ρ : Type} (n : Int) (K : Bool × Unit → Option ρ) : Option ρ :=
 bif (decide (n < (0 : Int))) then (K (true, ())) else (K ((decide (n > (2147483647 : Int))), ()))
def Q0H (k : Nat) (n : Int) : Option (Bool × Unit) := Q0H.c k n some
def Q0H.tin : List Ty := [(.int .i64)]
def Q0H.tout : List Ty := [.bool]
def Q0H.sem (k : Nat) : Qt := QL Q0H.tin Q0H.tout fun x => Q0H k x.1
noncomputable def Q0H.ctx (k : Nat) : Ctx := ⟨Tryz.prog, gam []⟩
theorem Q0H.gok (k : Nat) : ∀ f, Qo Tryz.prog f ((Q0H.ctx k).Γ f) := QU
def Q0H.ann (k : Nat) : Ann := .nil
theorem Q0H.body (k : Nat) : Q0C (Q0H.ctx k) Tryz.f111 (Func.code Tryz.f111) (Q0H.ann k) Q0H.tin Q0H.tout (fun x K => Q0H.c k x.1 K) := by
 intro ρ x K; kernel_rfl
theorem Q0H.sem_ok (k : Nat) : Qo Tryz.prog 111 (Q0H.sem k) :=
 Qw (C := Q0H.ctx k) (Q0H.gok k) Tryz.mix (c := Func.code Tryz.f111) (ann := Q0H.ann k) (tin := Q0H.tin) (tout := Q0H.tout) (fun x K => Q0H.c k x.1 K) Tryz.func111 (by kernel_rfl) (by kernel_rfl) Q3.nil (Q0H.body k)
abbrev Q1.l0.σ : Type := (List Int) × Unit × Int × Int × Unit
abbrev Q1.l0.τ : Type := (Int × Unit) ⊕ (Unit)
def Q1.l0.r (k : Nat) {ρ : Type} (x : Q1.l0.σ) (kn : Q1.l0.σ → Option ρ) (ke : Q1.l0.τ → Option ρ) : Option ρ :=
 bif (decide (x.2.2.2.1 < x.2.2.1)) then (bif (decide (((0 : Int) ≤ x.2.2.2.1) ∧ (x.2.2.2.1 < (((List.length x.1) : Nat) : Int)))) then (let v1 : Int := (List.getD x.1 (Int.toNat x.2.2.2.1) (0 : Int))
 (Q0H k v1).bind fun t2 => bif t2.1 then (ke (.inl (x.2.2.2.1, ()))) else (let v3 : Int := (IntKind.wrap IntKind.i64 (x.2.2.2.1 + (1 : Int)))
 kn (x.1, ((), (x.2.2.1, (v3, ())))))) else (none)) else (ke (.inr ()))
def Q1.l0 (k : Nat) : Nat → Q1.l0.σ → Option Q1.l0.τ := Q0T (Q1.l0.r k)
def Q1.l0.T : StT := ⟨.dat (.sl (.int .i64)) :: .fn 111 (.dat .unit) :: us 5 ++ .dat (.int .i64) :: .dat (.int .i64) :: us 10, []⟩
def Q1.l0.os : List Out := [⟨.ret, [.mask [4], .auto 0], ⟨us 4 ++ .dat (.int .i64) :: us 14, []⟩⟩, ⟨(.exit 0), [.mask [], .auto 0], ⟨us 19, []⟩⟩]
abbrev Q1.τ : Type := (Int × Unit)
def Q1.c (k : Nat) {ρ : Type} (s : (List Int)) (f : Unit) (K : Q1.τ → Option ρ) : Option ρ :=
  let v0 : Int := (((List.length s) : Nat) : Int)
  (Q1.l0 k k (s, ((), (v0, ((0 : Int), ()))))).bind fun t4 => (match t4 with
 | .inl t5 => (K (t5.1, ()))
 | .inr (t6) => (K ((-(1 : Int)), ())))
def Q1 (k : Nat) (s : (List Int)) (f : Unit) : Option Q1.τ := Q1.c k s f some
def Q1.T : Q1d := ⟨[.dat (.sl (.int .i64)), .fn 111 (.dat .unit)], [], 0⟩
def Q1.os : List Out := [⟨.ret, [.freeze (.slot 0), .auto 0], ⟨[.dat (.int .i64)], []⟩⟩]
def Q1.sem (k : Nat) : Qt := Q1o Q1.T Q1.os fun x => Q1 k x.1 x.2.1
noncomputable def Q1.ctx (k : Nat) : Ctx := ⟨Tryz.prog, gam [(111, (Q0H.sem k))]⟩
theorem Q1.gok (k : Nat) : ∀ f, Qo Tryz.prog f ((Q1.ctx k).Γ f) := (Qd (Q0H.sem_ok k) QU)
theorem Q1.l0.round (k : Nat) : Q0V (Q1.ctx k) (Q0n (Func.code Tryz.f128) [1, 0, 1, 0, 0]) (.nil) Q1.l0.T [.mask [0, 1, 7, 8], .auto 0] Q1.l0.os (Q1.l0.r k) := by
 intro ρ x kn ke; kernel_rfl
theorem Q1.l0.ok (k : Nat) : StOK 0 Tryz.prog (.loop (Q0n (Func.code Tryz.f128) [1, 0, 1, 0, 0])) (QK Q1.l0.T Q1.l0.os (Q1.l0 k k)) :=
 Q0X (C := Q1.ctx k) (Q1.gok k) Tryz.mix Q3.nil (by kernel_rfl) (by kernel_rfl) (by kernel_rfl) (Q1.l0.round k) k
def Q1.ann (k : Nat) : Ann := .node [] none (.nil) (.node [] none (.node [] none (.nil) (.node [] none (.node [] (some (QK Q1.l0.T Q1.l0.os (Q1.l0 k k))) .nil .nil) (.nil))) (.nil))
theorem Q1.body (k : Nat) : Q1y (Q1.ctx k) Tryz.f128 (Func.code Tryz.f128) (Q1.ann k) Q1.T Q1.os (fun x K => Q1.c k x.1 x.2.1 K) := by
 intro ρ x K; kernel_rfl
theorem Q1.sem_ok (k : Nat) : Qo Tryz.prog 128 (Q1.sem k) :=
 Q0Y (C := Q1.ctx k) (Q1.gok k) Tryz.mix (c := Func.code Tryz.f128) (ann := Q1.ann k) (T := Q1.T) (os := Q1.os) (fun x K => Q1.c k x.1 x.2.1 K) Tryz.func128 (by kernel_rfl) (by kernel_rfl) (Q3.seq Q3.nil (Q3.seq (Q3.seq Q3.nil (Q3.block (Q3.loop (by kernel_rfl) (Q1.l0.ok k)))) Q3.nil)) (Q1.body k) (by kernel_rfl) (by kernel_rfl) (by kernel_rfl)
abbrev Qe.τ : Type := (Bool × Unit)
def Qe.c (k : Nat) {ρ : Type} (s : (List Int)) (f : Unit) (K : Qe.τ → Option ρ) : Option ρ :=
 (Q1 k s ()).bind fun t0 => K ((decide (t0.1 ≥ (0 : Int))), ())
def Qe (k : Nat) (s : (List Int)) (f : Unit) : Option Qe.τ := Qe.c k s f some
def Qe.T : Q1d := ⟨[.dat (.sl (.int .i64)), .fn 111 (.dat .unit)], [], 0⟩
def Qe.os : List Out := [⟨.ret, [.freeze (.slot 0), .auto 0], ⟨[.dat .bool], []⟩⟩]
def Qe.sem (k : Nat) : Qt := Q1o Qe.T Qe.os fun x => Qe k x.1 x.2.1
noncomputable def Qe.ctx (k : Nat) : Ctx := ⟨Tryz.prog, gam [(128, (Q1.sem k))]⟩
theorem Qe.gok (k : Nat) : ∀ f, Qo Tryz.prog f ((Qe.ctx k).Γ f) := (Qd (Q1.sem_ok k) QU)
def Qe.ann (k : Nat) : Ann := .nil
theorem Qe.body (k : Nat) : Q1y (Qe.ctx k) Tryz.f110 (Func.code Tryz.f110) (Qe.ann k) Qe.T Qe.os (fun x K => Qe.c k x.1 x.2.1 K) := by
 intro ρ x K; kernel_rfl
theorem Qe.sem_ok (k : Nat) : Qo Tryz.prog 110 (Qe.sem k) :=
 Q0Y (C := Qe.ctx k) (Qe.gok k) Tryz.mix (c := Func.code Tryz.f110) (ann := Qe.ann k) (T := Qe.T) (os := Qe.os) (fun x K => Qe.c k x.1 x.2.1 K) Tryz.func110 (by kernel_rfl) (by kernel_rfl) Q3.nil (Qe.body k) (by kernel_rfl) (by kernel_rfl) (by kernel_rfl)
def Q0Q.c (k : Nat) {ρ : Type} (l : (List Int)) (K : Bool × Unit → Option ρ) : Option ρ :=
 (Qe k l ()).bind fun t0 => K ((!t0.1), ())
def Q0Q (k : Nat) (l : (List Int)) : Option (Bool × Unit) := Q0Q.c k l some
def Q0Q.tin : List Ty := [(.sl (.int .i64))]
def Q0Q.tout : List Ty := [.bool]
def Q0Q.sem (k : Nat) : Qt := QL Q0Q.tin Q0Q.tout fun x => Q0Q k x.1
noncomputable def Q0Q.ctx (k : Nat) : Ctx := ⟨Tryz.prog, gam [(110, (Qe.sem k))]⟩
theorem Q0Q.gok (k : Nat) : ∀ f, Qo Tryz.prog f ((Q0Q.ctx k).Γ f) := (Qd (Qe.sem_ok k) QU)
def Q0Q.ann (k : Nat) : Ann := .nil
theorem Q0Q.body (k : Nat) : Q0C (Q0Q.ctx k) Tryz.f79 (Func.code Tryz.f79) (Q0Q.ann k) Q0Q.tin Q0Q.tout (fun x K => Q0Q.c k x.1 K) := by
 intro ρ x K; kernel_rfl
theorem Q0Q.sem_ok (k : Nat) : Qo Tryz.prog 79 (Q0Q.sem k) :=
 Qw (C := Q0Q.ctx k) (Q0Q.gok k) Tryz.mix (c := Func.code Tryz.f79) (ann := Q0Q.ann k) (tin := Q0Q.tin) (tout := Q0Q.tout) (fun x K => Q0Q.c k x.1 K) Tryz.func79 (by kernel_rfl) (by kernel_rfl) Q3.nil (Q0Q.body k)
def Q0l.c (k : Nat) {ρ : Type} (x_0 : Qdw) (K : Bool × Unit → Option ρ) : Option ρ :=
 let v0 : Int := x_0.2.1
 bif (decide (v0 ≥ (0 : Int))) then (let v1 : Int := x_0.2.1
 bif (decide (v1 ≤ (20000 : Int))) then (let v2 : Int := x_0.2.2.1
 bif (decide (v2 ≥ (0 : Int))) then (let v3 : Int := x_0.2.2.1
 bif (decide (v3 ≤ (15 : Int))) then (let v4 : Int := x_0.2.2.2.1
 let v5 : Int := x_0.2.2.2.2.1
 let v6 : Int := x_0.2.2.2.2.2.1
 (Q0Q k (List.set (List.set (List.set (List.replicate 3 (0 : Int)) 0 v4) 1 v5) 2 v6)).bind fun t7 => K (t7.1, ())) else (K (false, ()))) else (K (false, ()))) else (K (false, ()))) else (K (false, ()))
def Q0l (k : Nat) (x_0 : Qdw) : Option (Bool × Unit) := Q0l.c k x_0 some
def Q0l.tin : List Ty := [Qdt]
def Q0l.tout : List Ty := [.bool]
def Q0l.sem (k : Nat) : Qt := QL Q0l.tin Q0l.tout fun x => Q0l k x.1
noncomputable def Q0l.ctx (k : Nat) : Ctx := ⟨Tryz.prog, gam [(79, (Q0Q.sem k))]⟩
theorem Q0l.gok (k : Nat) : ∀ f, Qo Tryz.prog f ((Q0l.ctx k).Γ f) := (Qd (Q0Q.sem_ok k) QU)
def Q0l.ann (k : Nat) : Ann := .nil
theorem Q0l.body (k : Nat) : Q0C (Q0l.ctx k) Tryz.f32 (Func.code Tryz.f32) (Q0l.ann k) Q0l.tin Q0l.tout (fun x K => Q0l.c k x.1 K) := by
 intro ρ x K; kernel_rfl
theorem Q0l.sem_ok (k : Nat) : Qo Tryz.prog 32 (Q0l.sem k) :=
 Qw (C := Q0l.ctx k) (Q0l.gok k) Tryz.mix (c := Func.code Tryz.f32) (ann := Q0l.ann k) (tin := Q0l.tin) (tout := Q0l.tout) (fun x K => Q0l.c k x.1 K) Tryz.func32 (by kernel_rfl) (by kernel_rfl) Q3.nil (Q0l.body k)
abbrev QA.τ : Type := QdC 
def QA.c (k : Nat) {ρ : Type}  (K : QA.τ → Option ρ) : Option ρ :=
 K ((((), ((), ())), ()), ([], ()))
def QA (k : Nat)  : Option QA.τ := QA.c k  some
def QA.T : Q1d := ⟨[], [], 0⟩
def QA.os : List Out := [⟨.ret, [.auto 0], ⟨[.ptr 0 []], [.pair (.pair (.sfp 0 [0] 146) (.pair (.vbs 1) (.dat .unit))) (.dat .unit), .vec (.int .u8)]⟩⟩]
def QA.sem (k : Nat) : Qt := Q1o QA.T QA.os fun x => QA k 
noncomputable def QA.ctx (k : Nat) : Ctx := ⟨Tryz.prog, gam []⟩
theorem QA.gok (k : Nat) : ∀ f, Qo Tryz.prog f ((QA.ctx k).Γ f) := QU
def QA.ann (k : Nat) : Ann := .nil
theorem QA.body (k : Nat) : Q1y (QA.ctx k) Tryz.f33 (Func.code Tryz.f33) (QA.ann k) QA.T QA.os (fun x K => QA.c k  K) := by
 intro ρ x K; kernel_rfl
theorem QA.sem_ok (k : Nat) : Qo Tryz.prog 33 (QA.sem k) :=
 Q0Y (C := QA.ctx k) (QA.gok k) Tryz.mix (c := Func.code Tryz.f33) (ann := QA.ann k) (T := QA.T) (os := QA.os) (fun x K => QA.c k  K) Tryz.func33 (by kernel_rfl) (by kernel_rfl) Q3.nil (QA.body k) (by kernel_rfl) (by kernel_rfl) (by kernel_rfl)
abbrev Q09.l0.σ : Type := Int × Int × Int × (List Int) × Unit
abbrev Q09.l0.τ : Type := ((List Int) × Unit)
def Q09.l0.r (k : Nat) {ρ : Type} (x : Q09.l0.σ) (kn : Q09.l0.σ → Option ρ) (ke : Q09.l0.τ → Option ρ) : Option ρ :=
 bif (decide (x.2.2.1 < x.2.1)) then (let v1 : Int := (IntKind.wrap IntKind.i64 ((8 : Int) * x.2.2.1))
 bif (decide ((0 : Int) ≤ v1)) then (let v2 : Int := (Q22 IntKind.u64 x.1 v1)
 bif (decide (((0 : Int) ≤ x.2.2.1) ∧ (x.2.2.1 < (((List.length x.2.2.2.1) : Nat) : Int)))) then (let v3 : Int := (IntKind.wrap IntKind.i64 (x.2.2.1 + (1 : Int)))
 kn (x.1, (x.2.1, (v3, ((List.set x.2.2.2.1 (Int.toNat x.2.2.1) (IntKind.wrap IntKind.u8 v2)), ()))))) else (none)) else (none)) else (ke (x.2.2.2.1, ()))
def Q09.l0 (k : Nat) : Nat → Q09.l0.σ → Option Q09.l0.τ := Q0T (Q09.l0.r k)
def Q09.l0.T : StT := ⟨.dat (.int .u64) :: us 4 ++ .vsl 0 :: us 4 ++ .dat (.int .i64) :: .dat (.int .i64) :: us 13, [.vec (.int .u8)]⟩
def Q09.l0.os : List Out := [⟨(.exit 0), [.mask [5], .auto 0], ⟨us 5 ++ .vsl 0 :: us 19, [.vec (.int .u8)]⟩⟩]
def Q09.c (k : Nat) {ρ : Type} (n : Int) (bytes : Int) (K : ByteArray × Unit → Option ρ) : Option ρ :=
 bif ((decide (((0 : Int) ≤ bytes) ∧ (bytes ≤ bytes))) && (Nat.ble ((Int.toNat bytes) * 1) 140737488355328)) then (let v0 : Int := (((List.length (List.replicate (Int.toNat bytes) (0 : Int))) : Nat) : Int)
 (Q09.l0 k k (n, (v0, ((0 : Int), ((List.replicate (Int.toNat bytes) (0 : Int)), ()))))).bind fun t4 => K ((bytesOf t4.1), ())) else (none)
def Q09 (k : Nat) (n : Int) (bytes : Int) : Option QdH := Q09.c k n bytes some
def Q09.tin : List Ty := [(.int .u64), (.int .i64)]
def Q09.tout : List Ty := [.str]
def Q09.sem (k : Nat) : Qt := QL Q09.tin Q09.tout fun x => Q09 k x.1 x.2.1
noncomputable def Q09.ctx (k : Nat) : Ctx := ⟨Tryz.prog, gam []⟩
theorem Q09.gok (k : Nat) : ∀ f, Qo Tryz.prog f ((Q09.ctx k).Γ f) := QU
theorem Q09.l0.round (k : Nat) : Q0V (Q09.ctx k) (Q0n (Func.code Tryz.f82) [1, 1, 0, 1, 0, 0]) (.nil) Q09.l0.T [.mask [0, 5, 10, 11], .auto 0] Q09.l0.os (Q09.l0.r k) := by
 intro ρ x kn ke; kernel_rfl
theorem Q09.l0.ok (k : Nat) : StOK 0 Tryz.prog (.loop (Q0n (Func.code Tryz.f82) [1, 1, 0, 1, 0, 0])) (QK Q09.l0.T Q09.l0.os (Q09.l0 k k)) :=
 Q0X (C := Q09.ctx k) (Q09.gok k) Tryz.mix Q3.nil (by kernel_rfl) (by kernel_rfl) (by kernel_rfl) (Q09.l0.round k) k
def Q09.ann (k : Nat) : Ann := .node [] none (.nil) (.node [] none (.nil) (.node [] none (.node [] none (.nil) (.node [] none (.node [.mask [0, 5, 10, 11], .auto 0] (some (QK Q09.l0.T Q09.l0.os (Q09.l0 k k))) .nil .nil) (.nil))) (.nil)))
theorem Q09.body (k : Nat) : Q0C (Q09.ctx k) Tryz.f82 (Func.code Tryz.f82) (Q09.ann k) Q09.tin Q09.tout (fun x K => Q09.c k x.1 x.2.1 K) := by
 intro ρ x K; kernel_rfl
theorem Q09.sem_ok (k : Nat) : Qo Tryz.prog 82 (Q09.sem k) :=
 Qw (C := Q09.ctx k) (Q09.gok k) Tryz.mix (c := Func.code Tryz.f82) (ann := Q09.ann k) (tin := Q09.tin) (tout := Q09.tout) (fun x K => Q09.c k x.1 x.2.1 K) Tryz.func82 (by kernel_rfl) (by kernel_rfl) (Q3.seq Q3.nil (Q3.seq Q3.nil (Q3.seq (Q3.seq Q3.nil (Q3.block (Q3.loop (by kernel_rfl) (Q09.l0.ok k)))) Q3.nil))) (Q09.body k)
abbrev Qg.τ : Type := (Int × QdF × (List Int) × Unit)
def Qg.c (k : Nat) {ρ : Type} (s : ByteArray) (b0 : QdF) (b1 : (List Int)) (K : Qg.τ → Option ρ) : Option ρ :=
 bif (Nat.ble (((List.length b1) + (List.length (Qv s))) * 1) 140737488355328) then (K ((((ByteArray.size s) : Nat) : Int), ((((), ((), ())), ()), ((b1 ++ (Qv s)), ())))) else (none)
def Qg (k : Nat) (s : ByteArray) (b0 : QdF) (b1 : (List Int)) : Option Qg.τ := Qg.c k s b0 b1 some
def Qg.T : Q1d := ⟨[.ptr 0 [0], .dat .str], [.pair (.pair (.sfp 0 [0] 146) (.pair (.vbs 1) (.dat .unit))) (.dat .unit), .vec (.int .u8)], 1⟩
def Qg.os : List Out := [⟨.ret, [.freeze (.slot 0), .auto 1], ⟨[.dat (.int .i64), .undef], [.pair (.pair (.sfp 0 [0] 146) (.pair (.vbs 1) (.dat .unit))) (.dat .unit), .vec (.int .u8)]⟩⟩]
def Qg.sem (k : Nat) : Qt := Q1o Qg.T Qg.os fun x => Qg k x.1 x.2.1 x.2.2.1
noncomputable def Qg.ctx (k : Nat) : Ctx := ⟨Tryz.prog, gam [(112, (QbB 146 2))]⟩
theorem Qg.gok (k : Nat) : ∀ f, Qo Tryz.prog f ((Qg.ctx k).Γ f) := (Qd Bld.copyCheck QU)
def Qg.ann (k : Nat) : Ann := .nil
theorem Qg.body (k : Nat) : Q1y (Qg.ctx k) Tryz.f80 (Func.code Tryz.f80) (Qg.ann k) Qg.T Qg.os (fun x K => Qg.c k x.1 x.2.1 x.2.2.1 K) := by
 intro ρ x K; kernel_rfl
theorem Qg.sem_ok (k : Nat) : Qo Tryz.prog 80 (Qg.sem k) :=
 Q0Y (C := Qg.ctx k) (Qg.gok k) Tryz.mix (c := Func.code Tryz.f80) (ann := Qg.ann k) (T := Qg.T) (os := Qg.os) (fun x K => Qg.c k x.1 x.2.1 x.2.2.1 K) Tryz.func80 (by kernel_rfl) (by kernel_rfl) Q3.nil (Qg.body k) (by kernel_rfl) (by kernel_rfl) (by kernel_rfl)
abbrev Qf.τ : Type := QdC 
def Qf.c (k : Nat) {ρ : Type} (s : ByteArray) (b0 : QdF) (b1 : (List Int)) (K : Qf.τ → Option ρ) : Option ρ :=
 (Qg k s (((), ((), ())), ()) b1).bind fun t0 => K ((((), ((), ())), ()), (t0.2.2.1, ()))
def Qf (k : Nat) (s : ByteArray) (b0 : QdF) (b1 : (List Int)) : Option Qf.τ := Qf.c k s b0 b1 some
def Qf.T : Q1d := ⟨[.ptr 0 [], .dat .str], [.pair (.pair (.sfp 0 [0] 146) (.pair (.vbs 1) (.dat .unit))) (.dat .unit), .vec (.int .u8)], 1⟩
def Qf.os : List Out := [⟨.ret, [.auto 1], ⟨[], [.pair (.pair (.sfp 0 [0] 146) (.pair (.vbs 1) (.dat .unit))) (.dat .unit), .vec (.int .u8)]⟩⟩]
def Qf.sem (k : Nat) : Qt := Q1o Qf.T Qf.os fun x => Qf k x.1 x.2.1 x.2.2.1
noncomputable def Qf.ctx (k : Nat) : Ctx := ⟨Tryz.prog, gam [(80, (Qg.sem k))]⟩
theorem Qf.gok (k : Nat) : ∀ f, Qo Tryz.prog f ((Qf.ctx k).Γ f) := (Qd (Qg.sem_ok k) QU)
def Qf.ann (k : Nat) : Ann := .nil
theorem Qf.body (k : Nat) : Q1y (Qf.ctx k) Tryz.f34 (Func.code Tryz.f34) (Qf.ann k) Qf.T Qf.os (fun x K => Qf.c k x.1 x.2.1 x.2.2.1 K) := by
 intro ρ x K; kernel_rfl
theorem Qf.sem_ok (k : Nat) : Qo Tryz.prog 34 (Qf.sem k) :=
 Q0Y (C := Qf.ctx k) (Qf.gok k) Tryz.mix (c := Func.code Tryz.f34) (ann := Qf.ann k) (T := Qf.T) (os := Qf.os) (fun x K => Qf.c k x.1 x.2.1 x.2.2.1 K) Tryz.func34 (by kernel_rfl) (by kernel_rfl) Q3.nil (Qf.body k) (by kernel_rfl) (by kernel_rfl) (by kernel_rfl)
abbrev Qr.τ : Type := QdC 
def Qr.c (k : Nat) {ρ : Type} (n : Int) (b0 : QdF) (b1 : (List Int)) (K : Qr.τ → Option ρ) : Option ρ :=
 (Q09 k (IntKind.wrap IntKind.u64 n) (4 : Int)).bind fun t0 => (Qf k t0.1 (((), ((), ())), ()) b1).bind fun t1 => K ((((), ((), ())), ()), (t1.2.1, ()))
def Qr (k : Nat) (n : Int) (b0 : QdF) (b1 : (List Int)) : Option Qr.τ := Qr.c k n b0 b1 some
def Qr.T : Q1d := ⟨[.ptr 0 [], .dat (.int .u32)], [.pair (.pair (.sfp 0 [0] 146) (.pair (.vbs 1) (.dat .unit))) (.dat .unit), .vec (.int .u8)], 1⟩
def Qr.os : List Out := [⟨.ret, [.auto 1], ⟨[], [.pair (.pair (.sfp 0 [0] 146) (.pair (.vbs 1) (.dat .unit))) (.dat .unit), .vec (.int .u8)]⟩⟩]
def Qr.sem (k : Nat) : Qt := Q1o Qr.T Qr.os fun x => Qr k x.1 x.2.1 x.2.2.1
noncomputable def Qr.ctx (k : Nat) : Ctx := ⟨Tryz.prog, gam [(82, (Q09.sem k)), (34, (Qf.sem k))]⟩
theorem Qr.gok (k : Nat) : ∀ f, Qo Tryz.prog f ((Qr.ctx k).Γ f) := (Qd (Q09.sem_ok k) (Qd (Qf.sem_ok k) QU))
def Qr.ann (k : Nat) : Ann := .nil
theorem Qr.body (k : Nat) : Q1y (Qr.ctx k) Tryz.f36 (Func.code Tryz.f36) (Qr.ann k) Qr.T Qr.os (fun x K => Qr.c k x.1 x.2.1 x.2.2.1 K) := by
 intro ρ x K; kernel_rfl
theorem Qr.sem_ok (k : Nat) : Qo Tryz.prog 36 (Qr.sem k) :=
 Q0Y (C := Qr.ctx k) (Qr.gok k) Tryz.mix (c := Func.code Tryz.f36) (ann := Qr.ann k) (T := Qr.T) (os := Qr.os) (fun x K => Qr.c k x.1 x.2.1 x.2.2.1 K) Tryz.func36 (by kernel_rfl) (by kernel_rfl) Q3.nil (Qr.body k) (by kernel_rfl) (by kernel_rfl) (by kernel_rfl)
abbrev QM.τ : Type := QdC 
def QM.c (k : Nat) {ρ : Type} (h : (List Int)) (b0 : QdF) (b1 : (List Int)) (K : QM.τ → Option ρ) : Option ρ :=
 let v0 : ByteArray := (bytesOf (List.take 32 (List.drop 0 h)))
 (Qf k v0 (((), ((), ())), ()) b1).bind fun t1 => K ((((), ((), ())), ()), (t1.2.1, ()))
def QM (k : Nat) (h : (List Int)) (b0 : QdF) (b1 : (List Int)) : Option QM.τ := QM.c k h b0 b1 some
def QM.T : Q1d := ⟨[.ptr 0 [], .dat QdG], [.pair (.pair (.sfp 0 [0] 146) (.pair (.vbs 1) (.dat .unit))) (.dat .unit), .vec (.int .u8)], 1⟩
def QM.os : List Out := [⟨.ret, [.auto 1], ⟨[], [.pair (.pair (.sfp 0 [0] 146) (.pair (.vbs 1) (.dat .unit))) (.dat .unit), .vec (.int .u8)]⟩⟩]
def QM.sem (k : Nat) : Qt := Q1o QM.T QM.os fun x => QM k x.1 x.2.1 x.2.2.1
noncomputable def QM.ctx (k : Nat) : Ctx := ⟨Tryz.prog, gam [(34, (Qf.sem k))]⟩
theorem QM.gok (k : Nat) : ∀ f, Qo Tryz.prog f ((QM.ctx k).Γ f) := (Qd (Qf.sem_ok k) QU)
def QM.ann (k : Nat) : Ann := .nil
theorem QM.body (k : Nat) : Q1y (QM.ctx k) Tryz.f81 (Func.code Tryz.f81) (QM.ann k) QM.T QM.os (fun x K => QM.c k x.1 x.2.1 x.2.2.1 K) := by
 intro ρ x K; kernel_rfl
theorem QM.sem_ok (k : Nat) : Qo Tryz.prog 81 (QM.sem k) :=
 Q0Y (C := QM.ctx k) (QM.gok k) Tryz.mix (c := Func.code Tryz.f81) (ann := QM.ann k) (T := QM.T) (os := QM.os) (fun x K => QM.c k x.1 x.2.1 x.2.2.1 K) Tryz.func81 (by kernel_rfl) (by kernel_rfl) Q3.nil (QM.body k) (by kernel_rfl) (by kernel_rfl) (by kernel_rfl)
abbrev Qp.τ : Type := QdH 
def Qp.c (k : Nat) {ρ : Type} (b0 : QdF) (b1 : (List Int)) (K : Qp.τ → Option ρ) : Option ρ :=
 bif (Nat.ble (List.length b1) 9223372036854775807) then (K ((bytesOf b1), ())) else (none)
def Qp (k : Nat) (b0 : QdF) (b1 : (List Int)) : Option Qp.τ := Qp.c k b0 b1 some
def Qp.T : Q1d := ⟨[.ptr 0 []], [.pair (.pair (.sfp 0 [0] 146) (.pair (.vbs 1) (.dat .unit))) (.dat .unit), .vec (.int .u8)], 1⟩
def Qp.os : List Out := [⟨.ret, [.freeze (.slot 0), .auto 1], ⟨[.dat .str], [.undef]⟩⟩]
def Qp.sem (k : Nat) : Qt := Q1o Qp.T Qp.os fun x => Qp k x.1 x.2.1
noncomputable def Qp.ctx (k : Nat) : Ctx := ⟨Tryz.prog, gam [(83, Qai)]⟩
theorem Qp.gok (k : Nat) : ∀ f, Qo Tryz.prog f ((Qp.ctx k).Γ f) := (Qd Bld.string QU)
def Qp.ann (k : Nat) : Ann := .nil
theorem Qp.body (k : Nat) : Q1y (Qp.ctx k) Tryz.f38 (Func.code Tryz.f38) (Qp.ann k) Qp.T Qp.os (fun x K => Qp.c k x.1 x.2.1 K) := by
 intro ρ x K; kernel_rfl
theorem Qp.sem_ok (k : Nat) : Qo Tryz.prog 38 (Qp.sem k) :=
 Q0Y (C := Qp.ctx k) (Qp.gok k) Tryz.mix (c := Func.code Tryz.f38) (ann := Qp.ann k) (T := Qp.T) (os := Qp.os) (fun x K => Qp.c k x.1 x.2.1 K) Tryz.func38 (by kernel_rfl) (by kernel_rfl) Q3.nil (Qp.body k) (by kernel_rfl) (by kernel_rfl) (by kernel_rfl)
def Q0t.c (k : Nat) {ρ : Type} (h : QdA) (K : ByteArray × Unit → Option ρ) : Option ρ :=
 (QA k ).bind fun t0 => let v1 : Int := h.1
 (Qr k v1 (((), ((), ())), ()) t0.2.1).bind fun t2 => let v3 : (List Int) := h.2.1
 (QM k v3 (((), ((), ())), ()) t2.2.1).bind fun t4 => let v5 : (List Int) := h.2.2.1
 (QM k v5 (((), ((), ())), ()) t4.2.1).bind fun t6 => let v7 : Int := h.2.2.2.1
 (Qr k v7 (((), ((), ())), ()) t6.2.1).bind fun t8 => let v9 : Int := h.2.2.2.2.1
 (Qr k v9 (((), ((), ())), ()) t8.2.1).bind fun t10 => let v11 : Int := h.2.2.2.2.2.1
 (Qr k v11 (((), ((), ())), ()) t10.2.1).bind fun t12 => (Qp k (((), ((), ())), ()) t12.2.1).bind fun t13 => K (t13.1, ())
def Q0t (k : Nat) (h : QdA) : Option QdH := Q0t.c k h some
def Q0t.tin : List Ty := [Qdu]
def Q0t.tout : List Ty := [.str]
def Q0t.sem (k : Nat) : Qt := QL Q0t.tin Q0t.tout fun x => Q0t k x.1
noncomputable def Q0t.ctx (k : Nat) : Ctx := ⟨Tryz.prog, gam [(33, (QA.sem k)), (36, (Qr.sem k)), (81, (QM.sem k)), (38, (Qp.sem k))]⟩
theorem Q0t.gok (k : Nat) : ∀ f, Qo Tryz.prog f ((Q0t.ctx k).Γ f) := (Qd (QA.sem_ok k) (Qd (Qr.sem_ok k) (Qd (QM.sem_ok k) (Qd (Qp.sem_ok k) QU))))
def Q0t.ann (k : Nat) : Ann := .nil
theorem Q0t.body (k : Nat) : Q0C (Q0t.ctx k) Tryz.f35 (Func.code Tryz.f35) (Q0t.ann k) Q0t.tin Q0t.tout (fun x K => Q0t.c k x.1 K) := by
 intro ρ x K; kernel_rfl
theorem Q0t.sem_ok (k : Nat) : Qo Tryz.prog 35 (Q0t.sem k) :=
 Qw (C := Q0t.ctx k) (Q0t.gok k) Tryz.mix (c := Func.code Tryz.f35) (ann := Q0t.ann k) (tin := Q0t.tin) (tout := Q0t.tout) (fun x K => Q0t.c k x.1 K) Tryz.func35 (by kernel_rfl) (by kernel_rfl) Q3.nil (Q0t.body k)
abbrev QV.τ : Type := QdC 
def QV.c (k : Nat) {ρ : Type} (b : Int) (b0 : QdF) (b1 : (List Int)) (K : QV.τ → Option ρ) : Option ρ :=
 (Q09 k (IntKind.wrap IntKind.u64 b) (1 : Int)).bind fun t0 => (Qf k t0.1 (((), ((), ())), ()) b1).bind fun t1 => K ((((), ((), ())), ()), (t1.2.1, ()))
def QV (k : Nat) (b : Int) (b0 : QdF) (b1 : (List Int)) : Option QV.τ := QV.c k b b0 b1 some
def QV.T : Q1d := ⟨[.ptr 0 [], .dat (.int .u8)], [.pair (.pair (.sfp 0 [0] 146) (.pair (.vbs 1) (.dat .unit))) (.dat .unit), .vec (.int .u8)], 1⟩
def QV.os : List Out := [⟨.ret, [.auto 1], ⟨[], [.pair (.pair (.sfp 0 [0] 146) (.pair (.vbs 1) (.dat .unit))) (.dat .unit), .vec (.int .u8)]⟩⟩]
def QV.sem (k : Nat) : Qt := Q1o QV.T QV.os fun x => QV k x.1 x.2.1 x.2.2.1
noncomputable def QV.ctx (k : Nat) : Ctx := ⟨Tryz.prog, gam [(82, (Q09.sem k)), (34, (Qf.sem k))]⟩
theorem QV.gok (k : Nat) : ∀ f, Qo Tryz.prog f ((QV.ctx k).Γ f) := (Qd (Q09.sem_ok k) (Qd (Qf.sem_ok k) QU))
def QV.ann (k : Nat) : Ann := .nil
theorem QV.body (k : Nat) : Q1y (QV.ctx k) Tryz.f37 (Func.code Tryz.f37) (QV.ann k) QV.T QV.os (fun x K => QV.c k x.1 x.2.1 x.2.2.1 K) := by
 intro ρ x K; kernel_rfl
theorem QV.sem_ok (k : Nat) : Qo Tryz.prog 37 (QV.sem k) :=
 Q0Y (C := QV.ctx k) (QV.gok k) Tryz.mix (c := Func.code Tryz.f37) (ann := QV.ann k) (T := QV.T) (os := QV.os) (fun x K => QV.c k x.1 x.2.1 x.2.2.1 K) Tryz.func37 (by kernel_rfl) (by kernel_rfl) Q3.nil (QV.body k) (by kernel_rfl) (by kernel_rfl) (by kernel_rfl)
def Q0e.c (k : Nat) {ρ : Type} (x_0 : Qdw) (K : ByteArray × Int × Unit → Option ρ) : Option ρ :=
 (Q0l k ((x_0.1.1, (x_0.1.2.1, (x_0.1.2.2.1, (x_0.1.2.2.2.1, (x_0.1.2.2.2.2.1, (x_0.1.2.2.2.2.2.1, ())))))), (x_0.2.1, (x_0.2.2.1, (x_0.2.2.2.1, (x_0.2.2.2.2.1, (x_0.2.2.2.2.2.1, ()))))))).bind fun t0 => bif (!t0.1) then (K ((⟨(List.toArray [])⟩ : ByteArray), ((130 : Int), ()))) else ((QA k ).bind fun t1 => (Q0t k (x_0.1.1, (x_0.1.2.1, (x_0.1.2.2.1, (x_0.1.2.2.2.1, (x_0.1.2.2.2.2.1, (x_0.1.2.2.2.2.2.1, ()))))))).bind fun t2 => (Qf k t2.1 (((), ((), ())), ()) t1.2.1).bind fun t3 => let v4 : Int := x_0.2.1
 (Qr k (IntKind.wrap IntKind.u32 v4) (((), ((), ())), ()) t3.2.1).bind fun t5 => let v6 : Int := x_0.2.2.1
 (QV k (IntKind.wrap IntKind.u8 v6) (((), ((), ())), ()) t5.2.1).bind fun t7 => let v8 : Int := x_0.2.2.2.1
 (Qr k (IntKind.wrap IntKind.u32 v8) (((), ((), ())), ()) t7.2.1).bind fun t9 => let v10 : Int := x_0.2.2.2.2.1
 (Qr k (IntKind.wrap IntKind.u32 v10) (((), ((), ())), ()) t9.2.1).bind fun t11 => let v12 : Int := x_0.2.2.2.2.2.1
 (Qr k (IntKind.wrap IntKind.u32 v12) (((), ((), ())), ()) t11.2.1).bind fun t13 => (Qp k (((), ((), ())), ()) t13.2.1).bind fun t14 => K (t14.1, ((0 : Int), ())))
def Q0e (k : Nat) (x_0 : Qdw) : Option (ByteArray × Int × Unit) := Q0e.c k x_0 some
def Q0e.tin : List Ty := [Qdt]
def Q0e.tout : List Ty := [.str, (.int .i64)]
def Q0e.sem (k : Nat) : Qt := QL Q0e.tin Q0e.tout fun x => Q0e k x.1
noncomputable def Q0e.ctx (k : Nat) : Ctx := ⟨Tryz.prog, gam [(32, (Q0l.sem k)), (33, (QA.sem k)), (35, (Q0t.sem k)), (34, (Qf.sem k)), (36, (Qr.sem k)), (37, (QV.sem k)), (38, (Qp.sem k))]⟩
theorem Q0e.gok (k : Nat) : ∀ f, Qo Tryz.prog f ((Q0e.ctx k).Γ f) := (Qd (Q0l.sem_ok k) (Qd (QA.sem_ok k) (Qd (Q0t.sem_ok k) (Qd (Qf.sem_ok k) (Qd (Qr.sem_ok k) (Qd (QV.sem_ok k) (Qd (Qp.sem_ok k) QU)))))))
def Q0e.ann (k : Nat) : Ann := .nil
theorem Q0e.body (k : Nat) : Q0C (Q0e.ctx k) Tryz.f7 (Func.code Tryz.f7) (Q0e.ann k) Q0e.tin Q0e.tout (fun x K => Q0e.c k x.1 K) := by
 intro ρ x K; kernel_rfl
theorem Q0e.sem_ok (k : Nat) : Qo Tryz.prog 7 (Q0e.sem k) :=
 Qw (C := Q0e.ctx k) (Q0e.gok k) Tryz.mix (c := Func.code Tryz.f7) (ann := Q0e.ann k) (tin := Q0e.tin) (tout := Q0e.tout) (fun x K => Q0e.c k x.1 K) Tryz.func7 (by kernel_rfl) (by kernel_rfl) Q3.nil (Q0e.body k)
end Go.Am
namespace Go.Am
open Go Go.Proofs
set_option maxRecDepth 100000
abbrev Q0b.τ : Type := (QdE × Unit)
def Q0b.c (k : Nat) {ρ : Type} (s : ByteArray) (K : Q0b.τ → Option ρ) : Option ρ :=
 K ((s, ((0 : Int), ((0 : Int), ()))), ())
def Q0b (k : Nat) (s : ByteArray) : Option Q0b.τ := Q0b.c k s some
def Q0b.T : Q1d := ⟨[.dat .str], [], 0⟩
def Q0b.os : List Out := [⟨.ret, [.auto 0], ⟨[.ptr 0 []], [.dat QdB]⟩⟩]
def Q0b.sem (k : Nat) : Qt := Q1o Q0b.T Q0b.os fun x => Q0b k x.1
noncomputable def Q0b.ctx (k : Nat) : Ctx := ⟨Tryz.prog, gam []⟩
theorem Q0b.gok (k : Nat) : ∀ f, Qo Tryz.prog f ((Q0b.ctx k).Γ f) := QU
def Q0b.ann (k : Nat) : Ann := .nil
theorem Q0b.body (k : Nat) : Q1y (Q0b.ctx k) Tryz.f40 (Func.code Tryz.f40) (Q0b.ann k) Q0b.T Q0b.os (fun x K => Q0b.c k x.1 K) := by
 intro ρ x K; kernel_rfl
theorem Q0b.sem_ok (k : Nat) : Qo Tryz.prog 40 (Q0b.sem k) :=
 Q0Y (C := Q0b.ctx k) (Q0b.gok k) Tryz.mix (c := Func.code Tryz.f40) (ann := Q0b.ann k) (T := Q0b.T) (os := Q0b.os) (fun x K => Q0b.c k x.1 K) Tryz.func40 (by kernel_rfl) (by kernel_rfl) Q3.nil (Q0b.body k) (by kernel_rfl) (by kernel_rfl) (by kernel_rfl)
abbrev Q01.τ : Type := QdD 
def Q01.c (k : Nat) {ρ : Type} (b0 : QdE) (K : Q01.τ → Option ρ) : Option ρ :=
 let v0 : Int := b0.2.2.1
 K (v0, ((b0.1, (b0.2.1, (b0.2.2.1, ()))), ()))
def Q01 (k : Nat) (b0 : QdE) : Option Q01.τ := Q01.c k b0 some
def Q01.T : Q1d := ⟨[.ptr 0 []], [.dat QdB], 1⟩
def Q01.os : List Out := [⟨.ret, [.freeze (.slot 0), .auto 1], ⟨[.dat (.int .i64)], [.dat QdB]⟩⟩]
def Q01.sem (k : Nat) : Qt := Q1o Q01.T Q01.os fun x => Q01 k x.1
noncomputable def Q01.ctx (k : Nat) : Ctx := ⟨Tryz.prog, gam []⟩
theorem Q01.gok (k : Nat) : ∀ f, Qo Tryz.prog f ((Q01.ctx k).Γ f) := QU
def Q01.ann (k : Nat) : Ann := .nil
theorem Q01.body (k : Nat) : Q1y (Q01.ctx k) Tryz.f85 (Func.code Tryz.f85) (Q01.ann k) Q01.T Q01.os (fun x K => Q01.c k x.1 K) := by
 intro ρ x K; kernel_rfl
theorem Q01.sem_ok (k : Nat) : Qo Tryz.prog 85 (Q01.sem k) :=
 Q0Y (C := Q01.ctx k) (Q01.gok k) Tryz.mix (c := Func.code Tryz.f85) (ann := Q01.ann k) (T := Q01.T) (os := Q01.os) (fun x K => Q01.c k x.1 K) Tryz.func85 (by kernel_rfl) (by kernel_rfl) Q3.nil (Q01.body k) (by kernel_rfl) (by kernel_rfl) (by kernel_rfl)
abbrev Q03.τ : Type := QdD 
def Q03.c (k : Nat) {ρ : Type} (b0 : QdE) (K : Q03.τ → Option ρ) : Option ρ :=
 let v0 : ByteArray := b0.1
 let v1 : Int := b0.2.1
 let v2 : Int := (IntKind.wrap IntKind.i64 ((((ByteArray.size v0) : Nat) : Int) - v1))
 K (v2, ((b0.1, (b0.2.1, (b0.2.2.1, ()))), ()))
def Q03 (k : Nat) (b0 : QdE) : Option Q03.τ := Q03.c k b0 some
def Q03.T : Q1d := ⟨[.ptr 0 []], [.dat QdB], 1⟩
def Q03.os : List Out := [⟨.ret, [.freeze (.slot 0), .auto 1], ⟨[.dat (.int .i64)], [.dat QdB]⟩⟩]
def Q03.sem (k : Nat) : Qt := Q1o Q03.T Q03.os fun x => Q03 k x.1
noncomputable def Q03.ctx (k : Nat) : Ctx := ⟨Tryz.prog, gam []⟩
theorem Q03.gok (k : Nat) : ∀ f, Qo Tryz.prog f ((Q03.ctx k).Γ f) := QU
def Q03.ann (k : Nat) : Ann := .nil
theorem Q03.body (k : Nat) : Q1y (Q03.ctx k) Tryz.f113 (Func.code Tryz.f113) (Q03.ann k) Q03.T Q03.os (fun x K => Q03.c k x.1 K) := by
 intro ρ x K; kernel_rfl
theorem Q03.sem_ok (k : Nat) : Qo Tryz.prog 113 (Q03.sem k) :=
 Q0Y (C := Q03.ctx k) (Q03.gok k) Tryz.mix (c := Func.code Tryz.f113) (ann := Q03.ann k) (T := Q03.T) (os := Q03.os) (fun x K => Q03.c k x.1 K) Tryz.func113 (by kernel_rfl) (by kernel_rfl) Q3.nil (Q03.body k) (by kernel_rfl) (by kernel_rfl) (by kernel_rfl)
abbrev Qu.τ : Type := (ByteArray × QdE × Unit)
def Qu.c (k : Nat) {ρ : Type} (n : Int) (b0 : QdE) (K : Qu.τ → Option ρ) : Option ρ :=
 (Q01 k (b0.1, (b0.2.1, (b0.2.2.1, ())))).bind fun t0 => bif (t0.1 != (0 : Int)) then (K ((⟨(List.toArray [])⟩ : ByteArray), ((t0.2.1.1, (t0.2.1.2.1, (t0.2.1.2.2.1, ()))), ()))) else (bif (decide (n < (0 : Int))) then (K ((⟨(List.toArray [])⟩ : ByteArray), ((t0.2.1.1, (t0.2.1.2.1, ((1 : Int), ()))), ()))) else ((Q03 k (t0.2.1.1, (t0.2.1.2.1, (t0.2.1.2.2.1, ())))).bind fun t1 => bif (decide (n > t1.1)) then (K ((⟨(List.toArray [])⟩ : ByteArray), ((t1.2.1.1, (t1.2.1.2.1, ((4 : Int), ()))), ()))) else (let v2 : Int := t1.2.1.2.1
 let v3 : Int := (IntKind.wrap IntKind.i64 (v2 + n))
 let v4 : ByteArray := t1.2.1.1
 let v5 : Int := (IntKind.wrap IntKind.i64 (v3 - n))
 bif (decide (((0 : Int) ≤ v5) ∧ ((v5 ≤ v3) ∧ (v3 ≤ (((ByteArray.size v4) : Nat) : Int))))) then (K ((ByteArray.extract v4 (Int.toNat v5) (Int.toNat v3)), ((t1.2.1.1, (v3, (t1.2.1.2.2.1, ()))), ()))) else (none))))
def Qu (k : Nat) (n : Int) (b0 : QdE) : Option Qu.τ := Qu.c k n b0 some
def Qu.T : Q1d := ⟨[.ptr 0 [], .dat (.int .i64)], [.dat QdB], 1⟩
def Qu.os : List Out := [⟨.ret, [.freeze (.slot 0), .auto 1], ⟨[.dat .str], [.dat QdB]⟩⟩]
def Qu.sem (k : Nat) : Qt := Q1o Qu.T Qu.os fun x => Qu k x.1 x.2.1
noncomputable def Qu.ctx (k : Nat) : Ctx := ⟨Tryz.prog, gam [(85, (Q01.sem k)), (113, (Q03.sem k))]⟩
theorem Qu.gok (k : Nat) : ∀ f, Qo Tryz.prog f ((Qu.ctx k).Γ f) := (Qd (Q01.sem_ok k) (Qd (Q03.sem_ok k) QU))
def Qu.ann (k : Nat) : Ann := .nil
theorem Qu.body (k : Nat) : Q1y (Qu.ctx k) Tryz.f87 (Func.code Tryz.f87) (Qu.ann k) Qu.T Qu.os (fun x K => Qu.c k x.1 x.2.1 K) := by
 intro ρ x K; kernel_rfl
theorem Qu.sem_ok (k : Nat) : Qo Tryz.prog 87 (Qu.sem k) :=
 Q0Y (C := Qu.ctx k) (Qu.gok k) Tryz.mix (c := Func.code Tryz.f87) (ann := Qu.ann k) (T := Qu.T) (os := Qu.os) (fun x K => Qu.c k x.1 x.2.1 K) Tryz.func87 (by kernel_rfl) (by kernel_rfl) Q3.nil (Qu.body k) (by kernel_rfl) (by kernel_rfl) (by kernel_rfl)
abbrev Q04.l0.σ : Type := ByteArray × Int × Int × Int × Unit
abbrev Q04.l0.τ : Type := (Int × Unit)
def Q04.l0.r (k : Nat) {ρ : Type} (x : Q04.l0.σ) (kn : Q04.l0.σ → Option ρ) (ke : Q04.l0.τ → Option ρ) : Option ρ :=
 bif (decide (x.2.2.2.1 < x.2.2.1)) then (bif (decide (((0 : Int) ≤ x.2.2.2.1) ∧ (x.2.2.2.1 < (((ByteArray.size x.1) : Nat) : Int)))) then (let v0 : Int := (Q13 x.1 (Int.toNat x.2.2.2.1))
 let v1 : Int := (IntKind.wrap IntKind.i64 ((8 : Int) * x.2.2.2.1))
 bif (decide ((0 : Int) ≤ v1)) then (let v2 : Int := (Q0U BinOp.or IntKind.u64 x.2.1 (Q2Y IntKind.u64 (IntKind.wrap IntKind.u64 v0) v1))
 let v3 : Int := (IntKind.wrap IntKind.i64 (x.2.2.2.1 + (1 : Int)))
 kn (x.1, (v2, (x.2.2.1, (v3, ()))))) else (none)) else (none)) else (ke (x.2.1, ()))
def Q04.l0 (k : Nat) : Nat → Q04.l0.σ → Option Q04.l0.τ := Q0T (Q04.l0.r k)
def Q04.l0.T : StT := ⟨.dat .str :: us 2 ++ .dat (.int .u64) :: us 2 ++ .dat (.int .i64) :: .dat (.int .i64) :: us 13, []⟩
def Q04.l0.os : List Out := [⟨(.exit 0), [.mask [3], .auto 0], ⟨us 3 ++ .dat (.int .u64) :: us 17, []⟩⟩]
def Q04.c (k : Nat) {ρ : Type} (s : ByteArray) (K : Int × Unit → Option ρ) : Option ρ :=
 (Q04.l0 k k (s, ((0 : Int), ((((ByteArray.size s) : Nat) : Int), ((0 : Int), ()))))).bind fun t4 => K (t4.1, ())
def Q04 (k : Nat) (s : ByteArray) : Option (Int × Unit) := Q04.c k s some
def Q04.tin : List Ty := [.str]
def Q04.tout : List Ty := [(.int .u64)]
def Q04.sem (k : Nat) : Qt := QL Q04.tin Q04.tout fun x => Q04 k x.1
noncomputable def Q04.ctx (k : Nat) : Ctx := ⟨Tryz.prog, gam []⟩
theorem Q04.gok (k : Nat) : ∀ f, Qo Tryz.prog f ((Q04.ctx k).Γ f) := QU
theorem Q04.l0.round (k : Nat) : Q0V (Q04.ctx k) (Q0n (Func.code Tryz.f86) [1, 1, 0, 1, 0, 0]) (.nil) Q04.l0.T [.mask [0, 3, 6, 7], .auto 0] Q04.l0.os (Q04.l0.r k) := by
 intro ρ x kn ke; kernel_rfl
theorem Q04.l0.ok (k : Nat) : StOK 0 Tryz.prog (.loop (Q0n (Func.code Tryz.f86) [1, 1, 0, 1, 0, 0])) (QK Q04.l0.T Q04.l0.os (Q04.l0 k k)) :=
 Q0X (C := Q04.ctx k) (Q04.gok k) Tryz.mix Q3.nil (by kernel_rfl) (by kernel_rfl) (by kernel_rfl) (Q04.l0.round k) k
def Q04.ann (k : Nat) : Ann := .node [] none (.nil) (.node [] none (.nil) (.node [] none (.node [] none (.nil) (.node [] none (.node [] (some (QK Q04.l0.T Q04.l0.os (Q04.l0 k k))) .nil .nil) (.nil))) (.nil)))
theorem Q04.body (k : Nat) : Q0C (Q04.ctx k) Tryz.f86 (Func.code Tryz.f86) (Q04.ann k) Q04.tin Q04.tout (fun x K => Q04.c k x.1 K) := by
 intro ρ x K; kernel_rfl
theorem Q04.sem_ok (k : Nat) : Qo Tryz.prog 86 (Q04.sem k) :=
 Qw (C := Q04.ctx k) (Q04.gok k) Tryz.mix (c := Func.code Tryz.f86) (ann := Q04.ann k) (tin := Q04.tin) (tout := Q04.tout) (fun x K => Q04.c k x.1 K) Tryz.func86 (by kernel_rfl) (by kernel_rfl) (Q3.seq Q3.nil (Q3.seq Q3.nil (Q3.seq (Q3.seq Q3.nil (Q3.block (Q3.loop (by kernel_rfl) (Q04.l0.ok k)))) Q3.nil))) (Q04.body k)
abbrev Qq.τ : Type := QdD 
def Qq.c (k : Nat) {ρ : Type} (b0 : QdE) (K : Qq.τ → Option ρ) : Option ρ :=
 (Qu k (4 : Int) (b0.1, (b0.2.1, (b0.2.2.1, ())))).bind fun t0 => (Q04 k t0.1).bind fun t1 => let v2 : Int := (IntKind.wrap IntKind.u32 t1.1)
 K (v2, ((t0.2.1.1, (t0.2.1.2.1, (t0.2.1.2.2.1, ()))), ()))
def Qq (k : Nat) (b0 : QdE) : Option Qq.τ := Qq.c k b0 some
def Qq.T : Q1d := ⟨[.ptr 0 []], [.dat QdB], 1⟩
def Qq.os : List Out := [⟨.ret, [.freeze (.slot 0), .auto 1], ⟨[.dat (.int .u32)], [.dat QdB]⟩⟩]
def Qq.sem (k : Nat) : Qt := Q1o Qq.T Qq.os fun x => Qq k x.1
noncomputable def Qq.ctx (k : Nat) : Ctx := ⟨Tryz.prog, gam [(87, (Qu.sem k)), (86, (Q04.sem k))]⟩
theorem Qq.gok (k : Nat) : ∀ f, Qo Tryz.prog f ((Qq.ctx k).Γ f) := (Qd (Qu.sem_ok k) (Qd (Q04.sem_ok k) QU))
def Qq.ann (k : Nat) : Ann := .nil
theorem Qq.body (k : Nat) : Q1y (Qq.ctx k) Tryz.f41 (Func.code Tryz.f41) (Qq.ann k) Qq.T Qq.os (fun x K => Qq.c k x.1 K) := by
 intro ρ x K; kernel_rfl
theorem Qq.sem_ok (k : Nat) : Qo Tryz.prog 41 (Qq.sem k) :=
 Q0Y (C := Qq.ctx k) (Qq.gok k) Tryz.mix (c := Func.code Tryz.f41) (ann := Qq.ann k) (T := Qq.T) (os := Qq.os) (fun x K => Qq.c k x.1 K) Tryz.func41 (by kernel_rfl) (by kernel_rfl) Q3.nil (Qq.body k) (by kernel_rfl) (by kernel_rfl) (by kernel_rfl)
def Qq.wsem (k : Nat) : Qt := QaR Qq.T Qq.os fun x => Qq k x.1
theorem Qq.wsem_ok (k : Nat) : Qo Tryz.prog 41 (Qq.wsem k) := QcD (Qq.sem_ok k)
abbrev QP.τ : Type := ((List Int) × QdE × Unit)
def QP.c (k : Nat) {ρ : Type} (b0 : QdE) (K : QP.τ → Option ρ) : Option ρ :=
 (Qu k (32 : Int) (b0.1, (b0.2.1, (b0.2.2.1, ())))).bind fun t0 => let v1 : Int := (((Min.min (List.length (Qv t0.1)) 32) : Nat) : Int)
 let v2 : (List Int) := (Q1O (List.replicate 32 (0 : Int)) 0 (Qv t0.1) (Min.min (List.length (Qv t0.1)) 32))
 K (v2, ((t0.2.1.1, (t0.2.1.2.1, (t0.2.1.2.2.1, ()))), ()))
def QP (k : Nat) (b0 : QdE) : Option QP.τ := QP.c k b0 some
def QP.T : Q1d := ⟨[.ptr 0 []], [.dat QdB], 1⟩
def QP.os : List Out := [⟨.ret, [.freeze (.slot 0), .auto 1], ⟨[.dat QdG], [.dat QdB]⟩⟩]
def QP.sem (k : Nat) : Qt := Q1o QP.T QP.os fun x => QP k x.1
noncomputable def QP.ctx (k : Nat) : Ctx := ⟨Tryz.prog, gam [(87, (Qu.sem k))]⟩
theorem QP.gok (k : Nat) : ∀ f, Qo Tryz.prog f ((QP.ctx k).Γ f) := (Qd (Qu.sem_ok k) QU)
def QP.ann (k : Nat) : Ann := .nil
theorem QP.body (k : Nat) : Q1y (QP.ctx k) Tryz.f84 (Func.code Tryz.f84) (QP.ann k) QP.T QP.os (fun x K => QP.c k x.1 K) := by
 intro ρ x K; kernel_rfl
theorem QP.sem_ok (k : Nat) : Qo Tryz.prog 84 (QP.sem k) :=
 Q0Y (C := QP.ctx k) (QP.gok k) Tryz.mix (c := Func.code Tryz.f84) (ann := QP.ann k) (T := QP.T) (os := QP.os) (fun x K => QP.c k x.1 K) Tryz.func84 (by kernel_rfl) (by kernel_rfl) Q3.nil (QP.body k) (by kernel_rfl) (by kernel_rfl) (by kernel_rfl)
abbrev Ql.p0.σ : Type := ByteArray × Int × QdA × Unit
abbrev Ql.p0.τ : Type := Qdy ⊕ Qdx 
def Ql.p0.r (k : Nat) {ρ : Type} (x : Ql.p0.σ) (K : Ql.p0.τ → Option ρ) : Option ρ :=
 bif (decide (x.2.1 < (0 : Int))) then (K (.inl ((1 : Int), (((0 : Int), ((List.replicate 32 (0 : Int)), ((List.replicate 32 (0 : Int)), ((0 : Int), ((0 : Int), ((0 : Int), ())))))), ())))) else (let v0 : Int := (((ByteArray.size x.1) : Nat) : Int)
 bif (decide (x.2.1 > v0)) then (K (.inl ((1 : Int), (((0 : Int), ((List.replicate 32 (0 : Int)), ((List.replicate 32 (0 : Int)), ((0 : Int), ((0 : Int), ((0 : Int), ())))))), ())))) else (K (.inr (x.1, (x.2.1, ((x.2.2.1.1, (x.2.2.1.2.1, (x.2.2.1.2.2.1, (x.2.2.1.2.2.2.1, (x.2.2.1.2.2.2.2.1, (x.2.2.1.2.2.2.2.2.1, ())))))), ()))))))
def Ql.p0 (k : Nat) (x : Ql.p0.σ) : Option Ql.p0.τ := Ql.p0.r k x some
def Ql.p0.T : StT := ⟨.dat .str :: .dat (.int .i64) :: us 2 ++ .ptr 0 [] :: us 41, [.dat Qdu]⟩
def Ql.p0.os : List Out := [⟨.ret, [.mask [4, 5], .auto 0], ⟨us 4 ++ .ptr 0 [] :: .dat (.int .i64) :: us 40, [.dat Qdu]⟩⟩, ⟨.normal, [.mask [0, 1, 4], .auto 0], ⟨.dat .str :: .dat (.int .i64) :: us 2 ++ .ptr 0 [] :: us 41, [.dat Qdu]⟩⟩]
def Ql.c (k : Nat) {ρ : Type} (s : ByteArray) (at_1 : Int) (K : QdA × Int × Unit → Option ρ) : Option ρ :=
  (Ql.p0 k (s, (at_1, (((0 : Int), ((List.replicate 32 (0 : Int)), ((List.replicate 32 (0 : Int)), ((0 : Int), ((0 : Int), ((0 : Int), ())))))), ())))).bind fun t1 => (match t1 with
 | .inl t2 => (K ((t2.2.1.1, (t2.2.1.2.1, (t2.2.1.2.2.1, (t2.2.1.2.2.2.1, (t2.2.1.2.2.2.2.1, (t2.2.1.2.2.2.2.2.1, ())))))), (t2.1, ())))
 | .inr (t3) => (bif (decide (((0 : Int) ≤ t3.2.1) ∧ ((t3.2.1 ≤ (((ByteArray.size t3.1) : Nat) : Int)) ∧ ((((ByteArray.size t3.1) : Nat) : Int) ≤ (((ByteArray.size t3.1) : Nat) : Int))))) then (let v4 : ByteArray := (ByteArray.extract t3.1 (Int.toNat t3.2.1) (Int.toNat (((ByteArray.size t3.1) : Nat) : Int)))
  (Q0b k v4).bind fun t5 => (Qq k (t5.1.1, (t5.1.2.1, (t5.1.2.2.1, ())))).bind fun t6 => (QP k (t6.2.1.1, (t6.2.1.2.1, (t6.2.1.2.2.1, ())))).bind fun t7 => (QP k (t7.2.1.1, (t7.2.1.2.1, (t7.2.1.2.2.1, ())))).bind fun t8 => (Qq k (t8.2.1.1, (t8.2.1.2.1, (t8.2.1.2.2.1, ())))).bind fun t9 => (Qq k (t9.2.1.1, (t9.2.1.2.1, (t9.2.1.2.2.1, ())))).bind fun t10 => (Qq k (t10.2.1.1, (t10.2.1.2.1, (t10.2.1.2.2.1, ())))).bind fun t11 => (Q01 k (t11.2.1.1, (t11.2.1.2.1, (t11.2.1.2.2.1, ())))).bind fun t12 => bif (t12.1 != (0 : Int)) then ((Q01 k (t12.2.1.1, (t12.2.1.2.1, (t12.2.1.2.2.1, ())))).bind fun t13 => K (((0 : Int), ((List.replicate 32 (0 : Int)), ((List.replicate 32 (0 : Int)), ((0 : Int), ((0 : Int), ((0 : Int), ())))))), (t13.1, ()))) else (K ((t6.1, (t7.1, (t8.1, (t9.1, (t10.1, (t11.1, ())))))), ((0 : Int), ())))) else (none)))
def Ql (k : Nat) (s : ByteArray) (at_1 : Int) : Option Qdz := Ql.c k s at_1 some
def Ql.tin : List Ty := [.str, (.int .i64)]
def Ql.tout : List Ty := [Qdu, (.int .i64)]
def Ql.sem (k : Nat) : Qt := QL Ql.tin Ql.tout fun x => Ql k x.1 x.2.1
noncomputable def Ql.ctx (k : Nat) : Ctx := ⟨Tryz.prog, gam [(40, (Q0b.sem k)), (41, (Qq.wsem k)), (84, (QP.sem k)), (85, (Q01.sem k))]⟩
theorem Ql.gok (k : Nat) : ∀ f, Qo Tryz.prog f ((Ql.ctx k).Γ f) := (Qd (Q0b.sem_ok k) (Qd (Qq.wsem_ok k) (Qd (QP.sem_ok k) (Qd (Q01.sem_ok k) QU))))
theorem Ql.p0.is (k : Nat) : Q3U (Ql.ctx k) (Q0n (Func.code Tryz.f39) [1, 0]) (.nil) Ql.p0.T Ql.p0.os (Ql.p0.r k) := by
 intro ρ x K; kernel_rfl
theorem Ql.p0.ok (k : Nat) : StOK 0 Tryz.prog (Q0n (Func.code Tryz.f39) [1, 0]) (QK Ql.p0.T Ql.p0.os (Ql.p0 k)) :=
 Q3w (C := Ql.ctx k) (T := Ql.p0.T) (os := Ql.p0.os) (Ql.gok k) Tryz.mix (fun x K => Ql.p0.r k x K) Q3.nil (by kernel_rfl) (by kernel_rfl) (Ql.p0.is k)
def Ql.ann (k : Nat) : Ann := .node [] none (.nil) (.node [] none (.node [.mask [0, 1, 4], .auto 0] (some (QK Ql.p0.T Ql.p0.os (Ql.p0 k))) .nil .nil) (.nil))
theorem Ql.body (k : Nat) : Q0C (Ql.ctx k) Tryz.f39 (Func.code Tryz.f39) (Ql.ann k) Ql.tin Ql.tout (fun x K => Ql.c k x.1 x.2.1 K) := by
 intro ρ x K; kernel_rfl
theorem Ql.sem_ok (k : Nat) : Qo Tryz.prog 39 (Ql.sem k) :=
 Qw (C := Ql.ctx k) (Ql.gok k) Tryz.mix (c := Func.code Tryz.f39) (ann := Ql.ann k) (tin := Ql.tin) (tout := Ql.tout) (fun x K => Ql.c k x.1 x.2.1 K) Tryz.func39 (by kernel_rfl) (by kernel_rfl) (Q3.seq Q3.nil (Q3.seq (Q3.loop (by kernel_rfl) (Ql.p0.ok k)) Q3.nil)) (Ql.body k)
abbrev QB.τ : Type := QdD 
def QB.c (k : Nat) {ρ : Type} (b0 : QdE) (K : QB.τ → Option ρ) : Option ρ :=
 (Qu k (1 : Int) (b0.1, (b0.2.1, (b0.2.2.1, ())))).bind fun t0 => (Q04 k t0.1).bind fun t1 => let v2 : Int := (IntKind.wrap IntKind.u8 t1.1)
 K (v2, ((t0.2.1.1, (t0.2.1.2.1, (t0.2.1.2.2.1, ()))), ()))
def QB (k : Nat) (b0 : QdE) : Option QB.τ := QB.c k b0 some
def QB.T : Q1d := ⟨[.ptr 0 []], [.dat QdB], 1⟩
def QB.os : List Out := [⟨.ret, [.freeze (.slot 0), .auto 1], ⟨[.dat (.int .u8)], [.dat QdB]⟩⟩]
def QB.sem (k : Nat) : Qt := Q1o QB.T QB.os fun x => QB k x.1
noncomputable def QB.ctx (k : Nat) : Ctx := ⟨Tryz.prog, gam [(87, (Qu.sem k)), (86, (Q04.sem k))]⟩
theorem QB.gok (k : Nat) : ∀ f, Qo Tryz.prog f ((QB.ctx k).Γ f) := (Qd (Qu.sem_ok k) (Qd (Q04.sem_ok k) QU))
def QB.ann (k : Nat) : Ann := .nil
theorem QB.body (k : Nat) : Q1y (QB.ctx k) Tryz.f42 (Func.code Tryz.f42) (QB.ann k) QB.T QB.os (fun x K => QB.c k x.1 K) := by
 intro ρ x K; kernel_rfl
theorem QB.sem_ok (k : Nat) : Qo Tryz.prog 42 (QB.sem k) :=
 Q0Y (C := QB.ctx k) (QB.gok k) Tryz.mix (c := Func.code Tryz.f42) (ann := QB.ann k) (T := QB.T) (os := QB.os) (fun x K => QB.c k x.1 K) Tryz.func42 (by kernel_rfl) (by kernel_rfl) Q3.nil (QB.body k) (by kernel_rfl) (by kernel_rfl) (by kernel_rfl)
def QB.wsem (k : Nat) : Qt := QaR QB.T QB.os fun x => QB k x.1
theorem QB.wsem_ok (k : Nat) : Qo Tryz.prog 42 (QB.wsem k) := QcD (QB.sem_ok k)
def Q0B.c (k : Nat) {ρ : Type} (s : ByteArray) (K : Qdw × Int × Unit → Option ρ) : Option ρ :=
 bif (decide ((((ByteArray.size s) : Nat) : Int) < (97 : Int))) then (K ((((0 : Int), ((List.replicate 32 (0 : Int)), ((List.replicate 32 (0 : Int)), ((0 : Int), ((0 : Int), ((0 : Int), ())))))), ((0 : Int), ((0 : Int), ((0 : Int), ((0 : Int), ((0 : Int), ())))))), ((4 : Int), ()))) else (bif (decide ((((ByteArray.size s) : Nat) : Int) > (97 : Int))) then (K ((((0 : Int), ((List.replicate 32 (0 : Int)), ((List.replicate 32 (0 : Int)), ((0 : Int), ((0 : Int), ((0 : Int), ())))))), ((0 : Int), ((0 : Int), ((0 : Int), ((0 : Int), ((0 : Int), ())))))), ((5 : Int), ()))) else ((Ql k s (0 : Int)).bind fun t0 => let v1 : Int := t0.2.1
 bif (decide (((0 : Int) ≤ (80 : Int)) ∧ (((80 : Int) ≤ (((ByteArray.size s) : Nat) : Int)) ∧ ((((ByteArray.size s) : Nat) : Int) ≤ (((ByteArray.size s) : Nat) : Int))))) then (let v2 : ByteArray := (ByteArray.extract s 80 (Int.toNat (((ByteArray.size s) : Nat) : Int)))
 (Q0b k v2).bind fun t3 => (Qq k (t3.1.1, (t3.1.2.1, (t3.1.2.2.1, ())))).bind fun t4 => let v5 : Int := (IntKind.wrap IntKind.i64 t4.1)
 (QB k (t4.2.1.1, (t4.2.1.2.1, (t4.2.1.2.2.1, ())))).bind fun t6 => let v7 : Int := (IntKind.wrap IntKind.i64 t6.1)
 (Qq k (t6.2.1.1, (t6.2.1.2.1, (t6.2.1.2.2.1, ())))).bind fun t8 => let v9 : Int := (IntKind.wrap IntKind.i64 t8.1)
 (Qq k (t8.2.1.1, (t8.2.1.2.1, (t8.2.1.2.2.1, ())))).bind fun t10 => let v11 : Int := (IntKind.wrap IntKind.i64 t10.1)
 (Qq k (t10.2.1.1, (t10.2.1.2.1, (t10.2.1.2.2.1, ())))).bind fun t12 => let v13 : Int := (IntKind.wrap IntKind.i64 t12.1)
 (Q0l k ((t0.1.1, (t0.1.2.1, (t0.1.2.2.1, (t0.1.2.2.2.1, (t0.1.2.2.2.2.1, (t0.1.2.2.2.2.2.1, ())))))), (v5, (v7, (v9, (v11, (v13, ()))))))).bind fun t14 => bif (!t14.1) then (K ((((0 : Int), ((List.replicate 32 (0 : Int)), ((List.replicate 32 (0 : Int)), ((0 : Int), ((0 : Int), ((0 : Int), ())))))), ((0 : Int), ((0 : Int), ((0 : Int), ((0 : Int), ((0 : Int), ())))))), ((130 : Int), ()))) else (K (((t0.1.1, (t0.1.2.1, (t0.1.2.2.1, (t0.1.2.2.2.1, (t0.1.2.2.2.2.1, (t0.1.2.2.2.2.2.1, ())))))), (v5, (v7, (v9, (v11, (v13, ())))))), ((0 : Int), ())))) else (none)))
def Q0B (k : Nat) (s : ByteArray) : Option Qdv := Q0B.c k s some
def Q0B.tin : List Ty := [.str]
def Q0B.tout : List Ty := [Qdt, (.int .i64)]
def Q0B.sem (k : Nat) : Qt := QL Q0B.tin Q0B.tout fun x => Q0B k x.1
noncomputable def Q0B.ctx (k : Nat) : Ctx := ⟨Tryz.prog, gam [(39, (Ql.sem k)), (40, (Q0b.sem k)), (41, (Qq.wsem k)), (42, (QB.wsem k)), (32, (Q0l.sem k))]⟩
theorem Q0B.gok (k : Nat) : ∀ f, Qo Tryz.prog f ((Q0B.ctx k).Γ f) := (Qd (Ql.sem_ok k) (Qd (Q0b.sem_ok k) (Qd (Qq.wsem_ok k) (Qd (QB.wsem_ok k) (Qd (Q0l.sem_ok k) QU)))))
def Q0B.ann (k : Nat) : Ann := .nil
theorem Q0B.body (k : Nat) : Q0C (Q0B.ctx k) Tryz.f8 (Func.code Tryz.f8) (Q0B.ann k) Q0B.tin Q0B.tout (fun x K => Q0B.c k x.1 K) := by
 intro ρ x K; kernel_rfl
theorem Q0B.sem_ok (k : Nat) : Qo Tryz.prog 8 (Q0B.sem k) :=
 Qw (C := Q0B.ctx k) (Q0B.gok k) Tryz.mix (c := Func.code Tryz.f8) (ann := Q0B.ann k) (tin := Q0B.tin) (tout := Q0B.tout) (fun x K => Q0B.c k x.1 K) Tryz.func8 (by kernel_rfl) (by kernel_rfl) Q3.nil (Q0B.body k)
end Go.Am
namespace Go.Am
open Go Go.Proofs
set_option maxRecDepth 100000
abbrev Q8.l0.σ : Type := ByteArray × Int × Int × Unit
abbrev Q8.l0.τ : Type := (Int × Unit)
def Q8.l0.r (k : Nat) {ρ : Type} (x : Q8.l0.σ) (kn : Q8.l0.σ → Option ρ) (ke : Q8.l0.τ → Option ρ) : Option ρ :=
 bif (decide (x.2.2.1 ≥ (0 : Int))) then (let v1 : Int := (IntKind.wrap IntKind.u64 (x.2.1 * (256 : Int)))
 bif (decide (((0 : Int) ≤ x.2.2.1) ∧ (x.2.2.1 < (((ByteArray.size x.1) : Nat) : Int)))) then (let v2 : Int := (Q13 x.1 (Int.toNat x.2.2.1))
 let v3 : Int := (IntKind.wrap IntKind.u64 (v1 + (IntKind.wrap IntKind.u64 v2)))
 let v4 : Int := (IntKind.wrap IntKind.i64 (x.2.2.1 - (1 : Int)))
 kn (x.1, (v3, (v4, ())))) else (none)) else (ke (x.2.1, ()))
def Q8.l0 (k : Nat) : Nat → Q8.l0.σ → Option Q8.l0.τ := Q0T (Q8.l0.r k)
def Q8.l0.T : StT := ⟨.dat .str :: us 2 ++ .dat (.int .u64) :: .dat (.int .i64) :: us 15, []⟩
def Q8.l0.os : List Out := [⟨(.exit 0), [.mask [3], .auto 0], ⟨us 3 ++ .dat (.int .u64) :: us 16, []⟩⟩]
def Q8.c (k : Nat) {ρ : Type} (s : ByteArray) (K : Int × Unit → Option ρ) : Option ρ :=
 let v0 : Int := (IntKind.wrap IntKind.i64 ((((ByteArray.size s) : Nat) : Int) - (1 : Int)))
 (Q8.l0 k k (s, ((0 : Int), (v0, ())))).bind fun t5 => K (t5.1, ())
def Q8 (k : Nat) (s : ByteArray) : Option (Int × Unit) := Q8.c k s some
def Q8.tin : List Ty := [.str]
def Q8.tout : List Ty := [(.int .u64)]
def Q8.sem (k : Nat) : Qt := QL Q8.tin Q8.tout fun x => Q8 k x.1
noncomputable def Q8.ctx (k : Nat) : Ctx := ⟨Tryz.prog, gam []⟩
theorem Q8.gok (k : Nat) : ∀ f, Qo Tryz.prog f ((Q8.ctx k).Γ f) := QU
theorem Q8.l0.round (k : Nat) : Q0V (Q8.ctx k) (Q0n (Func.code Tryz.f44) [1, 1, 0, 1, 0, 0]) (.nil) Q8.l0.T [.mask [0, 3, 4], .auto 0] Q8.l0.os (Q8.l0.r k) := by
 intro ρ x kn ke; kernel_rfl
theorem Q8.l0.ok (k : Nat) : StOK 0 Tryz.prog (.loop (Q0n (Func.code Tryz.f44) [1, 1, 0, 1, 0, 0])) (QK Q8.l0.T Q8.l0.os (Q8.l0 k k)) :=
 Q0X (C := Q8.ctx k) (Q8.gok k) Tryz.mix Q3.nil (by kernel_rfl) (by kernel_rfl) (by kernel_rfl) (Q8.l0.round k) k
def Q8.ann (k : Nat) : Ann := .node [] none (.nil) (.node [] none (.nil) (.node [] none (.node [] none (.nil) (.node [] none (.node [] (some (QK Q8.l0.T Q8.l0.os (Q8.l0 k k))) .nil .nil) (.nil))) (.nil)))
theorem Q8.body (k : Nat) : Q0C (Q8.ctx k) Tryz.f44 (Func.code Tryz.f44) (Q8.ann k) Q8.tin Q8.tout (fun x K => Q8.c k x.1 K) := by
 intro ρ x K; kernel_rfl
theorem Q8.sem_ok (k : Nat) : Qo Tryz.prog 44 (Q8.sem k) :=
 Qw (C := Q8.ctx k) (Q8.gok k) Tryz.mix (c := Func.code Tryz.f44) (ann := Q8.ann k) (tin := Q8.tin) (tout := Q8.tout) (fun x K => Q8.c k x.1 K) Tryz.func44 (by kernel_rfl) (by kernel_rfl) (Q3.seq Q3.nil (Q3.seq Q3.nil (Q3.seq (Q3.seq Q3.nil (Q3.block (Q3.loop (by kernel_rfl) (Q8.l0.ok k)))) Q3.nil))) (Q8.body k)
abbrev Qb.l0.σ : Type := ByteArray × Int × (List Int) × (List Int) × Unit
abbrev Qb.l0.τ : Type := ((List Int) × (List Int) × Unit)
def Qb.l0.r (k : Nat) {ρ : Type} (x : Qb.l0.σ) (kn : Qb.l0.σ → Option ρ) (ke : Qb.l0.τ → Option ρ) : Option ρ :=
 bif (decide (x.2.1 < (32 : Int))) then (bif (decide (((0 : Int) ≤ x.2.1) ∧ (x.2.1 < (((ByteArray.size x.1) : Nat) : Int)))) then (let v1 : Int := (Q13 x.1 (Int.toNat x.2.1))
 bif (decide (((0 : Int) ≤ x.2.1) ∧ (x.2.1 < ((32 : Nat) : Int)))) then (let v2 : Int := (IntKind.wrap IntKind.i64 (x.2.1 + (1 : Int)))
 kn (x.1, (v2, (x.2.2.1, ((List.set x.2.2.2.1 (Int.toNat x.2.1) v1), ()))))) else (none)) else (none)) else (ke (x.2.2.1, (x.2.2.2.1, ())))
def Qb.l0 (k : Nat) : Nat → Qb.l0.σ → Option Qb.l0.τ := Q0T (Qb.l0.r k)
def Qb.l0.T : StT := ⟨.dat .str :: us 1 ++ .ptr 0 [] :: .ptr 1 [] :: .dat (.int .i64) :: us 11, [.dat QdG, .dat QdG]⟩
def Qb.l0.os : List Out := [⟨(.exit 0), [.mask [2, 3], .auto 0], ⟨us 2 ++ .ptr 0 [] :: .ptr 1 [] :: us 12, [.dat QdG, .dat QdG]⟩⟩]
def Qb.c (k : Nat) {ρ : Type} (s : ByteArray) (K : (List Int) × Unit → Option ρ) : Option ρ :=
 let v0 : (List Int) := (List.replicate 32 (0 : Int))
 (Qb.l0 k k (s, ((0 : Int), ((List.replicate 32 (0 : Int)), (v0, ()))))).bind fun t3 => let v4 : (List Int) := t3.2.1
 K (v4, ())
def Qb (k : Nat) (s : ByteArray) : Option ((List Int) × Unit) := Qb.c k s some
def Qb.tin : List Ty := [.str]
def Qb.tout : List Ty := [QdG]
def Qb.sem (k : Nat) : Qt := QL Qb.tin Qb.tout fun x => Qb k x.1
noncomputable def Qb.ctx (k : Nat) : Ctx := ⟨Tryz.prog, gam []⟩
theorem Qb.gok (k : Nat) : ∀ f, Qo Tryz.prog f ((Qb.ctx k).Γ f) := QU
theorem Qb.l0.round (k : Nat) : Q0V (Qb.ctx k) (Q0n (Func.code Tryz.f88) [1, 1, 0, 1, 0, 0]) (.nil) Qb.l0.T [.mask [0, 2, 3, 4], .auto 0] Qb.l0.os (Qb.l0.r k) := by
 intro ρ x kn ke; kernel_rfl
theorem Qb.l0.ok (k : Nat) : StOK 0 Tryz.prog (.loop (Q0n (Func.code Tryz.f88) [1, 1, 0, 1, 0, 0])) (QK Qb.l0.T Qb.l0.os (Qb.l0 k k)) :=
 Q0X (C := Qb.ctx k) (Qb.gok k) Tryz.mix Q3.nil (by kernel_rfl) (by kernel_rfl) (by kernel_rfl) (Qb.l0.round k) k
def Qb.ann (k : Nat) : Ann := .node [] none (.nil) (.node [] none (.nil) (.node [] none (.node [] none (.nil) (.node [] none (.node [.mask [0, 2, 3, 4], .auto 0] (some (QK Qb.l0.T Qb.l0.os (Qb.l0 k k))) .nil .nil) (.nil))) (.nil)))
theorem Qb.body (k : Nat) : Q0C (Qb.ctx k) Tryz.f88 (Func.code Tryz.f88) (Qb.ann k) Qb.tin Qb.tout (fun x K => Qb.c k x.1 K) := by
 intro ρ x K; kernel_rfl
theorem Qb.sem_ok (k : Nat) : Qo Tryz.prog 88 (Qb.sem k) :=
 Qw (C := Qb.ctx k) (Qb.gok k) Tryz.mix (c := Func.code Tryz.f88) (ann := Qb.ann k) (tin := Qb.tin) (tout := Qb.tout) (fun x K => Qb.c k x.1 K) Tryz.func88 (by kernel_rfl) (by kernel_rfl) (Q3.seq Q3.nil (Q3.seq Q3.nil (Q3.seq (Q3.seq Q3.nil (Q3.block (Q3.loop (by kernel_rfl) (Qb.l0.ok k)))) Q3.nil))) (Qb.body k)
abbrev Q5.p0.σ : Type := ByteArray × Int × QdA × Unit
abbrev Q5.p0.τ : Type := Qdy ⊕ Qdx 
def Q5.p0.r (k : Nat) {ρ : Type} (x : Q5.p0.σ) (K : Q5.p0.τ → Option ρ) : Option ρ :=
 bif (decide (x.2.1 < (0 : Int))) then (K (.inl ((1 : Int), (((0 : Int), ((List.replicate 32 (0 : Int)), ((List.replicate 32 (0 : Int)), ((0 : Int), ((0 : Int), ((0 : Int), ())))))), ())))) else (let v0 : Int := (((ByteArray.size x.1) : Nat) : Int)
 bif (decide (x.2.1 > v0)) then (K (.inl ((1 : Int), (((0 : Int), ((List.replicate 32 (0 : Int)), ((List.replicate 32 (0 : Int)), ((0 : Int), ((0 : Int), ((0 : Int), ())))))), ())))) else (K (.inr (x.1, (x.2.1, ((x.2.2.1.1, (x.2.2.1.2.1, (x.2.2.1.2.2.1, (x.2.2.1.2.2.2.1, (x.2.2.1.2.2.2.2.1, (x.2.2.1.2.2.2.2.2.1, ())))))), ()))))))
def Q5.p0 (k : Nat) (x : Q5.p0.σ) : Option Q5.p0.τ := Q5.p0.r k x some
def Q5.p0.T : StT := ⟨.dat .str :: .dat (.int .i64) :: us 2 ++ .ptr 0 [] :: us 42, [.dat Qdu]⟩
def Q5.p0.os : List Out := [⟨.ret, [.mask [4, 5], .auto 0], ⟨us 4 ++ .ptr 0 [] :: .dat (.int .i64) :: us 41, [.dat Qdu]⟩⟩, ⟨.normal, [.mask [0, 1, 4], .auto 0], ⟨.dat .str :: .dat (.int .i64) :: us 2 ++ .ptr 0 [] :: us 42, [.dat Qdu]⟩⟩]
def Q5.c (k : Nat) {ρ : Type} (s : ByteArray) (at_1 : Int) (K : QdA × Int × Unit → Option ρ) : Option ρ :=
  (Q5.p0 k (s, (at_1, (((0 : Int), ((List.replicate 32 (0 : Int)), ((List.replicate 32 (0 : Int)), ((0 : Int), ((0 : Int), ((0 : Int), ())))))), ())))).bind fun t1 => (match t1 with
 | .inl t2 => (K ((t2.2.1.1, (t2.2.1.2.1, (t2.2.1.2.2.1, (t2.2.1.2.2.2.1, (t2.2.1.2.2.2.2.1, (t2.2.1.2.2.2.2.2.1, ())))))), (t2.1, ())))
 | .inr (t3) => (let v4 : Int := (((ByteArray.size t3.1) : Nat) : Int)
  let v5 : Int := (IntKind.wrap IntKind.i64 (v4 - t3.2.1))
  bif (decide (v5 < (80 : Int))) then (K (((0 : Int), ((List.replicate 32 (0 : Int)), ((List.replicate 32 (0 : Int)), ((0 : Int), ((0 : Int), ((0 : Int), ())))))), ((4 : Int), ()))) else (bif (decide (((0 : Int) ≤ t3.2.1) ∧ ((t3.2.1 ≤ (((ByteArray.size t3.1) : Nat) : Int)) ∧ ((((ByteArray.size t3.1) : Nat) : Int) ≤ (((ByteArray.size t3.1) : Nat) : Int))))) then (let v6 : ByteArray := (ByteArray.extract t3.1 (Int.toNat t3.2.1) (Int.toNat (((ByteArray.size t3.1) : Nat) : Int)))
  bif (decide (((0 : Int) ≤ (0 : Int)) ∧ (((0 : Int) ≤ (4 : Int)) ∧ ((4 : Int) ≤ (((ByteArray.size v6) : Nat) : Int))))) then ((Q8 k (ByteArray.extract v6 0 4)).bind fun t7 => let v8 : Int := (IntKind.wrap IntKind.u32 t7.1)
  bif (decide (((0 : Int) ≤ (4 : Int)) ∧ (((4 : Int) ≤ (36 : Int)) ∧ ((36 : Int) ≤ (((ByteArray.size v6) : Nat) : Int))))) then ((Qb k (ByteArray.extract v6 4 36)).bind fun t9 => bif (decide (((0 : Int) ≤ (36 : Int)) ∧ (((36 : Int) ≤ (68 : Int)) ∧ ((68 : Int) ≤ (((ByteArray.size v6) : Nat) : Int))))) then ((Qb k (ByteArray.extract v6 36 68)).bind fun t10 => bif (decide (((0 : Int) ≤ (68 : Int)) ∧ (((68 : Int) ≤ (72 : Int)) ∧ ((72 : Int) ≤ (((ByteArray.size v6) : Nat) : Int))))) then ((Q8 k (ByteArray.extract v6 68 72)).bind fun t11 => let v12 : Int := (IntKind.wrap IntKind.u32 t11.1)
  bif (decide (((0 : Int) ≤ (72 : Int)) ∧ (((72 : Int) ≤ (76 : Int)) ∧ ((76 : Int) ≤ (((ByteArray.size v6) : Nat) : Int))))) then ((Q8 k (ByteArray.extract v6 72 76)).bind fun t13 => let v14 : Int := (IntKind.wrap IntKind.u32 t13.1)
  bif (decide (((0 : Int) ≤ (76 : Int)) ∧ (((76 : Int) ≤ (80 : Int)) ∧ ((80 : Int) ≤ (((ByteArray.size v6) : Nat) : Int))))) then ((Q8 k (ByteArray.extract v6 76 80)).bind fun t15 => let v16 : Int := (IntKind.wrap IntKind.u32 t15.1)
  K ((v8, (t9.1, (t10.1, (v12, (v14, (v16, ())))))), ((0 : Int), ()))) else (none)) else (none)) else (none)) else (none)) else (none)) else (none)) else (none))))
def Q5 (k : Nat) (s : ByteArray) (at_1 : Int) : Option Qdz := Q5.c k s at_1 some
def Q5.tin : List Ty := [.str, (.int .i64)]
def Q5.tout : List Ty := [Qdu, (.int .i64)]
def Q5.sem (k : Nat) : Qt := QL Q5.tin Q5.tout fun x => Q5 k x.1 x.2.1
noncomputable def Q5.ctx (k : Nat) : Ctx := ⟨Tryz.prog, gam [(44, (Q8.sem k)), (88, (Qb.sem k))]⟩
theorem Q5.gok (k : Nat) : ∀ f, Qo Tryz.prog f ((Q5.ctx k).Γ f) := (Qd (Q8.sem_ok k) (Qd (Qb.sem_ok k) QU))
theorem Q5.p0.is (k : Nat) : Q3U (Q5.ctx k) (Q0n (Func.code Tryz.f43) [1, 0]) (.nil) Q5.p0.T Q5.p0.os (Q5.p0.r k) := by
 intro ρ x K; kernel_rfl
theorem Q5.p0.ok (k : Nat) : StOK 0 Tryz.prog (Q0n (Func.code Tryz.f43) [1, 0]) (QK Q5.p0.T Q5.p0.os (Q5.p0 k)) :=
 Q3w (C := Q5.ctx k) (T := Q5.p0.T) (os := Q5.p0.os) (Q5.gok k) Tryz.mix (fun x K => Q5.p0.r k x K) Q3.nil (by kernel_rfl) (by kernel_rfl) (Q5.p0.is k)
def Q5.ann (k : Nat) : Ann := .node [] none (.nil) (.node [] none (.node [.mask [0, 1, 4], .auto 0] (some (QK Q5.p0.T Q5.p0.os (Q5.p0 k))) .nil .nil) (.nil))
theorem Q5.body (k : Nat) : Q0C (Q5.ctx k) Tryz.f43 (Func.code Tryz.f43) (Q5.ann k) Q5.tin Q5.tout (fun x K => Q5.c k x.1 x.2.1 K) := by
 intro ρ x K; kernel_rfl
theorem Q5.sem_ok (k : Nat) : Qo Tryz.prog 43 (Q5.sem k) :=
 Qw (C := Q5.ctx k) (Q5.gok k) Tryz.mix (c := Func.code Tryz.f43) (ann := Q5.ann k) (tin := Q5.tin) (tout := Q5.tout) (fun x K => Q5.c k x.1 x.2.1 K) Tryz.func43 (by kernel_rfl) (by kernel_rfl) (Q3.seq Q3.nil (Q3.seq (Q3.loop (by kernel_rfl) (Q5.p0.ok k)) Q3.nil)) (Q5.body k)
def QD.c (k : Nat) {ρ : Type} (n : Int) (K : Bool × Unit → Option ρ) : Option ρ :=
 bif (decide (n ≥ (0 : Int))) then (K ((decide (n < (2147483648 : Int))), ())) else (K (false, ()))
def QD (k : Nat) (n : Int) : Option (Bool × Unit) := QD.c k n some
def QD.tin : List Ty := [(.int .i64)]
def QD.tout : List Ty := [.bool]
def QD.sem (k : Nat) : Qt := QL QD.tin QD.tout fun x => QD k x.1
noncomputable def QD.ctx (k : Nat) : Ctx := ⟨Tryz.prog, gam []⟩
theorem QD.gok (k : Nat) : ∀ f, Qo Tryz.prog f ((QD.ctx k).Γ f) := QU
def QD.ann (k : Nat) : Ann := .nil
theorem QD.body (k : Nat) : Q0C (QD.ctx k) Tryz.f47 (Func.code Tryz.f47) (QD.ann k) QD.tin QD.tout (fun x K => QD.c k x.1 K) := by
 intro ρ x K; kernel_rfl
theorem QD.sem_ok (k : Nat) : Qo Tryz.prog 47 (QD.sem k) :=
 Qw (C := QD.ctx k) (QD.gok k) Tryz.mix (c := Func.code Tryz.f47) (ann := QD.ann k) (tin := QD.tin) (tout := QD.tout) (fun x K => QD.c k x.1 K) Tryz.func47 (by kernel_rfl) (by kernel_rfl) Q3.nil (QD.body k)
def QJ.c (k : Nat) {ρ : Type} (e : Qdw) (K : Bool × Unit → Option ρ) : Option ρ :=
 let v0 : Int := e.2.1
 bif (decide (v0 ≥ (0 : Int))) then (let v1 : Int := e.2.1
 bif (decide (v1 ≤ (20000 : Int))) then (let v2 : Int := e.2.2.1
 bif (decide (v2 ≥ (0 : Int))) then (let v3 : Int := e.2.2.1
 bif (decide (v3 ≤ (15 : Int))) then (let v4 : Int := e.2.2.2.1
 (QD k v4).bind fun t5 => bif t5.1 then (let v6 : Int := e.2.2.2.2.1
 (QD k v6).bind fun t7 => bif t7.1 then (let v8 : Int := e.2.2.2.2.2.1
 (QD k v8).bind fun t9 => K (t9.1, ())) else (K (false, ()))) else (K (false, ()))) else (K (false, ()))) else (K (false, ()))) else (K (false, ()))) else (K (false, ()))
def QJ (k : Nat) (e : Qdw) : Option (Bool × Unit) := QJ.c k e some
def QJ.tin : List Ty := [Qdt]
def QJ.tout : List Ty := [.bool]
def QJ.sem (k : Nat) : Qt := QL QJ.tin QJ.tout fun x => QJ k x.1
noncomputable def QJ.ctx (k : Nat) : Ctx := ⟨Tryz.prog, gam [(47, (QD.sem k))]⟩
theorem QJ.gok (k : Nat) : ∀ f, Qo Tryz.prog f ((QJ.ctx k).Γ f) := (Qd (QD.sem_ok k) QU)
def QJ.ann (k : Nat) : Ann := .nil
theorem QJ.body (k : Nat) : Q0C (QJ.ctx k) Tryz.f12 (Func.code Tryz.f12) (QJ.ann k) QJ.tin QJ.tout (fun x K => QJ.c k x.1 K) := by
 intro ρ x K; kernel_rfl
theorem QJ.sem_ok (k : Nat) : Qo Tryz.prog 12 (QJ.sem k) :=
 Qw (C := QJ.ctx k) (QJ.gok k) Tryz.mix (c := Func.code Tryz.f12) (ann := QJ.ann k) (tin := QJ.tin) (tout := QJ.tout) (fun x K => QJ.c k x.1 K) Tryz.func12 (by kernel_rfl) (by kernel_rfl) Q3.nil (QJ.body k)
def QQ.c (k : Nat) {ρ : Type} (s : ByteArray) (K : Qdw × Int × Unit → Option ρ) : Option ρ :=
 bif (decide ((((ByteArray.size s) : Nat) : Int) < (97 : Int))) then (K ((((0 : Int), ((List.replicate 32 (0 : Int)), ((List.replicate 32 (0 : Int)), ((0 : Int), ((0 : Int), ((0 : Int), ())))))), ((0 : Int), ((0 : Int), ((0 : Int), ((0 : Int), ((0 : Int), ())))))), ((4 : Int), ()))) else (bif (decide ((((ByteArray.size s) : Nat) : Int) > (97 : Int))) then (K ((((0 : Int), ((List.replicate 32 (0 : Int)), ((List.replicate 32 (0 : Int)), ((0 : Int), ((0 : Int), ((0 : Int), ())))))), ((0 : Int), ((0 : Int), ((0 : Int), ((0 : Int), ((0 : Int), ())))))), ((5 : Int), ()))) else ((Q5 k s (0 : Int)).bind fun t0 => let v1 : Int := t0.2.1
 bif (decide (((0 : Int) ≤ (80 : Int)) ∧ (((80 : Int) ≤ (84 : Int)) ∧ ((84 : Int) ≤ (((ByteArray.size s) : Nat) : Int))))) then ((Q8 k (ByteArray.extract s 80 84)).bind fun t2 => let v3 : Int := (IntKind.wrap IntKind.i64 t2.1)
 bif (decide (((0 : Int) ≤ (84 : Int)) ∧ ((84 : Int) < (((ByteArray.size s) : Nat) : Int)))) then (bif (decide (((0 : Int) ≤ (85 : Int)) ∧ (((85 : Int) ≤ (89 : Int)) ∧ ((89 : Int) ≤ (((ByteArray.size s) : Nat) : Int))))) then ((Q8 k (ByteArray.extract s 85 89)).bind fun t4 => let v5 : Int := (IntKind.wrap IntKind.i64 t4.1)
 bif (decide (((0 : Int) ≤ (89 : Int)) ∧ (((89 : Int) ≤ (93 : Int)) ∧ ((93 : Int) ≤ (((ByteArray.size s) : Nat) : Int))))) then ((Q8 k (ByteArray.extract s 89 93)).bind fun t6 => let v7 : Int := (IntKind.wrap IntKind.i64 t6.1)
 bif (decide (((0 : Int) ≤ (93 : Int)) ∧ (((93 : Int) ≤ (97 : Int)) ∧ ((97 : Int) ≤ (((ByteArray.size s) : Nat) : Int))))) then ((Q8 k (ByteArray.extract s 93 97)).bind fun t8 => let v9 : Int := (IntKind.wrap IntKind.i64 t8.1)
 (QJ k ((t0.1.1, (t0.1.2.1, (t0.1.2.2.1, (t0.1.2.2.2.1, (t0.1.2.2.2.2.1, (t0.1.2.2.2.2.2.1, ())))))), (v3, ((IntKind.wrap IntKind.i64 (Q13 s 84)), (v5, (v7, (v9, ()))))))).bind fun t10 => bif (!t10.1) then (K ((((0 : Int), ((List.replicate 32 (0 : Int)), ((List.replicate 32 (0 : Int)), ((0 : Int), ((0 : Int), ((0 : Int), ())))))), ((0 : Int), ((0 : Int), ((0 : Int), ((0 : Int), ((0 : Int), ())))))), ((130 : Int), ()))) else (K (((t0.1.1, (t0.1.2.1, (t0.1.2.2.1, (t0.1.2.2.2.1, (t0.1.2.2.2.2.1, (t0.1.2.2.2.2.2.1, ())))))), (v3, ((IntKind.wrap IntKind.i64 (Q13 s 84)), (v5, (v7, (v9, ())))))), ((0 : Int), ())))) else (none)) else (none)) else (none)) else (none)) else (none)))
def QQ (k : Nat) (s : ByteArray) : Option Qdv := QQ.c k s some
def QQ.tin : List Ty := [.str]
def QQ.tout : List Ty := [Qdt, (.int .i64)]
def QQ.sem (k : Nat) : Qt := QL QQ.tin QQ.tout fun x => QQ k x.1
noncomputable def QQ.ctx (k : Nat) : Ctx := ⟨Tryz.prog, gam [(43, (Q5.sem k)), (44, (Q8.sem k)), (12, (QJ.sem k))]⟩
theorem QQ.gok (k : Nat) : ∀ f, Qo Tryz.prog f ((QQ.ctx k).Γ f) := (Qd (Q5.sem_ok k) (Qd (Q8.sem_ok k) (Qd (QJ.sem_ok k) QU)))
def QQ.ann (k : Nat) : Ann := .nil
theorem QQ.body (k : Nat) : Q0C (QQ.ctx k) Tryz.f9 (Func.code Tryz.f9) (QQ.ann k) QQ.tin QQ.tout (fun x K => QQ.c k x.1 K) := by
 intro ρ x K; kernel_rfl
theorem QQ.sem_ok (k : Nat) : Qo Tryz.prog 9 (QQ.sem k) :=
 Qw (C := QQ.ctx k) (QQ.gok k) Tryz.mix (c := Func.code Tryz.f9) (ann := QQ.ann k) (tin := QQ.tin) (tout := QQ.tout) (fun x K => QQ.c k x.1 K) Tryz.func9 (by kernel_rfl) (by kernel_rfl) Q3.nil (QQ.body k)
end Go.Am
namespace Go.Am
open Go Go.Proofs
set_option maxRecDepth 100000
abbrev Q7.l0.σ : Type := Int × Int × ByteArray × Int × Unit
abbrev Q7.l0.τ : Type := QdH 
def Q7.l0.r (k : Nat) {ρ : Type} (x : Q7.l0.σ) (kn : Q7.l0.σ → Option ρ) (ke : Q7.l0.τ → Option ρ) : Option ρ :=
 bif (decide (x.2.2.2.1 < x.2.1)) then (let v0 : Int := (Int.tmod x.1 (256 : Int))
 let v1 : ByteArray := (bytesOf (List.set (List.replicate 1 (0 : Int)) 0 (IntKind.wrap IntKind.u8 v0)))
 bif (Nat.ble ((ByteArray.size x.2.2.1) + (ByteArray.size v1)) 9223372036854775807) then (let v2 : ByteArray := (x.2.2.1 ++ v1)
 let v3 : Int := (IntKind.wrap IntKind.u64 (Int.tdiv x.1 (256 : Int)))
 let v4 : Int := (IntKind.wrap IntKind.i64 (x.2.2.2.1 + (1 : Int)))
 kn (v3, (x.2.1, (v2, (v4, ()))))) else (none)) else (ke (x.2.2.1, ()))
def Q7.l0 (k : Nat) : Nat → Q7.l0.σ → Option Q7.l0.τ := Q0T (Q7.l0.r k)
def Q7.l0.T : StT := ⟨.dat (.int .u64) :: .dat (.int .i64) :: us 3 ++ .dat .str :: .dat (.int .i64) :: us 15, []⟩
def Q7.l0.os : List Out := [⟨(.exit 0), [.mask [5], .auto 0], ⟨us 5 ++ .dat .str :: us 16, []⟩⟩]
def Q7.c (k : Nat) {ρ : Type} (n : Int) (bytes : Int) (K : ByteArray × Unit → Option ρ) : Option ρ :=
 (Q7.l0 k k (n, (bytes, ((⟨(List.toArray [])⟩ : ByteArray), ((0 : Int), ()))))).bind fun t5 => K (t5.1, ())
def Q7 (k : Nat) (n : Int) (bytes : Int) : Option QdH := Q7.c k n bytes some
def Q7.tin : List Ty := [(.int .u64), (.int .i64)]
def Q7.tout : List Ty := [.str]
def Q7.sem (k : Nat) : Qt := QL Q7.tin Q7.tout fun x => Q7 k x.1 x.2.1
noncomputable def Q7.ctx (k : Nat) : Ctx := ⟨Tryz.prog, gam []⟩
theorem Q7.gok (k : Nat) : ∀ f, Qo Tryz.prog f ((Q7.ctx k).Γ f) := QU
theorem Q7.l0.round (k : Nat) : Q0V (Q7.ctx k) (Q0n (Func.code Tryz.f50) [1, 1, 0, 1, 0, 0]) (.nil) Q7.l0.T [.mask [0, 1, 5, 6], .auto 0] Q7.l0.os (Q7.l0.r k) := by
 intro ρ x kn ke; kernel_rfl
theorem Q7.l0.ok (k : Nat) : StOK 0 Tryz.prog (.loop (Q0n (Func.code Tryz.f50) [1, 1, 0, 1, 0, 0])) (QK Q7.l0.T Q7.l0.os (Q7.l0 k k)) :=
 Q0X (C := Q7.ctx k) (Q7.gok k) Tryz.mix Q3.nil (by kernel_rfl) (by kernel_rfl) (by kernel_rfl) (Q7.l0.round k) k
def Q7.ann (k : Nat) : Ann := .node [] none (.nil) (.node [] none (.nil) (.node [] none (.node [] none (.nil) (.node [] none (.node [] (some (QK Q7.l0.T Q7.l0.os (Q7.l0 k k))) .nil .nil) (.nil))) (.nil)))
theorem Q7.body (k : Nat) : Q0C (Q7.ctx k) Tryz.f50 (Func.code Tryz.f50) (Q7.ann k) Q7.tin Q7.tout (fun x K => Q7.c k x.1 x.2.1 K) := by
 intro ρ x K; kernel_rfl
theorem Q7.sem_ok (k : Nat) : Qo Tryz.prog 50 (Q7.sem k) :=
 Qw (C := Q7.ctx k) (Q7.gok k) Tryz.mix (c := Func.code Tryz.f50) (ann := Q7.ann k) (tin := Q7.tin) (tout := Q7.tout) (fun x K => Q7.c k x.1 x.2.1 K) Tryz.func50 (by kernel_rfl) (by kernel_rfl) (Q3.seq Q3.nil (Q3.seq Q3.nil (Q3.seq (Q3.seq Q3.nil (Q3.block (Q3.loop (by kernel_rfl) (Q7.l0.ok k)))) Q3.nil))) (Q7.body k)
def QN.c (k : Nat) {ρ : Type} (h : QdA) (K : ByteArray × Unit → Option ρ) : Option ρ :=
 let v0 : Int := h.1
 (Q7 k (IntKind.wrap IntKind.u64 v0) (4 : Int)).bind fun t1 => let v2 : ByteArray := (bytesOf (List.take 32 (List.drop 0 h.2.1)))
 bif (Nat.ble ((ByteArray.size t1.1) + (ByteArray.size v2)) 9223372036854775807) then (let v3 : ByteArray := (t1.1 ++ v2)
 let v4 : ByteArray := (bytesOf (List.take 32 (List.drop 0 h.2.2.1)))
 bif (Nat.ble ((ByteArray.size v3) + (ByteArray.size v4)) 9223372036854775807) then (let v5 : ByteArray := (v3 ++ v4)
 let v6 : Int := h.2.2.2.1
 (Q7 k (IntKind.wrap IntKind.u64 v6) (4 : Int)).bind fun t7 => bif (Nat.ble ((ByteArray.size v5) + (ByteArray.size t7.1)) 9223372036854775807) then (let v8 : ByteArray := (v5 ++ t7.1)
 let v9 : Int := h.2.2.2.2.1
 (Q7 k (IntKind.wrap IntKind.u64 v9) (4 : Int)).bind fun t10 => bif (Nat.ble ((ByteArray.size v8) + (ByteArray.size t10.1)) 9223372036854775807) then (let v11 : ByteArray := (v8 ++ t10.1)
 let v12 : Int := h.2.2.2.2.2.1
 (Q7 k (IntKind.wrap IntKind.u64 v12) (4 : Int)).bind fun t13 => bif (Nat.ble ((ByteArray.size v11) + (ByteArray.size t13.1)) 9223372036854775807) then (let v14 : ByteArray := (v11 ++ t13.1)
 K (v14, ())) else (none)) else (none)) else (none)) else (none)) else (none)
def QN (k : Nat) (h : QdA) : Option QdH := QN.c k h some
def QN.tin : List Ty := [Qdu]
def QN.tout : List Ty := [.str]
def QN.sem (k : Nat) : Qt := QL QN.tin QN.tout fun x => QN k x.1
noncomputable def QN.ctx (k : Nat) : Ctx := ⟨Tryz.prog, gam [(50, (Q7.sem k))]⟩
theorem QN.gok (k : Nat) : ∀ f, Qo Tryz.prog f ((QN.ctx k).Γ f) := (Qd (Q7.sem_ok k) QU)
def QN.ann (k : Nat) : Ann := .nil
theorem QN.body (k : Nat) : Q0C (QN.ctx k) Tryz.f48 (Func.code Tryz.f48) (QN.ann k) QN.tin QN.tout (fun x K => QN.c k x.1 K) := by
 intro ρ x K; kernel_rfl
theorem QN.sem_ok (k : Nat) : Qo Tryz.prog 48 (QN.sem k) :=
 Qw (C := QN.ctx k) (QN.gok k) Tryz.mix (c := Func.code Tryz.f48) (ann := QN.ann k) (tin := QN.tin) (tout := QN.tout) (fun x K => QN.c k x.1 K) Tryz.func48 (by kernel_rfl) (by kernel_rfl) Q3.nil (QN.body k)
def QH.c (k : Nat) {ρ : Type} (n : Int) (K : ByteArray × Unit → Option ρ) : Option ρ :=
 (Q7 k (IntKind.wrap IntKind.u64 n) (4 : Int)).bind fun t0 => K (t0.1, ())
def QH (k : Nat) (n : Int) : Option QdH := QH.c k n some
def QH.tin : List Ty := [(.int .i64)]
def QH.tout : List Ty := [.str]
def QH.sem (k : Nat) : Qt := QL QH.tin QH.tout fun x => QH k x.1
noncomputable def QH.ctx (k : Nat) : Ctx := ⟨Tryz.prog, gam [(50, (Q7.sem k))]⟩
theorem QH.gok (k : Nat) : ∀ f, Qo Tryz.prog f ((QH.ctx k).Γ f) := (Qd (Q7.sem_ok k) QU)
def QH.ann (k : Nat) : Ann := .nil
theorem QH.body (k : Nat) : Q0C (QH.ctx k) Tryz.f49 (Func.code Tryz.f49) (QH.ann k) QH.tin QH.tout (fun x K => QH.c k x.1 K) := by
 intro ρ x K; kernel_rfl
theorem QH.sem_ok (k : Nat) : Qo Tryz.prog 49 (QH.sem k) :=
 Qw (C := QH.ctx k) (QH.gok k) Tryz.mix (c := Func.code Tryz.f49) (ann := QH.ann k) (tin := QH.tin) (tout := QH.tout) (fun x K => QH.c k x.1 K) Tryz.func49 (by kernel_rfl) (by kernel_rfl) Q3.nil (QH.body k)
def QF.c (k : Nat) {ρ : Type} (e : Qdw) (K : ByteArray × Unit → Option ρ) : Option ρ :=
 (QN k (e.1.1, (e.1.2.1, (e.1.2.2.1, (e.1.2.2.2.1, (e.1.2.2.2.2.1, (e.1.2.2.2.2.2.1, ()))))))).bind fun t0 => let v1 : Int := e.2.1
 (QH k v1).bind fun t2 => bif (Nat.ble ((ByteArray.size t0.1) + (ByteArray.size t2.1)) 9223372036854775807) then (let v3 : ByteArray := (t0.1 ++ t2.1)
 let v4 : Int := e.2.2.1
 (Q7 k (IntKind.wrap IntKind.u64 v4) (1 : Int)).bind fun t5 => bif (Nat.ble ((ByteArray.size v3) + (ByteArray.size t5.1)) 9223372036854775807) then (let v6 : ByteArray := (v3 ++ t5.1)
 let v7 : Int := e.2.2.2.1
 (QH k v7).bind fun t8 => bif (Nat.ble ((ByteArray.size v6) + (ByteArray.size t8.1)) 9223372036854775807) then (let v9 : ByteArray := (v6 ++ t8.1)
 let v10 : Int := e.2.2.2.2.1
 (QH k v10).bind fun t11 => bif (Nat.ble ((ByteArray.size v9) + (ByteArray.size t11.1)) 9223372036854775807) then (let v12 : ByteArray := (v9 ++ t11.1)
 let v13 : Int := e.2.2.2.2.2.1
 (QH k v13).bind fun t14 => bif (Nat.ble ((ByteArray.size v12) + (ByteArray.size t14.1)) 9223372036854775807) then (let v15 : ByteArray := (v12 ++ t14.1)
 K (v15, ())) else (none)) else (none)) else (none)) else (none)) else (none)
def QF (k : Nat) (e : Qdw) : Option QdH := QF.c k e some
def QF.tin : List Ty := [Qdt]
def QF.tout : List Ty := [.str]
def QF.sem (k : Nat) : Qt := QL QF.tin QF.tout fun x => QF k x.1
noncomputable def QF.ctx (k : Nat) : Ctx := ⟨Tryz.prog, gam [(48, (QN.sem k)), (49, (QH.sem k)), (50, (Q7.sem k))]⟩
theorem QF.gok (k : Nat) : ∀ f, Qo Tryz.prog f ((QF.ctx k).Γ f) := (Qd (QN.sem_ok k) (Qd (QH.sem_ok k) (Qd (Q7.sem_ok k) QU)))
def QF.ann (k : Nat) : Ann := .nil
theorem QF.body (k : Nat) : Q0C (QF.ctx k) Tryz.f13 (Func.code Tryz.f13) (QF.ann k) QF.tin QF.tout (fun x K => QF.c k x.1 K) := by
 intro ρ x K; kernel_rfl
theorem QF.sem_ok (k : Nat) : Qo Tryz.prog 13 (QF.sem k) :=
 Qw (C := QF.ctx k) (QF.gok k) Tryz.mix (c := Func.code Tryz.f13) (ann := QF.ann k) (tin := QF.tin) (tout := QF.tout) (fun x K => QF.c k x.1 K) Tryz.func13 (by kernel_rfl) (by kernel_rfl) Q3.nil (QF.body k)
end Go.Am
namespace Go.Am
open Go Go.Proofs
set_option maxRecDepth 100000
def QR.c (k : Nat) {ρ : Type} (e : Qdw) (K : Qdw × Unit → Option ρ) : Option ρ :=
 let v0 : Int := e.1.1
 let v1 : (List Int) := e.1.2.1
 let v2 : (List Int) := e.1.2.2.1
 let v3 : Int := e.1.2.2.2.1
 let v4 : Int := e.1.2.2.2.2.1
 let v5 : Int := e.1.2.2.2.2.2.1
 let v6 : Int := e.2.1
 let v7 : Int := e.2.2.1
 let v8 : Int := e.2.2.2.1
 let v9 : Int := e.2.2.2.2.1
 let v10 : Int := e.2.2.2.2.2.1
 K (((v0, (v1, (v2, (v3, (v4, (v5, ())))))), (v6, (v7, (v8, (v9, (v10, ())))))), ())
def QR (k : Nat) (e : Qdw) : Option (Qdw × Unit) := QR.c k e some
def QR.tin : List Ty := [Qdt]
def QR.tout : List Ty := [Qdt]
def QR.sem (k : Nat) : Qt := QL QR.tin QR.tout fun x => QR k x.1
noncomputable def QR.ctx (k : Nat) : Ctx := ⟨Tryz.prog, gam []⟩
theorem QR.gok (k : Nat) : ∀ f, Qo Tryz.prog f ((QR.ctx k).Γ f) := QU
def QR.ann (k : Nat) : Ann := .nil
theorem QR.body (k : Nat) : Q0C (QR.ctx k) Tryz.f11 (Func.code Tryz.f11) (QR.ann k) QR.tin QR.tout (fun x K => QR.c k x.1 K) := by
 intro ρ x K; kernel_rfl
theorem QR.sem_ok (k : Nat) : Qo Tryz.prog 11 (QR.sem k) :=
 Qw (C := QR.ctx k) (QR.gok k) Tryz.mix (c := Func.code Tryz.f11) (ann := QR.ann k) (tin := QR.tin) (tout := QR.tout) (fun x K => QR.c k x.1 K) Tryz.func11 (by kernel_rfl) (by kernel_rfl) Q3.nil (QR.body k)
end Go.Am
