/- A part of a proof: a machine of abstract values that tells what functions of the program compute, and the plain facts on them. -/
import Derived.Test.YtifpmlmgindkaaaGreatAm6
import Derived.Test.YtifpmlmgindkaaaGreatRows
import Derived.KernelRfl
import Derived.Test.YtifpmlmgindkaaaGreatAm5
import Derived.Test.YtifpmlmgindkaaaGreatProg
import Derived.Test.YtifpmlmgindkaaaGreatAm8
import Derived.Test.YtifpmlmgindkaaaGreatAm7
set_option linter.unusedVariables false
set_option linter.unusedSimpArgs false
set_option linter.unnecessarySimpa false
set_option linter.unusedSectionVars false
namespace Go.Am
abbrev Qdp : Type := (ByteArray × Unit)
abbrev Qdo : Ty := (.arr 32 (.int .u8))
abbrev Qdn : Type := ((Unit × (Unit × Unit)) × Unit)
abbrev Qdm : Type := (ByteArray × (Int × (Int × Unit)))
abbrev Qdl : Type := (Int ×  Qdm  × Unit)
abbrev Qdk : Type := ( Qdn  × (List Int) × Unit)
abbrev Qdj : Ty := (.pair .str (.pair (.int .i64) (.pair (.int .i64) .unit)))
abbrev Qdi : Type := (Int × ((List Int) × ((List Int) × (Int × (Int × (Int × Unit))))))
abbrev Qdh : Type := ( Qdi  × Int × Unit)
abbrev Qdg : Type := (Int ×  Qdi  × Unit)
abbrev Qdf : Type := (ByteArray × Int ×  Qdi  × Unit)
abbrev Qde : Type := ( Qdi  × (Int × (Int × (Int × (Int × (Int × Unit))))))
abbrev Qdd : Type := ( Qde  × Int × Unit)
abbrev Qdc : Ty := (.pair (.int .u32) (.pair  Qdo  (.pair  Qdo  (.pair (.int .u32) (.pair (.int .u32) (.pair (.int .u32) .unit))))))
abbrev Qdb : Ty := (.pair  Qdc  (.pair (.int .i64) (.pair (.int .i64) (.pair (.int .i64) (.pair (.int .i64) (.pair (.int .i64) .unit))))))
end Go.Am
namespace Go.Proofs.YtifpmlmgindkaaaGreat
open Go.RowKit Go.Am
theorem Tryz.own : ownKnob Tryz.prog.godebug = none := by kernel_rfl
theorem Tryz.laidOut : laidOutB Tryz.prog = true := by kernel_rfl
end Go.Proofs.YtifpmlmgindkaaaGreat
namespace Go.Am
open Go
theorem QcO {p : Int → Prop} {l : List Int} (h : ∀ i, i < l.length → p (l.getD i 0)) : ∀ x ∈ l, p x := by
 intro x hx
 obtain ⟨i, hi, rfl⟩ := List.getElem_of_mem hx
 have := h i hi
 rw [List.getD_eq_getElem?_getD] at this
 simpa [hi] using this
theorem QbK : reachBytes = 140737488351232 := rfl
end Go.Am
namespace Go.Am
open Go
theorem Q9W {σ τ : Type} {r : {ρ : Type} → σ → (σ → Option ρ) → (τ → Option ρ) → Option ρ} (S : Nat → σ) (n : Nat) (T : τ) (a : Nat)
  (hstep : ∀ i, a ≤ i → i < n → ∀ (kn : σ → Option τ) (ke : τ → Option τ), r (S i) kn ke = kn (S (i + 1))) (hend : ∀ (kn : σ → Option τ) (ke : τ → Option τ), r (S n) kn ke = ke T) :
  ∀ {fuel : Nat}, a ≤ n → n - a < fuel → Q1c r fuel (S a) = some T := by
 intro fuel ha hf
 have key : ∀ (d i fuel : Nat), a ≤ i → i + d = n → d < fuel → Q1c r fuel (S i) = some T := by
  intro d
  induction d with
  | zero =>
   intro i fuel _ hi hf
   cases fuel with
   | zero => omega
   | succ fuel =>
    have : i = n := by omega
    subst this
    exact hend _ _
  | succ d ih =>
   intro i fuel hai hi hf
   cases fuel with
   | zero => omega
   | succ fuel =>
    show r (S i) (Q1c r fuel) some = _
    rw [hstep i hai (by omega)]
    exact ih (i + 1) fuel (by omega) (by omega) (by omega)
 exact key (n - a) a fuel (Nat.le_refl _) (by omega) hf
theorem QcA {σ τ : Type} {r : {ρ : Type} → σ → (σ → Option ρ) → (τ → Option ρ) → Option ρ} (S : Nat → σ) (n : Nat) (T : τ)
  (hstep : ∀ i, i < n → ∀ (kn : σ → Option τ) (ke : τ → Option τ), r (S i) kn ke = kn (S (i + 1))) (hend : ∀ (kn : σ → Option τ) (ke : τ → Option τ), r (S n) kn ke = ke T)
  {fuel : Nat} (hf : n < fuel) : Q1c r fuel (S 0) = some T := Q9W S n T 0 (fun i _ hi => hstep i hi) hend (Nat.zero_le _) (by omega)
theorem Qby {σ τ : Type} {r : {ρ : Type} → σ → (σ → Option ρ) → (τ → Option ρ) → Option ρ} (I : Nat → σ → Prop) (T : τ → Prop)
  (h : ∀ n s, I n s → (∃ s' m, m < n ∧ I m s' ∧ ∀ (kn : σ → Option τ) (ke : τ → Option τ), r s kn ke = kn s') ∨ (∃ t, T t ∧ ∀ (kn : σ → Option τ) (ke : τ → Option τ), r s kn ke = ke t)) :
  ∀ (n fuel : Nat) (s : σ), n < fuel → I n s → ∃ t, T t ∧ Q1c r fuel s = some t
 | n, fuel + 1, s, hf, hi => by
  rcases h n s hi with ⟨s', m, hm, hI, hr⟩ | ⟨t, ht, hr⟩
  ·obtain ⟨t, ht, h2⟩ := Qby I T h m fuel s' (by omega) hI
   exact ⟨t, ht, (hr (Q1c r fuel) some).trans h2⟩
  ·exact ⟨t, ht, hr (Q1c r fuel) some⟩
theorem i64_in {n : Int} (h : -9223372036854775808 ≤ n ∧ n ≤ 9223372036854775807) : IntKind.i64.wrap n = n := IntWalk.i64_in n h
theorem u64_in {n : Int} (h : 0 ≤ n ∧ n ≤ 18446744073709551615) : IntKind.u64.wrap n = n := IntWalk.u64_in n h
theorem u8_in {n : Int} (h : 0 ≤ n ∧ n ≤ 255) : IntKind.u8.wrap n = n := IntWalk.u8_in n h
theorem Q9F {a b : Nat} (h : a ≤ b) : Nat.ble a b = true := by rw [Nat.ble_eq]; exact h
theorem Qbj (n : Int) : IntKind.u8.wrap n = n % 256 := IntKind.wrap_u8 n
theorem Q8P (n : Int) : IntKind.u32.wrap n = n % 4294967296 := IntKind.wrap_u32 n
theorem QcT (n : Int) : IntKind.u64.wrap n = n % 18446744073709551616 := IntKind.wrap_u64 n
theorem Q8C {n : Int} (h : 0 ≤ n ∧ n ≤ 4294967295) : IntKind.u32.wrap n = n := by rw [Q8P]; omega
theorem Q6U {α : Type} {b : Bool} {x y : α} (h : b = true) : (bif b then x else y) = x := by rw [h]; rfl
theorem Qca {α : Type} {b : Bool} {x y : α} (h : b = false) : (bif b then x else y) = y := by rw [h]; rfl
theorem Q8p {α : Type} {p : Prop} [Decidable p] {x y : α} (h : p) : (bif decide p then x else y) = x := by rw [decide_eq_true h]; rfl
theorem QbI {α : Type} {p : Prop} [Decidable p] {x y : α} (h : ¬ p) : (bif decide p then x else y) = y := by rw [decide_eq_false h]; rfl
theorem Qc6 (k : IntKind) (x y : Int) : Q1d .or k x y = Q1d .or k y x := by
 simp only [Q1d, BitVec.or_comm]
theorem QbL (k : IntKind) (x y : Int) : Q1d .xor k x y = Q1d .xor k y x := by
 simp only [Q1d, BitVec.xor_comm]
theorem QbM (k : IntKind) (x y : Int) : Q1d .and k x y = Q1d .and k y x := by
 simp only [Q1d, BitVec.and_comm]
theorem toNat_ofInt (w A : Nat) (h : A < 2 ^ w) : (BitVec.ofInt w (A : Int)).toNat = A := by
 rw [BitVec.toNat_ofInt]
 have : ((A : Int) % ((2 : Nat) ^ w : Nat)).toNat = A % 2 ^ w := by
  rw [← Int.natCast_emod]; rfl
 rw [this]
 exact Nat.mod_eq_of_lt h
theorem QcU {A B : Nat} (ha : A < 4294967296) (hb : B < 4294967296) : Q1d .and .u32 (A : Int) (B : Int) = ((A &&& B : Nat) : Int) := by
 show IntKind.u32.wrap (((BitVec.ofInt 32 (A : Int) &&& BitVec.ofInt 32 (B : Int) : BitVec 32).toNat : Nat) : Int) = _
 rw [BitVec.toNat_and, toNat_ofInt 32 A (by simpa using ha), toNat_ofInt 32 B (by simpa using hb)]
 exact Q8C ⟨by omega, by have : A &&& B ≤ A := Nat.and_le_left; omega⟩
theorem QcC {A B : Nat} (ha : A < 4294967296) (hb : B < 4294967296) : Q1d .or .u32 (A : Int) (B : Int) = ((A ||| B : Nat) : Int) := by
 show IntKind.u32.wrap (((BitVec.ofInt 32 (A : Int) ||| BitVec.ofInt 32 (B : Int) : BitVec 32).toNat : Nat) : Int) = _
 rw [BitVec.toNat_or, toNat_ofInt 32 A (by simpa using ha), toNat_ofInt 32 B (by simpa using hb)]
 exact Q8C ⟨by omega, by have : A ||| B < 2 ^ 32 := Nat.or_lt_two_pow (by simpa using ha) (by simpa using hb); simp at this; omega⟩
theorem Qc0 {A B : Nat} (ha : A < 4294967296) (hb : B < 4294967296) : Q1d .xor .u32 (A : Int) (B : Int) = ((A ^^^ B : Nat) : Int) := by
 show IntKind.u32.wrap (((BitVec.ofInt 32 (A : Int) ^^^ BitVec.ofInt 32 (B : Int) : BitVec 32).toNat : Nat) : Int) = _
 rw [BitVec.toNat_xor, toNat_ofInt 32 A (by simpa using ha), toNat_ofInt 32 B (by simpa using hb)]
 exact Q8C ⟨by omega, by have : A ^^^ B < 2 ^ 32 := Nat.xor_lt_two_pow (by simpa using ha) (by simpa using hb); simp at this; omega⟩
theorem QcQ {x : Int} (h : 0 ≤ x ∧ x ≤ 4294967295) : notI .u32 x = 4294967295 - x := by
 obtain ⟨A, rfl⟩ := Int.eq_ofNat_of_zero_le h.1
 show Q1d .xor .u32 (4294967295 : Int) (A : Int) = _
 rw [show (4294967295 : Int) = ((4294967295 : Nat) : Int) from rfl, Qc0 (by omega) (by omega)]
 have : 4294967295 ^^^ A = 4294967295 - A := by
  have h1 : (BitVec.allOnes 32 ^^^ BitVec.ofNat 32 A).toNat = 4294967295 - A := by
   rw [BitVec.allOnes_xor, BitVec.toNat_not, BitVec.toNat_ofNat, Nat.mod_eq_of_lt (by omega)]
  rw [← h1, BitVec.toNat_xor, BitVec.toNat_allOnes, BitVec.toNat_ofNat, Nat.mod_eq_of_lt (show A < 2 ^ 32 by omega)]
 rw [this]; omega
theorem Qbo (op : BinOp) (x y : Int) (h : op = .and ∨ op = .or ∨ op = .xor) : 0 ≤ Q1d op .u32 x y ∧ Q1d op .u32 x y ≤ 4294967295 := by
 rcases h with rfl | rfl | rfl <;> simp only [Q1d] <;> rw [Q8P] <;> omega
theorem Qcn {A B j : Nat} (ha : A < 2 ^ j) : A ||| B * 2 ^ j = B * 2 ^ j + A := by
 rw [Nat.or_comm, Nat.mul_comm, ← Nat.two_pow_add_eq_or_of_lt ha]
theorem Qcv {A B j : Nat} (ha : A < 2 ^ j) (hlt : B * 2 ^ j + A < 4294967296) : Q1d .or .u32 ((B * 2 ^ j : Nat) : Int) (A : Int) = ((B * 2 ^ j + A : Nat) : Int) := by
 rw [QcC (by omega) (by omega), Nat.or_comm, Qcn ha]
theorem QcP (x : Int) {j : Nat} (hj : j ≤ 32) : Q30 .u32 x (j : Int) = (x * 2 ^ j) % 4294967296 := by
 unfold Q30
 rw [show min (j : Int).toNat IntKind.u32.bits = j by simp [IntKind.bits]; omega, Q8P]
theorem QcR {x : Int} {j : Nat} (hj : j ≤ 32) : Q29 .u32 x (j : Int) = x / 2 ^ j := by
 unfold Q29
 rw [show min (j : Int).toNat IntKind.u32.bits = j by simp [IntKind.bits]; omega]
 exact Int.fdiv_eq_ediv_of_nonneg _ (Int.le_of_lt (Int.pow_pos (by omega)))
def Qd2 (a b c d : Int) : Int := ((a * 256 + b) * 256 + c) * 256 + d
def QcY (x : Int) : Prop := 0 ≤ x ∧ x < 256
def Qd5 (x : Int) : Prop := 0 ≤ x ∧ x ≤ 4294967295
end Go.Am
namespace Go.Am
open Go Go.Proofs
theorem _root_.Go.Proofs.Tryz.mix : Tryz.prog.follows .mixedOrders = true := by kernel_rfl
end Go.Am
namespace Go.Am
open Go Go.Proofs Go.Shelf
set_option maxRecDepth 100000
def Bld.fs : List (Nat × Nat) := [(240, 112), (276, 129), (169, 83)]
def Bld.ts : List (Nat × Nat) := [(72, 144), (70, 141), (164, 202), (37, 142), (127, 182)]
def Bld.look : List (Nat × Nat) → Nat → Nat
 | [], n => n
 | (a, b) :: l, n => if n = a then b else Bld.look l n
def Bld.ren : Ren := ⟨Bld.look Bld.fs, Bld.look Bld.ts, fun n => n⟩
theorem Bld.lays240 : Lays.n240 Tryz.prog Bld.ren := by
 constructor <;> first | kernel_rfl | (intro w; kernel_rfl)
theorem Bld.lays169 : Lays.n169 Tryz.prog Bld.ren := by
 constructor <;> first | kernel_rfl | (intro w; kernel_rfl)
theorem Bld.x72 : Builder.X72 Tryz.prog Bld.ren where
 sizeBuilder := by kernel_rfl
 liesBuilder := by kernel_rfl
theorem Bld.extra : Builder.Extra Tryz.prog Bld.ren where
 sizeBuilder := by kernel_rfl
 liesBuilder := by kernel_rfl
 t5 := by kernel_rfl
 a5 := fun w => by kernel_rfl
 z5 := fun w => by kernel_rfl
 v5 := fun w => by kernel_rfl
 infoByte := by kernel_rfl
 cellsByte := by kernel_rfl
 sizeByte := by kernel_rfl
 neB5 := by decide
theorem Bld.copyCheck : Qm Tryz.prog 112 (Qb8 146 2) := Q8z Bld.lays240 Bld.x72 (by kernel_rfl) (by constructor <;> kernel_rfl)
theorem Bld.string : Qm Tryz.prog 83 Qag := QaU Bld.lays169 Bld.extra rfl (by constructor <;> kernel_rfl)
end Go.Am
namespace Go.Am
open Go Go.Proofs
set_option maxRecDepth 100000
def Q14.c (k : Nat) {ρ : Type} (n : Int) (K : Bool × Unit → Option ρ) : Option ρ :=
 bif (decide (n < (0 : Int))) then (K (true, ())) else (K ((decide (n > (2147483647 : Int))), ()))
def Q14 (k : Nat) (n : Int) : Option (Bool × Unit) := Q14.c k n some
def Q14.tin : List Ty := [(.int .i64)]
def Q14.tout : List Ty := [.bool]
def Q14.sem (k : Nat) : Qr := QX Q14.tin Q14.tout fun x => Q14 k x.1
noncomputable def Q14.ctx (k : Nat) : Ctx := ⟨Tryz.prog, gam []⟩
theorem Q14.gok (k : Nat) : ∀ f, Qm Tryz.prog f ((Q14.ctx k).Γ f) := QK
def Q14.ann (k : Nat) : Ann := .nil
theorem Q14.body (k : Nat) : Q0Y (Q14.ctx k) Tryz.f111 (Func.code Tryz.f111) (Q14.ann k) Q14.tin Q14.tout (fun x K => Q14.c k x.1 K) := by
 intro ρ x K; kernel_rfl
theorem Q14.sem_ok (k : Nat) : Qm Tryz.prog 111 (Q14.sem k) :=
 QD (C := Q14.ctx k) (Q14.gok k) Tryz.mix (c := Func.code Tryz.f111) (ann := Q14.ann k) (tin := Q14.tin) (tout := Q14.tout) (fun x K => Q14.c k x.1 K) Tryz.func111 (by kernel_rfl) (by kernel_rfl) Q1.nil (Q14.body k)
abbrev Q3.l0.σ : Type := (List Int) × Unit × Int × Int × Unit
abbrev Q3.l0.τ : Type := (Int × Unit) ⊕ (Unit)
def Q3.l0.r (k : Nat) {ρ : Type} (x : Q3.l0.σ) (kn : Q3.l0.σ → Option ρ) (ke : Q3.l0.τ → Option ρ) : Option ρ :=
 bif (decide (x.2.2.2.1 < x.2.2.1)) then (bif (decide (((0 : Int) ≤ x.2.2.2.1) ∧ (x.2.2.2.1 < (((List.length x.1) : Nat) : Int)))) then (let v1 : Int := (List.getD x.1 (Int.toNat x.2.2.2.1) (0 : Int))
 (Q14 k v1).bind fun t2 => bif t2.1 then (ke (.inl (x.2.2.2.1, ()))) else (let v3 : Int := (IntKind.wrap IntKind.i64 (x.2.2.2.1 + (1 : Int)))
 kn (x.1, ((), (x.2.2.1, (v3, ())))))) else (none)) else (ke (.inr ()))
def Q3.l0 (k : Nat) : Nat → Q3.l0.σ → Option Q3.l0.τ := Q1c (Q3.l0.r k)
def Q3.l0.T : StT := ⟨.dat (.sl (.int .i64)) :: .fn 111 (.dat .unit) :: us 5 ++ .dat (.int .i64) :: .dat (.int .i64) :: us 10, []⟩
def Q3.l0.os : List Out := [⟨.ret, [.mask [4], .auto 0], ⟨us 4 ++ .dat (.int .i64) :: us 14, []⟩⟩, ⟨(.exit 0), [.mask [], .auto 0], ⟨us 19, []⟩⟩]
abbrev Q3.τ : Type := (Int × Unit)
def Q3.c (k : Nat) {ρ : Type} (s : (List Int)) (f : Unit) (K : Q3.τ → Option ρ) : Option ρ :=
  let v0 : Int := (((List.length s) : Nat) : Int)
  (Q3.l0 k k (s, ((), (v0, ((0 : Int), ()))))).bind fun t4 => (match t4 with
 | .inl t5 => (K (t5.1, ()))
 | .inr (t6) => (K ((-(1 : Int)), ())))
def Q3 (k : Nat) (s : (List Int)) (f : Unit) : Option Q3.τ := Q3.c k s f some
def Q3.T : Q1g := ⟨[.dat (.sl (.int .i64)), .fn 111 (.dat .unit)], [], 0⟩
def Q3.os : List Out := [⟨.ret, [.freeze (.slot 0), .auto 0], ⟨[.dat (.int .i64)], []⟩⟩]
def Q3.sem (k : Nat) : Qr := Q1j Q3.T Q3.os fun x => Q3 k x.1 x.2.1
noncomputable def Q3.ctx (k : Nat) : Ctx := ⟨Tryz.prog, gam [(111, (Q14.sem k))]⟩
theorem Q3.gok (k : Nat) : ∀ f, Qm Tryz.prog f ((Q3.ctx k).Γ f) := (Q8 (Q14.sem_ok k) QK)
theorem Q3.l0.round (k : Nat) : Q1b (Q3.ctx k) (Q0y (Func.code Tryz.f128) [1, 0, 1, 0, 0]) (.nil) Q3.l0.T [.mask [0, 1, 7, 8], .auto 0] Q3.l0.os (Q3.l0.r k) := by
 intro ρ x kn ke; kernel_rfl
theorem Q3.l0.ok (k : Nat) : StOK 0 Tryz.prog (.loop (Q0y (Func.code Tryz.f128) [1, 0, 1, 0, 0])) (QO Q3.l0.T Q3.l0.os (Q3.l0 k k)) :=
 Q1e (C := Q3.ctx k) (Q3.gok k) Tryz.mix Q1.nil (by kernel_rfl) (by kernel_rfl) (by kernel_rfl) (Q3.l0.round k) k
def Q3.ann (k : Nat) : Ann := .node [] none (.nil) (.node [] none (.node [] none (.nil) (.node [] none (.node [] (some (QO Q3.l0.T Q3.l0.os (Q3.l0 k k))) .nil .nil) (.nil))) (.nil))
theorem Q3.body (k : Nat) : Q1n (Q3.ctx k) Tryz.f128 (Func.code Tryz.f128) (Q3.ann k) Q3.T Q3.os (fun x K => Q3.c k x.1 x.2.1 K) := by
 intro ρ x K; kernel_rfl
theorem Q3.sem_ok (k : Nat) : Qm Tryz.prog 128 (Q3.sem k) :=
 Q0U (C := Q3.ctx k) (Q3.gok k) Tryz.mix (c := Func.code Tryz.f128) (ann := Q3.ann k) (T := Q3.T) (os := Q3.os) (fun x K => Q3.c k x.1 x.2.1 K) Tryz.func128 (by kernel_rfl) (by kernel_rfl) (Q1.seq Q1.nil (Q1.seq (Q1.seq Q1.nil (Q1.block (Q1.loop (by kernel_rfl) (Q3.l0.ok k)))) Q1.nil)) (Q3.body k) (by kernel_rfl) (by kernel_rfl) (by kernel_rfl)
abbrev Qk.τ : Type := (Bool × Unit)
def Qk.c (k : Nat) {ρ : Type} (s : (List Int)) (f : Unit) (K : Qk.τ → Option ρ) : Option ρ :=
 (Q3 k s ()).bind fun t0 => K ((decide (t0.1 ≥ (0 : Int))), ())
def Qk (k : Nat) (s : (List Int)) (f : Unit) : Option Qk.τ := Qk.c k s f some
def Qk.T : Q1g := ⟨[.dat (.sl (.int .i64)), .fn 111 (.dat .unit)], [], 0⟩
def Qk.os : List Out := [⟨.ret, [.freeze (.slot 0), .auto 0], ⟨[.dat .bool], []⟩⟩]
def Qk.sem (k : Nat) : Qr := Q1j Qk.T Qk.os fun x => Qk k x.1 x.2.1
noncomputable def Qk.ctx (k : Nat) : Ctx := ⟨Tryz.prog, gam [(128, (Q3.sem k))]⟩
theorem Qk.gok (k : Nat) : ∀ f, Qm Tryz.prog f ((Qk.ctx k).Γ f) := (Q8 (Q3.sem_ok k) QK)
def Qk.ann (k : Nat) : Ann := .nil
theorem Qk.body (k : Nat) : Q1n (Qk.ctx k) Tryz.f110 (Func.code Tryz.f110) (Qk.ann k) Qk.T Qk.os (fun x K => Qk.c k x.1 x.2.1 K) := by
 intro ρ x K; kernel_rfl
theorem Qk.sem_ok (k : Nat) : Qm Tryz.prog 110 (Qk.sem k) :=
 Q0U (C := Qk.ctx k) (Qk.gok k) Tryz.mix (c := Func.code Tryz.f110) (ann := Qk.ann k) (T := Qk.T) (os := Qk.os) (fun x K => Qk.c k x.1 x.2.1 K) Tryz.func110 (by kernel_rfl) (by kernel_rfl) Q1.nil (Qk.body k) (by kernel_rfl) (by kernel_rfl) (by kernel_rfl)
def Q1h.c (k : Nat) {ρ : Type} (l : (List Int)) (K : Bool × Unit → Option ρ) : Option ρ :=
 (Qk k l ()).bind fun t0 => K ((!t0.1), ())
def Q1h (k : Nat) (l : (List Int)) : Option (Bool × Unit) := Q1h.c k l some
def Q1h.tin : List Ty := [(.sl (.int .i64))]
def Q1h.tout : List Ty := [.bool]
def Q1h.sem (k : Nat) : Qr := QX Q1h.tin Q1h.tout fun x => Q1h k x.1
noncomputable def Q1h.ctx (k : Nat) : Ctx := ⟨Tryz.prog, gam [(110, (Qk.sem k))]⟩
theorem Q1h.gok (k : Nat) : ∀ f, Qm Tryz.prog f ((Q1h.ctx k).Γ f) := (Q8 (Qk.sem_ok k) QK)
def Q1h.ann (k : Nat) : Ann := .nil
theorem Q1h.body (k : Nat) : Q0Y (Q1h.ctx k) Tryz.f79 (Func.code Tryz.f79) (Q1h.ann k) Q1h.tin Q1h.tout (fun x K => Q1h.c k x.1 K) := by
 intro ρ x K; kernel_rfl
theorem Q1h.sem_ok (k : Nat) : Qm Tryz.prog 79 (Q1h.sem k) :=
 QD (C := Q1h.ctx k) (Q1h.gok k) Tryz.mix (c := Func.code Tryz.f79) (ann := Q1h.ann k) (tin := Q1h.tin) (tout := Q1h.tout) (fun x K => Q1h.c k x.1 K) Tryz.func79 (by kernel_rfl) (by kernel_rfl) Q1.nil (Q1h.body k)
def Q0M.c (k : Nat) {ρ : Type} (x_0 : Qde) (K : Bool × Unit → Option ρ) : Option ρ :=
 let v0 : Int := x_0.2.1
 bif (decide (v0 ≥ (0 : Int))) then (let v1 : Int := x_0.2.1
 bif (decide (v1 ≤ (20000 : Int))) then (let v2 : Int := x_0.2.2.1
 bif (decide (v2 ≥ (0 : Int))) then (let v3 : Int := x_0.2.2.1
 bif (decide (v3 ≤ (15 : Int))) then (let v4 : Int := x_0.2.2.2.1
 let v5 : Int := x_0.2.2.2.2.1
 let v6 : Int := x_0.2.2.2.2.2.1
 (Q1h k (List.set (List.set (List.set (List.replicate 3 (0 : Int)) 0 v4) 1 v5) 2 v6)).bind fun t7 => K (t7.1, ())) else (K (false, ()))) else (K (false, ()))) else (K (false, ()))) else (K (false, ()))
def Q0M (k : Nat) (x_0 : Qde) : Option (Bool × Unit) := Q0M.c k x_0 some
def Q0M.tin : List Ty := [Qdb]
def Q0M.tout : List Ty := [.bool]
def Q0M.sem (k : Nat) : Qr := QX Q0M.tin Q0M.tout fun x => Q0M k x.1
noncomputable def Q0M.ctx (k : Nat) : Ctx := ⟨Tryz.prog, gam [(79, (Q1h.sem k))]⟩
theorem Q0M.gok (k : Nat) : ∀ f, Qm Tryz.prog f ((Q0M.ctx k).Γ f) := (Q8 (Q1h.sem_ok k) QK)
def Q0M.ann (k : Nat) : Ann := .nil
theorem Q0M.body (k : Nat) : Q0Y (Q0M.ctx k) Tryz.f32 (Func.code Tryz.f32) (Q0M.ann k) Q0M.tin Q0M.tout (fun x K => Q0M.c k x.1 K) := by
 intro ρ x K; kernel_rfl
theorem Q0M.sem_ok (k : Nat) : Qm Tryz.prog 32 (Q0M.sem k) :=
 QD (C := Q0M.ctx k) (Q0M.gok k) Tryz.mix (c := Func.code Tryz.f32) (ann := Q0M.ann k) (tin := Q0M.tin) (tout := Q0M.tout) (fun x K => Q0M.c k x.1 K) Tryz.func32 (by kernel_rfl) (by kernel_rfl) Q1.nil (Q0M.body k)
abbrev QR.τ : Type := Qdk 
def QR.c (k : Nat) {ρ : Type}  (K : QR.τ → Option ρ) : Option ρ :=
 K ((((), ((), ())), ()), ([], ()))
def QR (k : Nat)  : Option QR.τ := QR.c k  some
def QR.T : Q1g := ⟨[], [], 0⟩
def QR.os : List Out := [⟨.ret, [.auto 0], ⟨[.ptr 0 []], [.pair (.pair (.sfp 0 [0] 146) (.pair (.vbs 1) (.dat .unit))) (.dat .unit), .vec (.int .u8)]⟩⟩]
def QR.sem (k : Nat) : Qr := Q1j QR.T QR.os fun x => QR k 
noncomputable def QR.ctx (k : Nat) : Ctx := ⟨Tryz.prog, gam []⟩
theorem QR.gok (k : Nat) : ∀ f, Qm Tryz.prog f ((QR.ctx k).Γ f) := QK
def QR.ann (k : Nat) : Ann := .nil
theorem QR.body (k : Nat) : Q1n (QR.ctx k) Tryz.f33 (Func.code Tryz.f33) (QR.ann k) QR.T QR.os (fun x K => QR.c k  K) := by
 intro ρ x K; kernel_rfl
theorem QR.sem_ok (k : Nat) : Qm Tryz.prog 33 (QR.sem k) :=
 Q0U (C := QR.ctx k) (QR.gok k) Tryz.mix (c := Func.code Tryz.f33) (ann := QR.ann k) (T := QR.T) (os := QR.os) (fun x K => QR.c k  K) Tryz.func33 (by kernel_rfl) (by kernel_rfl) Q1.nil (QR.body k) (by kernel_rfl) (by kernel_rfl) (by kernel_rfl)
abbrev Q0r.l0.σ : Type := Int × Int × Int × (List Int) × Unit
abbrev Q0r.l0.τ : Type := ((List Int) × Unit)
def Q0r.l0.r (k : Nat) {ρ : Type} (x : Q0r.l0.σ) (kn : Q0r.l0.σ → Option ρ) (ke : Q0r.l0.τ → Option ρ) : Option ρ :=
 bif (decide (x.2.2.1 < x.2.1)) then (let v1 : Int := (IntKind.wrap IntKind.i64 ((8 : Int) * x.2.2.1))
 bif (decide ((0 : Int) ≤ v1)) then (let v2 : Int := (Q29 IntKind.u64 x.1 v1)
 bif (decide (((0 : Int) ≤ x.2.2.1) ∧ (x.2.2.1 < (((List.length x.2.2.2.1) : Nat) : Int)))) then (let v3 : Int := (IntKind.wrap IntKind.i64 (x.2.2.1 + (1 : Int)))
 kn (x.1, (x.2.1, (v3, ((List.set x.2.2.2.1 (Int.toNat x.2.2.1) (IntKind.wrap IntKind.u8 v2)), ()))))) else (none)) else (none)) else (ke (x.2.2.2.1, ()))
def Q0r.l0 (k : Nat) : Nat → Q0r.l0.σ → Option Q0r.l0.τ := Q1c (Q0r.l0.r k)
def Q0r.l0.T : StT := ⟨.dat (.int .u64) :: us 4 ++ .vsl 0 :: us 4 ++ .dat (.int .i64) :: .dat (.int .i64) :: us 13, [.vec (.int .u8)]⟩
def Q0r.l0.os : List Out := [⟨(.exit 0), [.mask [5], .auto 0], ⟨us 5 ++ .vsl 0 :: us 19, [.vec (.int .u8)]⟩⟩]
def Q0r.c (k : Nat) {ρ : Type} (n : Int) (bytes : Int) (K : ByteArray × Unit → Option ρ) : Option ρ :=
 bif ((decide (((0 : Int) ≤ bytes) ∧ (bytes ≤ bytes))) && (Nat.ble ((Int.toNat bytes) * 1) 140737488355328)) then (let v0 : Int := (((List.length (List.replicate (Int.toNat bytes) (0 : Int))) : Nat) : Int)
 (Q0r.l0 k k (n, (v0, ((0 : Int), ((List.replicate (Int.toNat bytes) (0 : Int)), ()))))).bind fun t4 => K ((bytesOf t4.1), ())) else (none)
def Q0r (k : Nat) (n : Int) (bytes : Int) : Option Qdp := Q0r.c k n bytes some
def Q0r.tin : List Ty := [(.int .u64), (.int .i64)]
def Q0r.tout : List Ty := [.str]
def Q0r.sem (k : Nat) : Qr := QX Q0r.tin Q0r.tout fun x => Q0r k x.1 x.2.1
noncomputable def Q0r.ctx (k : Nat) : Ctx := ⟨Tryz.prog, gam []⟩
theorem Q0r.gok (k : Nat) : ∀ f, Qm Tryz.prog f ((Q0r.ctx k).Γ f) := QK
theorem Q0r.l0.round (k : Nat) : Q1b (Q0r.ctx k) (Q0y (Func.code Tryz.f82) [1, 1, 0, 1, 0, 0]) (.nil) Q0r.l0.T [.mask [0, 5, 10, 11], .auto 0] Q0r.l0.os (Q0r.l0.r k) := by
 intro ρ x kn ke; kernel_rfl
theorem Q0r.l0.ok (k : Nat) : StOK 0 Tryz.prog (.loop (Q0y (Func.code Tryz.f82) [1, 1, 0, 1, 0, 0])) (QO Q0r.l0.T Q0r.l0.os (Q0r.l0 k k)) :=
 Q1e (C := Q0r.ctx k) (Q0r.gok k) Tryz.mix Q1.nil (by kernel_rfl) (by kernel_rfl) (by kernel_rfl) (Q0r.l0.round k) k
def Q0r.ann (k : Nat) : Ann := .node [] none (.nil) (.node [] none (.nil) (.node [] none (.node [] none (.nil) (.node [] none (.node [.mask [0, 5, 10, 11], .auto 0] (some (QO Q0r.l0.T Q0r.l0.os (Q0r.l0 k k))) .nil .nil) (.nil))) (.nil)))
theorem Q0r.body (k : Nat) : Q0Y (Q0r.ctx k) Tryz.f82 (Func.code Tryz.f82) (Q0r.ann k) Q0r.tin Q0r.tout (fun x K => Q0r.c k x.1 x.2.1 K) := by
 intro ρ x K; kernel_rfl
theorem Q0r.sem_ok (k : Nat) : Qm Tryz.prog 82 (Q0r.sem k) :=
 QD (C := Q0r.ctx k) (Q0r.gok k) Tryz.mix (c := Func.code Tryz.f82) (ann := Q0r.ann k) (tin := Q0r.tin) (tout := Q0r.tout) (fun x K => Q0r.c k x.1 x.2.1 K) Tryz.func82 (by kernel_rfl) (by kernel_rfl) (Q1.seq Q1.nil (Q1.seq Q1.nil (Q1.seq (Q1.seq Q1.nil (Q1.block (Q1.loop (by kernel_rfl) (Q0r.l0.ok k)))) Q1.nil))) (Q0r.body k)
abbrev Qi.τ : Type := (Int × Qdn × (List Int) × Unit)
def Qi.c (k : Nat) {ρ : Type} (s : ByteArray) (b0 : Qdn) (b1 : (List Int)) (K : Qi.τ → Option ρ) : Option ρ :=
 bif (Nat.ble (((List.length b1) + (List.length (Q0z s))) * 1) 140737488355328) then (K ((((ByteArray.size s) : Nat) : Int), ((((), ((), ())), ()), ((b1 ++ (Q0z s)), ())))) else (none)
def Qi (k : Nat) (s : ByteArray) (b0 : Qdn) (b1 : (List Int)) : Option Qi.τ := Qi.c k s b0 b1 some
def Qi.T : Q1g := ⟨[.ptr 0 [0], .dat .str], [.pair (.pair (.sfp 0 [0] 146) (.pair (.vbs 1) (.dat .unit))) (.dat .unit), .vec (.int .u8)], 1⟩
def Qi.os : List Out := [⟨.ret, [.freeze (.slot 0), .auto 1], ⟨[.dat (.int .i64), .undef], [.pair (.pair (.sfp 0 [0] 146) (.pair (.vbs 1) (.dat .unit))) (.dat .unit), .vec (.int .u8)]⟩⟩]
def Qi.sem (k : Nat) : Qr := Q1j Qi.T Qi.os fun x => Qi k x.1 x.2.1 x.2.2.1
noncomputable def Qi.ctx (k : Nat) : Ctx := ⟨Tryz.prog, gam [(112, (Qb8 146 2))]⟩
theorem Qi.gok (k : Nat) : ∀ f, Qm Tryz.prog f ((Qi.ctx k).Γ f) := (Q8 Bld.copyCheck QK)
def Qi.ann (k : Nat) : Ann := .nil
theorem Qi.body (k : Nat) : Q1n (Qi.ctx k) Tryz.f80 (Func.code Tryz.f80) (Qi.ann k) Qi.T Qi.os (fun x K => Qi.c k x.1 x.2.1 x.2.2.1 K) := by
 intro ρ x K; kernel_rfl
theorem Qi.sem_ok (k : Nat) : Qm Tryz.prog 80 (Qi.sem k) :=
 Q0U (C := Qi.ctx k) (Qi.gok k) Tryz.mix (c := Func.code Tryz.f80) (ann := Qi.ann k) (T := Qi.T) (os := Qi.os) (fun x K => Qi.c k x.1 x.2.1 x.2.2.1 K) Tryz.func80 (by kernel_rfl) (by kernel_rfl) Q1.nil (Qi.body k) (by kernel_rfl) (by kernel_rfl) (by kernel_rfl)
abbrev Qg.τ : Type := Qdk 
def Qg.c (k : Nat) {ρ : Type} (s : ByteArray) (b0 : Qdn) (b1 : (List Int)) (K : Qg.τ → Option ρ) : Option ρ :=
 (Qi k s (((), ((), ())), ()) b1).bind fun t0 => K ((((), ((), ())), ()), (t0.2.2.1, ()))
def Qg (k : Nat) (s : ByteArray) (b0 : Qdn) (b1 : (List Int)) : Option Qg.τ := Qg.c k s b0 b1 some
def Qg.T : Q1g := ⟨[.ptr 0 [], .dat .str], [.pair (.pair (.sfp 0 [0] 146) (.pair (.vbs 1) (.dat .unit))) (.dat .unit), .vec (.int .u8)], 1⟩
def Qg.os : List Out := [⟨.ret, [.auto 1], ⟨[], [.pair (.pair (.sfp 0 [0] 146) (.pair (.vbs 1) (.dat .unit))) (.dat .unit), .vec (.int .u8)]⟩⟩]
def Qg.sem (k : Nat) : Qr := Q1j Qg.T Qg.os fun x => Qg k x.1 x.2.1 x.2.2.1
noncomputable def Qg.ctx (k : Nat) : Ctx := ⟨Tryz.prog, gam [(80, (Qi.sem k))]⟩
theorem Qg.gok (k : Nat) : ∀ f, Qm Tryz.prog f ((Qg.ctx k).Γ f) := (Q8 (Qi.sem_ok k) QK)
def Qg.ann (k : Nat) : Ann := .nil
theorem Qg.body (k : Nat) : Q1n (Qg.ctx k) Tryz.f34 (Func.code Tryz.f34) (Qg.ann k) Qg.T Qg.os (fun x K => Qg.c k x.1 x.2.1 x.2.2.1 K) := by
 intro ρ x K; kernel_rfl
theorem Qg.sem_ok (k : Nat) : Qm Tryz.prog 34 (Qg.sem k) :=
 Q0U (C := Qg.ctx k) (Qg.gok k) Tryz.mix (c := Func.code Tryz.f34) (ann := Qg.ann k) (T := Qg.T) (os := Qg.os) (fun x K => Qg.c k x.1 x.2.1 x.2.2.1 K) Tryz.func34 (by kernel_rfl) (by kernel_rfl) Q1.nil (Qg.body k) (by kernel_rfl) (by kernel_rfl) (by kernel_rfl)
abbrev Qv.τ : Type := Qdk 
def Qv.c (k : Nat) {ρ : Type} (n : Int) (b0 : Qdn) (b1 : (List Int)) (K : Qv.τ → Option ρ) : Option ρ :=
 (Q0r k (IntKind.wrap IntKind.u64 n) (4 : Int)).bind fun t0 => (Qg k t0.1 (((), ((), ())), ()) b1).bind fun t1 => K ((((), ((), ())), ()), (t1.2.1, ()))
def Qv (k : Nat) (n : Int) (b0 : Qdn) (b1 : (List Int)) : Option Qv.τ := Qv.c k n b0 b1 some
def Qv.T : Q1g := ⟨[.ptr 0 [], .dat (.int .u32)], [.pair (.pair (.sfp 0 [0] 146) (.pair (.vbs 1) (.dat .unit))) (.dat .unit), .vec (.int .u8)], 1⟩
def Qv.os : List Out := [⟨.ret, [.auto 1], ⟨[], [.pair (.pair (.sfp 0 [0] 146) (.pair (.vbs 1) (.dat .unit))) (.dat .unit), .vec (.int .u8)]⟩⟩]
def Qv.sem (k : Nat) : Qr := Q1j Qv.T Qv.os fun x => Qv k x.1 x.2.1 x.2.2.1
noncomputable def Qv.ctx (k : Nat) : Ctx := ⟨Tryz.prog, gam [(82, (Q0r.sem k)), (34, (Qg.sem k))]⟩
theorem Qv.gok (k : Nat) : ∀ f, Qm Tryz.prog f ((Qv.ctx k).Γ f) := (Q8 (Q0r.sem_ok k) (Q8 (Qg.sem_ok k) QK))
def Qv.ann (k : Nat) : Ann := .nil
theorem Qv.body (k : Nat) : Q1n (Qv.ctx k) Tryz.f36 (Func.code Tryz.f36) (Qv.ann k) Qv.T Qv.os (fun x K => Qv.c k x.1 x.2.1 x.2.2.1 K) := by
 intro ρ x K; kernel_rfl
theorem Qv.sem_ok (k : Nat) : Qm Tryz.prog 36 (Qv.sem k) :=
 Q0U (C := Qv.ctx k) (Qv.gok k) Tryz.mix (c := Func.code Tryz.f36) (ann := Qv.ann k) (T := Qv.T) (os := Qv.os) (fun x K => Qv.c k x.1 x.2.1 x.2.2.1 K) Tryz.func36 (by kernel_rfl) (by kernel_rfl) Q1.nil (Qv.body k) (by kernel_rfl) (by kernel_rfl) (by kernel_rfl)
abbrev QY.τ : Type := Qdk 
def QY.c (k : Nat) {ρ : Type} (h : (List Int)) (b0 : Qdn) (b1 : (List Int)) (K : QY.τ → Option ρ) : Option ρ :=
 let v0 : ByteArray := (bytesOf (List.take 32 (List.drop 0 h)))
 (Qg k v0 (((), ((), ())), ()) b1).bind fun t1 => K ((((), ((), ())), ()), (t1.2.1, ()))
def QY (k : Nat) (h : (List Int)) (b0 : Qdn) (b1 : (List Int)) : Option QY.τ := QY.c k h b0 b1 some
def QY.T : Q1g := ⟨[.ptr 0 [], .dat Qdo], [.pair (.pair (.sfp 0 [0] 146) (.pair (.vbs 1) (.dat .unit))) (.dat .unit), .vec (.int .u8)], 1⟩
def QY.os : List Out := [⟨.ret, [.auto 1], ⟨[], [.pair (.pair (.sfp 0 [0] 146) (.pair (.vbs 1) (.dat .unit))) (.dat .unit), .vec (.int .u8)]⟩⟩]
def QY.sem (k : Nat) : Qr := Q1j QY.T QY.os fun x => QY k x.1 x.2.1 x.2.2.1
noncomputable def QY.ctx (k : Nat) : Ctx := ⟨Tryz.prog, gam [(34, (Qg.sem k))]⟩
theorem QY.gok (k : Nat) : ∀ f, Qm Tryz.prog f ((QY.ctx k).Γ f) := (Q8 (Qg.sem_ok k) QK)
def QY.ann (k : Nat) : Ann := .nil
theorem QY.body (k : Nat) : Q1n (QY.ctx k) Tryz.f81 (Func.code Tryz.f81) (QY.ann k) QY.T QY.os (fun x K => QY.c k x.1 x.2.1 x.2.2.1 K) := by
 intro ρ x K; kernel_rfl
theorem QY.sem_ok (k : Nat) : Qm Tryz.prog 81 (QY.sem k) :=
 Q0U (C := QY.ctx k) (QY.gok k) Tryz.mix (c := Func.code Tryz.f81) (ann := QY.ann k) (T := QY.T) (os := QY.os) (fun x K => QY.c k x.1 x.2.1 x.2.2.1 K) Tryz.func81 (by kernel_rfl) (by kernel_rfl) Q1.nil (QY.body k) (by kernel_rfl) (by kernel_rfl) (by kernel_rfl)
abbrev Qx.τ : Type := Qdp 
def Qx.c (k : Nat) {ρ : Type} (b0 : Qdn) (b1 : (List Int)) (K : Qx.τ → Option ρ) : Option ρ :=
 bif (Nat.ble (List.length b1) 9223372036854775807) then (K ((bytesOf b1), ())) else (none)
def Qx (k : Nat) (b0 : Qdn) (b1 : (List Int)) : Option Qx.τ := Qx.c k b0 b1 some
def Qx.T : Q1g := ⟨[.ptr 0 []], [.pair (.pair (.sfp 0 [0] 146) (.pair (.vbs 1) (.dat .unit))) (.dat .unit), .vec (.int .u8)], 1⟩
def Qx.os : List Out := [⟨.ret, [.freeze (.slot 0), .auto 1], ⟨[.dat .str], [.undef]⟩⟩]
def Qx.sem (k : Nat) : Qr := Q1j Qx.T Qx.os fun x => Qx k x.1 x.2.1
noncomputable def Qx.ctx (k : Nat) : Ctx := ⟨Tryz.prog, gam [(83, Qag)]⟩
theorem Qx.gok (k : Nat) : ∀ f, Qm Tryz.prog f ((Qx.ctx k).Γ f) := (Q8 Bld.string QK)
def Qx.ann (k : Nat) : Ann := .nil
theorem Qx.body (k : Nat) : Q1n (Qx.ctx k) Tryz.f38 (Func.code Tryz.f38) (Qx.ann k) Qx.T Qx.os (fun x K => Qx.c k x.1 x.2.1 K) := by
 intro ρ x K; kernel_rfl
theorem Qx.sem_ok (k : Nat) : Qm Tryz.prog 38 (Qx.sem k) :=
 Q0U (C := Qx.ctx k) (Qx.gok k) Tryz.mix (c := Func.code Tryz.f38) (ann := Qx.ann k) (T := Qx.T) (os := Qx.os) (fun x K => Qx.c k x.1 x.2.1 K) Tryz.func38 (by kernel_rfl) (by kernel_rfl) Q1.nil (Qx.body k) (by kernel_rfl) (by kernel_rfl) (by kernel_rfl)
def Q0X.c (k : Nat) {ρ : Type} (h : Qdi) (K : ByteArray × Unit → Option ρ) : Option ρ :=
 (QR k ).bind fun t0 => let v1 : Int := h.1
 (Qv k v1 (((), ((), ())), ()) t0.2.1).bind fun t2 => let v3 : (List Int) := h.2.1
 (QY k v3 (((), ((), ())), ()) t2.2.1).bind fun t4 => let v5 : (List Int) := h.2.2.1
 (QY k v5 (((), ((), ())), ()) t4.2.1).bind fun t6 => let v7 : Int := h.2.2.2.1
 (Qv k v7 (((), ((), ())), ()) t6.2.1).bind fun t8 => let v9 : Int := h.2.2.2.2.1
 (Qv k v9 (((), ((), ())), ()) t8.2.1).bind fun t10 => let v11 : Int := h.2.2.2.2.2.1
 (Qv k v11 (((), ((), ())), ()) t10.2.1).bind fun t12 => (Qx k (((), ((), ())), ()) t12.2.1).bind fun t13 => K (t13.1, ())
def Q0X (k : Nat) (h : Qdi) : Option Qdp := Q0X.c k h some
def Q0X.tin : List Ty := [Qdc]
def Q0X.tout : List Ty := [.str]
def Q0X.sem (k : Nat) : Qr := QX Q0X.tin Q0X.tout fun x => Q0X k x.1
noncomputable def Q0X.ctx (k : Nat) : Ctx := ⟨Tryz.prog, gam [(33, (QR.sem k)), (36, (Qv.sem k)), (81, (QY.sem k)), (38, (Qx.sem k))]⟩
theorem Q0X.gok (k : Nat) : ∀ f, Qm Tryz.prog f ((Q0X.ctx k).Γ f) := (Q8 (QR.sem_ok k) (Q8 (Qv.sem_ok k) (Q8 (QY.sem_ok k) (Q8 (Qx.sem_ok k) QK))))
def Q0X.ann (k : Nat) : Ann := .nil
theorem Q0X.body (k : Nat) : Q0Y (Q0X.ctx k) Tryz.f35 (Func.code Tryz.f35) (Q0X.ann k) Q0X.tin Q0X.tout (fun x K => Q0X.c k x.1 K) := by
 intro ρ x K; kernel_rfl
theorem Q0X.sem_ok (k : Nat) : Qm Tryz.prog 35 (Q0X.sem k) :=
 QD (C := Q0X.ctx k) (Q0X.gok k) Tryz.mix (c := Func.code Tryz.f35) (ann := Q0X.ann k) (tin := Q0X.tin) (tout := Q0X.tout) (fun x K => Q0X.c k x.1 K) Tryz.func35 (by kernel_rfl) (by kernel_rfl) Q1.nil (Q0X.body k)
abbrev Q0o.τ : Type := Qdk 
def Q0o.c (k : Nat) {ρ : Type} (b : Int) (b0 : Qdn) (b1 : (List Int)) (K : Q0o.τ → Option ρ) : Option ρ :=
 (Q0r k (IntKind.wrap IntKind.u64 b) (1 : Int)).bind fun t0 => (Qg k t0.1 (((), ((), ())), ()) b1).bind fun t1 => K ((((), ((), ())), ()), (t1.2.1, ()))
def Q0o (k : Nat) (b : Int) (b0 : Qdn) (b1 : (List Int)) : Option Q0o.τ := Q0o.c k b b0 b1 some
def Q0o.T : Q1g := ⟨[.ptr 0 [], .dat (.int .u8)], [.pair (.pair (.sfp 0 [0] 146) (.pair (.vbs 1) (.dat .unit))) (.dat .unit), .vec (.int .u8)], 1⟩
def Q0o.os : List Out := [⟨.ret, [.auto 1], ⟨[], [.pair (.pair (.sfp 0 [0] 146) (.pair (.vbs 1) (.dat .unit))) (.dat .unit), .vec (.int .u8)]⟩⟩]
def Q0o.sem (k : Nat) : Qr := Q1j Q0o.T Q0o.os fun x => Q0o k x.1 x.2.1 x.2.2.1
noncomputable def Q0o.ctx (k : Nat) : Ctx := ⟨Tryz.prog, gam [(82, (Q0r.sem k)), (34, (Qg.sem k))]⟩
theorem Q0o.gok (k : Nat) : ∀ f, Qm Tryz.prog f ((Q0o.ctx k).Γ f) := (Q8 (Q0r.sem_ok k) (Q8 (Qg.sem_ok k) QK))
def Q0o.ann (k : Nat) : Ann := .nil
theorem Q0o.body (k : Nat) : Q1n (Q0o.ctx k) Tryz.f37 (Func.code Tryz.f37) (Q0o.ann k) Q0o.T Q0o.os (fun x K => Q0o.c k x.1 x.2.1 x.2.2.1 K) := by
 intro ρ x K; kernel_rfl
theorem Q0o.sem_ok (k : Nat) : Qm Tryz.prog 37 (Q0o.sem k) :=
 Q0U (C := Q0o.ctx k) (Q0o.gok k) Tryz.mix (c := Func.code Tryz.f37) (ann := Q0o.ann k) (T := Q0o.T) (os := Q0o.os) (fun x K => Q0o.c k x.1 x.2.1 x.2.2.1 K) Tryz.func37 (by kernel_rfl) (by kernel_rfl) Q1.nil (Q0o.body k) (by kernel_rfl) (by kernel_rfl) (by kernel_rfl)
def Q0G.c (k : Nat) {ρ : Type} (x_0 : Qde) (K : ByteArray × Int × Unit → Option ρ) : Option ρ :=
 (Q0M k ((x_0.1.1, (x_0.1.2.1, (x_0.1.2.2.1, (x_0.1.2.2.2.1, (x_0.1.2.2.2.2.1, (x_0.1.2.2.2.2.2.1, ())))))), (x_0.2.1, (x_0.2.2.1, (x_0.2.2.2.1, (x_0.2.2.2.2.1, (x_0.2.2.2.2.2.1, ()))))))).bind fun t0 => bif (!t0.1) then (K ((⟨(List.toArray [])⟩ : ByteArray), ((130 : Int), ()))) else ((QR k ).bind fun t1 => (Q0X k (x_0.1.1, (x_0.1.2.1, (x_0.1.2.2.1, (x_0.1.2.2.2.1, (x_0.1.2.2.2.2.1, (x_0.1.2.2.2.2.2.1, ()))))))).bind fun t2 => (Qg k t2.1 (((), ((), ())), ()) t1.2.1).bind fun t3 => let v4 : Int := x_0.2.1
 (Qv k (IntKind.wrap IntKind.u32 v4) (((), ((), ())), ()) t3.2.1).bind fun t5 => let v6 : Int := x_0.2.2.1
 (Q0o k (IntKind.wrap IntKind.u8 v6) (((), ((), ())), ()) t5.2.1).bind fun t7 => let v8 : Int := x_0.2.2.2.1
 (Qv k (IntKind.wrap IntKind.u32 v8) (((), ((), ())), ()) t7.2.1).bind fun t9 => let v10 : Int := x_0.2.2.2.2.1
 (Qv k (IntKind.wrap IntKind.u32 v10) (((), ((), ())), ()) t9.2.1).bind fun t11 => let v12 : Int := x_0.2.2.2.2.2.1
 (Qv k (IntKind.wrap IntKind.u32 v12) (((), ((), ())), ()) t11.2.1).bind fun t13 => (Qx k (((), ((), ())), ()) t13.2.1).bind fun t14 => K (t14.1, ((0 : Int), ())))
def Q0G (k : Nat) (x_0 : Qde) : Option (ByteArray × Int × Unit) := Q0G.c k x_0 some
def Q0G.tin : List Ty := [Qdb]
def Q0G.tout : List Ty := [.str, (.int .i64)]
def Q0G.sem (k : Nat) : Qr := QX Q0G.tin Q0G.tout fun x => Q0G k x.1
noncomputable def Q0G.ctx (k : Nat) : Ctx := ⟨Tryz.prog, gam [(32, (Q0M.sem k)), (33, (QR.sem k)), (35, (Q0X.sem k)), (34, (Qg.sem k)), (36, (Qv.sem k)), (37, (Q0o.sem k)), (38, (Qx.sem k))]⟩
theorem Q0G.gok (k : Nat) : ∀ f, Qm Tryz.prog f ((Q0G.ctx k).Γ f) := (Q8 (Q0M.sem_ok k) (Q8 (QR.sem_ok k) (Q8 (Q0X.sem_ok k) (Q8 (Qg.sem_ok k) (Q8 (Qv.sem_ok k) (Q8 (Q0o.sem_ok k) (Q8 (Qx.sem_ok k) QK)))))))
def Q0G.ann (k : Nat) : Ann := .nil
theorem Q0G.body (k : Nat) : Q0Y (Q0G.ctx k) Tryz.f7 (Func.code Tryz.f7) (Q0G.ann k) Q0G.tin Q0G.tout (fun x K => Q0G.c k x.1 K) := by
 intro ρ x K; kernel_rfl
theorem Q0G.sem_ok (k : Nat) : Qm Tryz.prog 7 (Q0G.sem k) :=
 QD (C := Q0G.ctx k) (Q0G.gok k) Tryz.mix (c := Func.code Tryz.f7) (ann := Q0G.ann k) (tin := Q0G.tin) (tout := Q0G.tout) (fun x K => Q0G.c k x.1 K) Tryz.func7 (by kernel_rfl) (by kernel_rfl) Q1.nil (Q0G.body k)
end Go.Am
namespace Go.Am
open Go Go.Proofs
set_option maxRecDepth 100000
abbrev Q0w.τ : Type := (Qdm × Unit)
def Q0w.c (k : Nat) {ρ : Type} (s : ByteArray) (K : Q0w.τ → Option ρ) : Option ρ :=
 K ((s, ((0 : Int), ((0 : Int), ()))), ())
def Q0w (k : Nat) (s : ByteArray) : Option Q0w.τ := Q0w.c k s some
def Q0w.T : Q1g := ⟨[.dat .str], [], 0⟩
def Q0w.os : List Out := [⟨.ret, [.auto 0], ⟨[.ptr 0 []], [.dat Qdj]⟩⟩]
def Q0w.sem (k : Nat) : Qr := Q1j Q0w.T Q0w.os fun x => Q0w k x.1
noncomputable def Q0w.ctx (k : Nat) : Ctx := ⟨Tryz.prog, gam []⟩
theorem Q0w.gok (k : Nat) : ∀ f, Qm Tryz.prog f ((Q0w.ctx k).Γ f) := QK
def Q0w.ann (k : Nat) : Ann := .nil
theorem Q0w.body (k : Nat) : Q1n (Q0w.ctx k) Tryz.f40 (Func.code Tryz.f40) (Q0w.ann k) Q0w.T Q0w.os (fun x K => Q0w.c k x.1 K) := by
 intro ρ x K; kernel_rfl
theorem Q0w.sem_ok (k : Nat) : Qm Tryz.prog 40 (Q0w.sem k) :=
 Q0U (C := Q0w.ctx k) (Q0w.gok k) Tryz.mix (c := Func.code Tryz.f40) (ann := Q0w.ann k) (T := Q0w.T) (os := Q0w.os) (fun x K => Q0w.c k x.1 K) Tryz.func40 (by kernel_rfl) (by kernel_rfl) Q1.nil (Q0w.body k) (by kernel_rfl) (by kernel_rfl) (by kernel_rfl)
abbrev Q0e.τ : Type := Qdl 
def Q0e.c (k : Nat) {ρ : Type} (b0 : Qdm) (K : Q0e.τ → Option ρ) : Option ρ :=
 let v0 : Int := b0.2.2.1
 K (v0, ((b0.1, (b0.2.1, (b0.2.2.1, ()))), ()))
def Q0e (k : Nat) (b0 : Qdm) : Option Q0e.τ := Q0e.c k b0 some
def Q0e.T : Q1g := ⟨[.ptr 0 []], [.dat Qdj], 1⟩
def Q0e.os : List Out := [⟨.ret, [.freeze (.slot 0), .auto 1], ⟨[.dat (.int .i64)], [.dat Qdj]⟩⟩]
def Q0e.sem (k : Nat) : Qr := Q1j Q0e.T Q0e.os fun x => Q0e k x.1
noncomputable def Q0e.ctx (k : Nat) : Ctx := ⟨Tryz.prog, gam []⟩
theorem Q0e.gok (k : Nat) : ∀ f, Qm Tryz.prog f ((Q0e.ctx k).Γ f) := QK
def Q0e.ann (k : Nat) : Ann := .nil
theorem Q0e.body (k : Nat) : Q1n (Q0e.ctx k) Tryz.f85 (Func.code Tryz.f85) (Q0e.ann k) Q0e.T Q0e.os (fun x K => Q0e.c k x.1 K) := by
 intro ρ x K; kernel_rfl
theorem Q0e.sem_ok (k : Nat) : Qm Tryz.prog 85 (Q0e.sem k) :=
 Q0U (C := Q0e.ctx k) (Q0e.gok k) Tryz.mix (c := Func.code Tryz.f85) (ann := Q0e.ann k) (T := Q0e.T) (os := Q0e.os) (fun x K => Q0e.c k x.1 K) Tryz.func85 (by kernel_rfl) (by kernel_rfl) Q1.nil (Q0e.body k) (by kernel_rfl) (by kernel_rfl) (by kernel_rfl)
abbrev Q0j.τ : Type := Qdl 
def Q0j.c (k : Nat) {ρ : Type} (b0 : Qdm) (K : Q0j.τ → Option ρ) : Option ρ :=
 let v0 : ByteArray := b0.1
 let v1 : Int := b0.2.1
 let v2 : Int := (IntKind.wrap IntKind.i64 ((((ByteArray.size v0) : Nat) : Int) - v1))
 K (v2, ((b0.1, (b0.2.1, (b0.2.2.1, ()))), ()))
def Q0j (k : Nat) (b0 : Qdm) : Option Q0j.τ := Q0j.c k b0 some
def Q0j.T : Q1g := ⟨[.ptr 0 []], [.dat Qdj], 1⟩
def Q0j.os : List Out := [⟨.ret, [.freeze (.slot 0), .auto 1], ⟨[.dat (.int .i64)], [.dat Qdj]⟩⟩]
def Q0j.sem (k : Nat) : Qr := Q1j Q0j.T Q0j.os fun x => Q0j k x.1
noncomputable def Q0j.ctx (k : Nat) : Ctx := ⟨Tryz.prog, gam []⟩
theorem Q0j.gok (k : Nat) : ∀ f, Qm Tryz.prog f ((Q0j.ctx k).Γ f) := QK
def Q0j.ann (k : Nat) : Ann := .nil
theorem Q0j.body (k : Nat) : Q1n (Q0j.ctx k) Tryz.f113 (Func.code Tryz.f113) (Q0j.ann k) Q0j.T Q0j.os (fun x K => Q0j.c k x.1 K) := by
 intro ρ x K; kernel_rfl
theorem Q0j.sem_ok (k : Nat) : Qm Tryz.prog 113 (Q0j.sem k) :=
 Q0U (C := Q0j.ctx k) (Q0j.gok k) Tryz.mix (c := Func.code Tryz.f113) (ann := Q0j.ann k) (T := Q0j.T) (os := Q0j.os) (fun x K => Q0j.c k x.1 K) Tryz.func113 (by kernel_rfl) (by kernel_rfl) Q1.nil (Q0j.body k) (by kernel_rfl) (by kernel_rfl) (by kernel_rfl)
abbrev QF.τ : Type := (ByteArray × Qdm × Unit)
def QF.c (k : Nat) {ρ : Type} (n : Int) (b0 : Qdm) (K : QF.τ → Option ρ) : Option ρ :=
 (Q0e k (b0.1, (b0.2.1, (b0.2.2.1, ())))).bind fun t0 => bif (t0.1 != (0 : Int)) then (K ((⟨(List.toArray [])⟩ : ByteArray), ((t0.2.1.1, (t0.2.1.2.1, (t0.2.1.2.2.1, ()))), ()))) else (bif (decide (n < (0 : Int))) then (K ((⟨(List.toArray [])⟩ : ByteArray), ((t0.2.1.1, (t0.2.1.2.1, ((1 : Int), ()))), ()))) else ((Q0j k (t0.2.1.1, (t0.2.1.2.1, (t0.2.1.2.2.1, ())))).bind fun t1 => bif (decide (n > t1.1)) then (K ((⟨(List.toArray [])⟩ : ByteArray), ((t1.2.1.1, (t1.2.1.2.1, ((4 : Int), ()))), ()))) else (let v2 : Int := t1.2.1.2.1
 let v3 : Int := (IntKind.wrap IntKind.i64 (v2 + n))
 let v4 : ByteArray := t1.2.1.1
 let v5 : Int := (IntKind.wrap IntKind.i64 (v3 - n))
 bif (decide (((0 : Int) ≤ v5) ∧ ((v5 ≤ v3) ∧ (v3 ≤ (((ByteArray.size v4) : Nat) : Int))))) then (K ((ByteArray.extract v4 (Int.toNat v5) (Int.toNat v3)), ((t1.2.1.1, (v3, (t1.2.1.2.2.1, ()))), ()))) else (none))))
def QF (k : Nat) (n : Int) (b0 : Qdm) : Option QF.τ := QF.c k n b0 some
def QF.T : Q1g := ⟨[.ptr 0 [], .dat (.int .i64)], [.dat Qdj], 1⟩
def QF.os : List Out := [⟨.ret, [.freeze (.slot 0), .auto 1], ⟨[.dat .str], [.dat Qdj]⟩⟩]
def QF.sem (k : Nat) : Qr := Q1j QF.T QF.os fun x => QF k x.1 x.2.1
noncomputable def QF.ctx (k : Nat) : Ctx := ⟨Tryz.prog, gam [(85, (Q0e.sem k)), (113, (Q0j.sem k))]⟩
theorem QF.gok (k : Nat) : ∀ f, Qm Tryz.prog f ((QF.ctx k).Γ f) := (Q8 (Q0e.sem_ok k) (Q8 (Q0j.sem_ok k) QK))
def QF.ann (k : Nat) : Ann := .nil
theorem QF.body (k : Nat) : Q1n (QF.ctx k) Tryz.f87 (Func.code Tryz.f87) (QF.ann k) QF.T QF.os (fun x K => QF.c k x.1 x.2.1 K) := by
 intro ρ x K; kernel_rfl
theorem QF.sem_ok (k : Nat) : Qm Tryz.prog 87 (QF.sem k) :=
 Q0U (C := QF.ctx k) (QF.gok k) Tryz.mix (c := Func.code Tryz.f87) (ann := QF.ann k) (T := QF.T) (os := QF.os) (fun x K => QF.c k x.1 x.2.1 K) Tryz.func87 (by kernel_rfl) (by kernel_rfl) Q1.nil (QF.body k) (by kernel_rfl) (by kernel_rfl) (by kernel_rfl)
abbrev Q0l.l0.σ : Type := ByteArray × Int × Int × Int × Unit
abbrev Q0l.l0.τ : Type := (Int × Unit)
def Q0l.l0.r (k : Nat) {ρ : Type} (x : Q0l.l0.σ) (kn : Q0l.l0.σ → Option ρ) (ke : Q0l.l0.τ → Option ρ) : Option ρ :=
 bif (decide (x.2.2.2.1 < x.2.2.1)) then (bif (decide (((0 : Int) ≤ x.2.2.2.1) ∧ (x.2.2.2.1 < (((ByteArray.size x.1) : Nat) : Int)))) then (let v0 : Int := (Q1r x.1 (Int.toNat x.2.2.2.1))
 let v1 : Int := (IntKind.wrap IntKind.i64 ((8 : Int) * x.2.2.2.1))
 bif (decide ((0 : Int) ≤ v1)) then (let v2 : Int := (Q1d BinOp.or IntKind.u64 x.2.1 (Q30 IntKind.u64 (IntKind.wrap IntKind.u64 v0) v1))
 let v3 : Int := (IntKind.wrap IntKind.i64 (x.2.2.2.1 + (1 : Int)))
 kn (x.1, (v2, (x.2.2.1, (v3, ()))))) else (none)) else (none)) else (ke (x.2.1, ()))
def Q0l.l0 (k : Nat) : Nat → Q0l.l0.σ → Option Q0l.l0.τ := Q1c (Q0l.l0.r k)
def Q0l.l0.T : StT := ⟨.dat .str :: us 2 ++ .dat (.int .u64) :: us 2 ++ .dat (.int .i64) :: .dat (.int .i64) :: us 13, []⟩
def Q0l.l0.os : List Out := [⟨(.exit 0), [.mask [3], .auto 0], ⟨us 3 ++ .dat (.int .u64) :: us 17, []⟩⟩]
def Q0l.c (k : Nat) {ρ : Type} (s : ByteArray) (K : Int × Unit → Option ρ) : Option ρ :=
 (Q0l.l0 k k (s, ((0 : Int), ((((ByteArray.size s) : Nat) : Int), ((0 : Int), ()))))).bind fun t4 => K (t4.1, ())
def Q0l (k : Nat) (s : ByteArray) : Option (Int × Unit) := Q0l.c k s some
def Q0l.tin : List Ty := [.str]
def Q0l.tout : List Ty := [(.int .u64)]
def Q0l.sem (k : Nat) : Qr := QX Q0l.tin Q0l.tout fun x => Q0l k x.1
noncomputable def Q0l.ctx (k : Nat) : Ctx := ⟨Tryz.prog, gam []⟩
theorem Q0l.gok (k : Nat) : ∀ f, Qm Tryz.prog f ((Q0l.ctx k).Γ f) := QK
theorem Q0l.l0.round (k : Nat) : Q1b (Q0l.ctx k) (Q0y (Func.code Tryz.f86) [1, 1, 0, 1, 0, 0]) (.nil) Q0l.l0.T [.mask [0, 3, 6, 7], .auto 0] Q0l.l0.os (Q0l.l0.r k) := by
 intro ρ x kn ke; kernel_rfl
theorem Q0l.l0.ok (k : Nat) : StOK 0 Tryz.prog (.loop (Q0y (Func.code Tryz.f86) [1, 1, 0, 1, 0, 0])) (QO Q0l.l0.T Q0l.l0.os (Q0l.l0 k k)) :=
 Q1e (C := Q0l.ctx k) (Q0l.gok k) Tryz.mix Q1.nil (by kernel_rfl) (by kernel_rfl) (by kernel_rfl) (Q0l.l0.round k) k
def Q0l.ann (k : Nat) : Ann := .node [] none (.nil) (.node [] none (.nil) (.node [] none (.node [] none (.nil) (.node [] none (.node [] (some (QO Q0l.l0.T Q0l.l0.os (Q0l.l0 k k))) .nil .nil) (.nil))) (.nil)))
theorem Q0l.body (k : Nat) : Q0Y (Q0l.ctx k) Tryz.f86 (Func.code Tryz.f86) (Q0l.ann k) Q0l.tin Q0l.tout (fun x K => Q0l.c k x.1 K) := by
 intro ρ x K; kernel_rfl
theorem Q0l.sem_ok (k : Nat) : Qm Tryz.prog 86 (Q0l.sem k) :=
 QD (C := Q0l.ctx k) (Q0l.gok k) Tryz.mix (c := Func.code Tryz.f86) (ann := Q0l.ann k) (tin := Q0l.tin) (tout := Q0l.tout) (fun x K => Q0l.c k x.1 K) Tryz.func86 (by kernel_rfl) (by kernel_rfl) (Q1.seq Q1.nil (Q1.seq Q1.nil (Q1.seq (Q1.seq Q1.nil (Q1.block (Q1.loop (by kernel_rfl) (Q0l.l0.ok k)))) Q1.nil))) (Q0l.body k)
abbrev QE.τ : Type := Qdl 
def QE.c (k : Nat) {ρ : Type} (b0 : Qdm) (K : QE.τ → Option ρ) : Option ρ :=
 (QF k (4 : Int) (b0.1, (b0.2.1, (b0.2.2.1, ())))).bind fun t0 => (Q0l k t0.1).bind fun t1 => let v2 : Int := (IntKind.wrap IntKind.u32 t1.1)
 K (v2, ((t0.2.1.1, (t0.2.1.2.1, (t0.2.1.2.2.1, ()))), ()))
def QE (k : Nat) (b0 : Qdm) : Option QE.τ := QE.c k b0 some
def QE.T : Q1g := ⟨[.ptr 0 []], [.dat Qdj], 1⟩
def QE.os : List Out := [⟨.ret, [.freeze (.slot 0), .auto 1], ⟨[.dat (.int .u32)], [.dat Qdj]⟩⟩]
def QE.sem (k : Nat) : Qr := Q1j QE.T QE.os fun x => QE k x.1
noncomputable def QE.ctx (k : Nat) : Ctx := ⟨Tryz.prog, gam [(87, (QF.sem k)), (86, (Q0l.sem k))]⟩
theorem QE.gok (k : Nat) : ∀ f, Qm Tryz.prog f ((QE.ctx k).Γ f) := (Q8 (QF.sem_ok k) (Q8 (Q0l.sem_ok k) QK))
def QE.ann (k : Nat) : Ann := .nil
theorem QE.body (k : Nat) : Q1n (QE.ctx k) Tryz.f41 (Func.code Tryz.f41) (QE.ann k) QE.T QE.os (fun x K => QE.c k x.1 K) := by
 intro ρ x K; kernel_rfl
theorem QE.sem_ok (k : Nat) : Qm Tryz.prog 41 (QE.sem k) :=
 Q0U (C := QE.ctx k) (QE.gok k) Tryz.mix (c := Func.code Tryz.f41) (ann := QE.ann k) (T := QE.T) (os := QE.os) (fun x K => QE.c k x.1 K) Tryz.func41 (by kernel_rfl) (by kernel_rfl) Q1.nil (QE.body k) (by kernel_rfl) (by kernel_rfl) (by kernel_rfl)
def QE.wsem (k : Nat) : Qr := Qao QE.T QE.os fun x => QE k x.1
theorem QE.wsem_ok (k : Nat) : Qm Tryz.prog 41 (QE.wsem k) := Qcm (QE.sem_ok k)
abbrev Q0k.τ : Type := ((List Int) × Qdm × Unit)
def Q0k.c (k : Nat) {ρ : Type} (b0 : Qdm) (K : Q0k.τ → Option ρ) : Option ρ :=
 (QF k (32 : Int) (b0.1, (b0.2.1, (b0.2.2.1, ())))).bind fun t0 => let v1 : Int := (((Min.min (List.length (Q0z t0.1)) 32) : Nat) : Int)
 let v2 : (List Int) := (Q2j (List.replicate 32 (0 : Int)) 0 (Q0z t0.1) (Min.min (List.length (Q0z t0.1)) 32))
 K (v2, ((t0.2.1.1, (t0.2.1.2.1, (t0.2.1.2.2.1, ()))), ()))
def Q0k (k : Nat) (b0 : Qdm) : Option Q0k.τ := Q0k.c k b0 some
def Q0k.T : Q1g := ⟨[.ptr 0 []], [.dat Qdj], 1⟩
def Q0k.os : List Out := [⟨.ret, [.freeze (.slot 0), .auto 1], ⟨[.dat Qdo], [.dat Qdj]⟩⟩]
def Q0k.sem (k : Nat) : Qr := Q1j Q0k.T Q0k.os fun x => Q0k k x.1
noncomputable def Q0k.ctx (k : Nat) : Ctx := ⟨Tryz.prog, gam [(87, (QF.sem k))]⟩
theorem Q0k.gok (k : Nat) : ∀ f, Qm Tryz.prog f ((Q0k.ctx k).Γ f) := (Q8 (QF.sem_ok k) QK)
def Q0k.ann (k : Nat) : Ann := .nil
theorem Q0k.body (k : Nat) : Q1n (Q0k.ctx k) Tryz.f84 (Func.code Tryz.f84) (Q0k.ann k) Q0k.T Q0k.os (fun x K => Q0k.c k x.1 K) := by
 intro ρ x K; kernel_rfl
theorem Q0k.sem_ok (k : Nat) : Qm Tryz.prog 84 (Q0k.sem k) :=
 Q0U (C := Q0k.ctx k) (Q0k.gok k) Tryz.mix (c := Func.code Tryz.f84) (ann := Q0k.ann k) (T := Q0k.T) (os := Q0k.os) (fun x K => Q0k.c k x.1 K) Tryz.func84 (by kernel_rfl) (by kernel_rfl) Q1.nil (Q0k.body k) (by kernel_rfl) (by kernel_rfl) (by kernel_rfl)
abbrev Qs.p0.σ : Type := ByteArray × Int × Qdi × Unit
abbrev Qs.p0.τ : Type := Qdg ⊕ Qdf 
def Qs.p0.r (k : Nat) {ρ : Type} (x : Qs.p0.σ) (K : Qs.p0.τ → Option ρ) : Option ρ :=
 bif (decide (x.2.1 < (0 : Int))) then (K (.inl ((1 : Int), (((0 : Int), ((List.replicate 32 (0 : Int)), ((List.replicate 32 (0 : Int)), ((0 : Int), ((0 : Int), ((0 : Int), ())))))), ())))) else (let v0 : Int := (((ByteArray.size x.1) : Nat) : Int)
 bif (decide (x.2.1 > v0)) then (K (.inl ((1 : Int), (((0 : Int), ((List.replicate 32 (0 : Int)), ((List.replicate 32 (0 : Int)), ((0 : Int), ((0 : Int), ((0 : Int), ())))))), ())))) else (K (.inr (x.1, (x.2.1, ((x.2.2.1.1, (x.2.2.1.2.1, (x.2.2.1.2.2.1, (x.2.2.1.2.2.2.1, (x.2.2.1.2.2.2.2.1, (x.2.2.1.2.2.2.2.2.1, ())))))), ()))))))
def Qs.p0 (k : Nat) (x : Qs.p0.σ) : Option Qs.p0.τ := Qs.p0.r k x some
def Qs.p0.T : StT := ⟨.dat .str :: .dat (.int .i64) :: us 2 ++ .ptr 0 [] :: us 41, [.dat Qdc]⟩
def Qs.p0.os : List Out := [⟨.ret, [.mask [4, 5], .auto 0], ⟨us 4 ++ .ptr 0 [] :: .dat (.int .i64) :: us 40, [.dat Qdc]⟩⟩, ⟨.normal, [.mask [0, 1, 4], .auto 0], ⟨.dat .str :: .dat (.int .i64) :: us 2 ++ .ptr 0 [] :: us 41, [.dat Qdc]⟩⟩]
def Qs.c (k : Nat) {ρ : Type} (s : ByteArray) (at_1 : Int) (K : Qdi × Int × Unit → Option ρ) : Option ρ :=
  (Qs.p0 k (s, (at_1, (((0 : Int), ((List.replicate 32 (0 : Int)), ((List.replicate 32 (0 : Int)), ((0 : Int), ((0 : Int), ((0 : Int), ())))))), ())))).bind fun t1 => (match t1 with
 | .inl t2 => (K ((t2.2.1.1, (t2.2.1.2.1, (t2.2.1.2.2.1, (t2.2.1.2.2.2.1, (t2.2.1.2.2.2.2.1, (t2.2.1.2.2.2.2.2.1, ())))))), (t2.1, ())))
 | .inr (t3) => (bif (decide (((0 : Int) ≤ t3.2.1) ∧ ((t3.2.1 ≤ (((ByteArray.size t3.1) : Nat) : Int)) ∧ ((((ByteArray.size t3.1) : Nat) : Int) ≤ (((ByteArray.size t3.1) : Nat) : Int))))) then (let v4 : ByteArray := (ByteArray.extract t3.1 (Int.toNat t3.2.1) (Int.toNat (((ByteArray.size t3.1) : Nat) : Int)))
  (Q0w k v4).bind fun t5 => (QE k (t5.1.1, (t5.1.2.1, (t5.1.2.2.1, ())))).bind fun t6 => (Q0k k (t6.2.1.1, (t6.2.1.2.1, (t6.2.1.2.2.1, ())))).bind fun t7 => (Q0k k (t7.2.1.1, (t7.2.1.2.1, (t7.2.1.2.2.1, ())))).bind fun t8 => (QE k (t8.2.1.1, (t8.2.1.2.1, (t8.2.1.2.2.1, ())))).bind fun t9 => (QE k (t9.2.1.1, (t9.2.1.2.1, (t9.2.1.2.2.1, ())))).bind fun t10 => (QE k (t10.2.1.1, (t10.2.1.2.1, (t10.2.1.2.2.1, ())))).bind fun t11 => (Q0e k (t11.2.1.1, (t11.2.1.2.1, (t11.2.1.2.2.1, ())))).bind fun t12 => bif (t12.1 != (0 : Int)) then ((Q0e k (t12.2.1.1, (t12.2.1.2.1, (t12.2.1.2.2.1, ())))).bind fun t13 => K (((0 : Int), ((List.replicate 32 (0 : Int)), ((List.replicate 32 (0 : Int)), ((0 : Int), ((0 : Int), ((0 : Int), ())))))), (t13.1, ()))) else (K ((t6.1, (t7.1, (t8.1, (t9.1, (t10.1, (t11.1, ())))))), ((0 : Int), ())))) else (none)))
def Qs (k : Nat) (s : ByteArray) (at_1 : Int) : Option Qdh := Qs.c k s at_1 some
def Qs.tin : List Ty := [.str, (.int .i64)]
def Qs.tout : List Ty := [Qdc, (.int .i64)]
def Qs.sem (k : Nat) : Qr := QX Qs.tin Qs.tout fun x => Qs k x.1 x.2.1
noncomputable def Qs.ctx (k : Nat) : Ctx := ⟨Tryz.prog, gam [(40, (Q0w.sem k)), (41, (QE.wsem k)), (84, (Q0k.sem k)), (85, (Q0e.sem k))]⟩
theorem Qs.gok (k : Nat) : ∀ f, Qm Tryz.prog f ((Qs.ctx k).Γ f) := (Q8 (Q0w.sem_ok k) (Q8 (QE.wsem_ok k) (Q8 (Q0k.sem_ok k) (Q8 (Q0e.sem_ok k) QK))))
theorem Qs.p0.is (k : Nat) : Q2G (Qs.ctx k) (Q0y (Func.code Tryz.f39) [1, 0]) (.nil) Qs.p0.T Qs.p0.os (Qs.p0.r k) := by
 intro ρ x K; kernel_rfl
theorem Qs.p0.ok (k : Nat) : StOK 0 Tryz.prog (Q0y (Func.code Tryz.f39) [1, 0]) (QO Qs.p0.T Qs.p0.os (Qs.p0 k)) :=
 Q2w (C := Qs.ctx k) (T := Qs.p0.T) (os := Qs.p0.os) (Qs.gok k) Tryz.mix (fun x K => Qs.p0.r k x K) Q1.nil (by kernel_rfl) (by kernel_rfl) (Qs.p0.is k)
def Qs.ann (k : Nat) : Ann := .node [] none (.nil) (.node [] none (.node [.mask [0, 1, 4], .auto 0] (some (QO Qs.p0.T Qs.p0.os (Qs.p0 k))) .nil .nil) (.nil))
theorem Qs.body (k : Nat) : Q0Y (Qs.ctx k) Tryz.f39 (Func.code Tryz.f39) (Qs.ann k) Qs.tin Qs.tout (fun x K => Qs.c k x.1 x.2.1 K) := by
 intro ρ x K; kernel_rfl
theorem Qs.sem_ok (k : Nat) : Qm Tryz.prog 39 (Qs.sem k) :=
 QD (C := Qs.ctx k) (Qs.gok k) Tryz.mix (c := Func.code Tryz.f39) (ann := Qs.ann k) (tin := Qs.tin) (tout := Qs.tout) (fun x K => Qs.c k x.1 x.2.1 K) Tryz.func39 (by kernel_rfl) (by kernel_rfl) (Q1.seq Q1.nil (Q1.seq (Q1.loop (by kernel_rfl) (Qs.p0.ok k)) Q1.nil)) (Qs.body k)
abbrev QS.τ : Type := Qdl 
def QS.c (k : Nat) {ρ : Type} (b0 : Qdm) (K : QS.τ → Option ρ) : Option ρ :=
 (QF k (1 : Int) (b0.1, (b0.2.1, (b0.2.2.1, ())))).bind fun t0 => (Q0l k t0.1).bind fun t1 => let v2 : Int := (IntKind.wrap IntKind.u8 t1.1)
 K (v2, ((t0.2.1.1, (t0.2.1.2.1, (t0.2.1.2.2.1, ()))), ()))
def QS (k : Nat) (b0 : Qdm) : Option QS.τ := QS.c k b0 some
def QS.T : Q1g := ⟨[.ptr 0 []], [.dat Qdj], 1⟩
def QS.os : List Out := [⟨.ret, [.freeze (.slot 0), .auto 1], ⟨[.dat (.int .u8)], [.dat Qdj]⟩⟩]
def QS.sem (k : Nat) : Qr := Q1j QS.T QS.os fun x => QS k x.1
noncomputable def QS.ctx (k : Nat) : Ctx := ⟨Tryz.prog, gam [(87, (QF.sem k)), (86, (Q0l.sem k))]⟩
theorem QS.gok (k : Nat) : ∀ f, Qm Tryz.prog f ((QS.ctx k).Γ f) := (Q8 (QF.sem_ok k) (Q8 (Q0l.sem_ok k) QK))
def QS.ann (k : Nat) : Ann := .nil
theorem QS.body (k : Nat) : Q1n (QS.ctx k) Tryz.f42 (Func.code Tryz.f42) (QS.ann k) QS.T QS.os (fun x K => QS.c k x.1 K) := by
 intro ρ x K; kernel_rfl
theorem QS.sem_ok (k : Nat) : Qm Tryz.prog 42 (QS.sem k) :=
 Q0U (C := QS.ctx k) (QS.gok k) Tryz.mix (c := Func.code Tryz.f42) (ann := QS.ann k) (T := QS.T) (os := QS.os) (fun x K => QS.c k x.1 K) Tryz.func42 (by kernel_rfl) (by kernel_rfl) Q1.nil (QS.body k) (by kernel_rfl) (by kernel_rfl) (by kernel_rfl)
def QS.wsem (k : Nat) : Qr := Qao QS.T QS.os fun x => QS k x.1
theorem QS.wsem_ok (k : Nat) : Qm Tryz.prog 42 (QS.wsem k) := Qcm (QS.sem_ok k)
def Q0W.c (k : Nat) {ρ : Type} (s : ByteArray) (K : Qde × Int × Unit → Option ρ) : Option ρ :=
 bif (decide ((((ByteArray.size s) : Nat) : Int) < (97 : Int))) then (K ((((0 : Int), ((List.replicate 32 (0 : Int)), ((List.replicate 32 (0 : Int)), ((0 : Int), ((0 : Int), ((0 : Int), ())))))), ((0 : Int), ((0 : Int), ((0 : Int), ((0 : Int), ((0 : Int), ())))))), ((4 : Int), ()))) else (bif (decide ((((ByteArray.size s) : Nat) : Int) > (97 : Int))) then (K ((((0 : Int), ((List.replicate 32 (0 : Int)), ((List.replicate 32 (0 : Int)), ((0 : Int), ((0 : Int), ((0 : Int), ())))))), ((0 : Int), ((0 : Int), ((0 : Int), ((0 : Int), ((0 : Int), ())))))), ((5 : Int), ()))) else ((Qs k s (0 : Int)).bind fun t0 => let v1 : Int := t0.2.1
 bif (decide (((0 : Int) ≤ (80 : Int)) ∧ (((80 : Int) ≤ (((ByteArray.size s) : Nat) : Int)) ∧ ((((ByteArray.size s) : Nat) : Int) ≤ (((ByteArray.size s) : Nat) : Int))))) then (let v2 : ByteArray := (ByteArray.extract s 80 (Int.toNat (((ByteArray.size s) : Nat) : Int)))
 (Q0w k v2).bind fun t3 => (QE k (t3.1.1, (t3.1.2.1, (t3.1.2.2.1, ())))).bind fun t4 => let v5 : Int := (IntKind.wrap IntKind.i64 t4.1)
 (QS k (t4.2.1.1, (t4.2.1.2.1, (t4.2.1.2.2.1, ())))).bind fun t6 => let v7 : Int := (IntKind.wrap IntKind.i64 t6.1)
 (QE k (t6.2.1.1, (t6.2.1.2.1, (t6.2.1.2.2.1, ())))).bind fun t8 => let v9 : Int := (IntKind.wrap IntKind.i64 t8.1)
 (QE k (t8.2.1.1, (t8.2.1.2.1, (t8.2.1.2.2.1, ())))).bind fun t10 => let v11 : Int := (IntKind.wrap IntKind.i64 t10.1)
 (QE k (t10.2.1.1, (t10.2.1.2.1, (t10.2.1.2.2.1, ())))).bind fun t12 => let v13 : Int := (IntKind.wrap IntKind.i64 t12.1)
 (Q0M k ((t0.1.1, (t0.1.2.1, (t0.1.2.2.1, (t0.1.2.2.2.1, (t0.1.2.2.2.2.1, (t0.1.2.2.2.2.2.1, ())))))), (v5, (v7, (v9, (v11, (v13, ()))))))).bind fun t14 => bif (!t14.1) then (K ((((0 : Int), ((List.replicate 32 (0 : Int)), ((List.replicate 32 (0 : Int)), ((0 : Int), ((0 : Int), ((0 : Int), ())))))), ((0 : Int), ((0 : Int), ((0 : Int), ((0 : Int), ((0 : Int), ())))))), ((130 : Int), ()))) else (K (((t0.1.1, (t0.1.2.1, (t0.1.2.2.1, (t0.1.2.2.2.1, (t0.1.2.2.2.2.1, (t0.1.2.2.2.2.2.1, ())))))), (v5, (v7, (v9, (v11, (v13, ())))))), ((0 : Int), ())))) else (none)))
def Q0W (k : Nat) (s : ByteArray) : Option Qdd := Q0W.c k s some
def Q0W.tin : List Ty := [.str]
def Q0W.tout : List Ty := [Qdb, (.int .i64)]
def Q0W.sem (k : Nat) : Qr := QX Q0W.tin Q0W.tout fun x => Q0W k x.1
noncomputable def Q0W.ctx (k : Nat) : Ctx := ⟨Tryz.prog, gam [(39, (Qs.sem k)), (40, (Q0w.sem k)), (41, (QE.wsem k)), (42, (QS.wsem k)), (32, (Q0M.sem k))]⟩
theorem Q0W.gok (k : Nat) : ∀ f, Qm Tryz.prog f ((Q0W.ctx k).Γ f) := (Q8 (Qs.sem_ok k) (Q8 (Q0w.sem_ok k) (Q8 (QE.wsem_ok k) (Q8 (QS.wsem_ok k) (Q8 (Q0M.sem_ok k) QK)))))
def Q0W.ann (k : Nat) : Ann := .nil
theorem Q0W.body (k : Nat) : Q0Y (Q0W.ctx k) Tryz.f8 (Func.code Tryz.f8) (Q0W.ann k) Q0W.tin Q0W.tout (fun x K => Q0W.c k x.1 K) := by
 intro ρ x K; kernel_rfl
theorem Q0W.sem_ok (k : Nat) : Qm Tryz.prog 8 (Q0W.sem k) :=
 QD (C := Q0W.ctx k) (Q0W.gok k) Tryz.mix (c := Func.code Tryz.f8) (ann := Q0W.ann k) (tin := Q0W.tin) (tout := Q0W.tout) (fun x K => Q0W.c k x.1 K) Tryz.func8 (by kernel_rfl) (by kernel_rfl) Q1.nil (Q0W.body k)
end Go.Am
namespace Go.Am
open Go Go.Proofs
set_option maxRecDepth 100000
abbrev Q9.l0.σ : Type := ByteArray × Int × Int × Unit
abbrev Q9.l0.τ : Type := (Int × Unit)
def Q9.l0.r (k : Nat) {ρ : Type} (x : Q9.l0.σ) (kn : Q9.l0.σ → Option ρ) (ke : Q9.l0.τ → Option ρ) : Option ρ :=
 bif (decide (x.2.2.1 ≥ (0 : Int))) then (let v1 : Int := (IntKind.wrap IntKind.u64 (x.2.1 * (256 : Int)))
 bif (decide (((0 : Int) ≤ x.2.2.1) ∧ (x.2.2.1 < (((ByteArray.size x.1) : Nat) : Int)))) then (let v2 : Int := (Q1r x.1 (Int.toNat x.2.2.1))
 let v3 : Int := (IntKind.wrap IntKind.u64 (v1 + (IntKind.wrap IntKind.u64 v2)))
 let v4 : Int := (IntKind.wrap IntKind.i64 (x.2.2.1 - (1 : Int)))
 kn (x.1, (v3, (v4, ())))) else (none)) else (ke (x.2.1, ()))
def Q9.l0 (k : Nat) : Nat → Q9.l0.σ → Option Q9.l0.τ := Q1c (Q9.l0.r k)
def Q9.l0.T : StT := ⟨.dat .str :: us 2 ++ .dat (.int .u64) :: .dat (.int .i64) :: us 15, []⟩
def Q9.l0.os : List Out := [⟨(.exit 0), [.mask [3], .auto 0], ⟨us 3 ++ .dat (.int .u64) :: us 16, []⟩⟩]
def Q9.c (k : Nat) {ρ : Type} (s : ByteArray) (K : Int × Unit → Option ρ) : Option ρ :=
 let v0 : Int := (IntKind.wrap IntKind.i64 ((((ByteArray.size s) : Nat) : Int) - (1 : Int)))
 (Q9.l0 k k (s, ((0 : Int), (v0, ())))).bind fun t5 => K (t5.1, ())
def Q9 (k : Nat) (s : ByteArray) : Option (Int × Unit) := Q9.c k s some
def Q9.tin : List Ty := [.str]
def Q9.tout : List Ty := [(.int .u64)]
def Q9.sem (k : Nat) : Qr := QX Q9.tin Q9.tout fun x => Q9 k x.1
noncomputable def Q9.ctx (k : Nat) : Ctx := ⟨Tryz.prog, gam []⟩
theorem Q9.gok (k : Nat) : ∀ f, Qm Tryz.prog f ((Q9.ctx k).Γ f) := QK
theorem Q9.l0.round (k : Nat) : Q1b (Q9.ctx k) (Q0y (Func.code Tryz.f44) [1, 1, 0, 1, 0, 0]) (.nil) Q9.l0.T [.mask [0, 3, 4], .auto 0] Q9.l0.os (Q9.l0.r k) := by
 intro ρ x kn ke; kernel_rfl
theorem Q9.l0.ok (k : Nat) : StOK 0 Tryz.prog (.loop (Q0y (Func.code Tryz.f44) [1, 1, 0, 1, 0, 0])) (QO Q9.l0.T Q9.l0.os (Q9.l0 k k)) :=
 Q1e (C := Q9.ctx k) (Q9.gok k) Tryz.mix Q1.nil (by kernel_rfl) (by kernel_rfl) (by kernel_rfl) (Q9.l0.round k) k
def Q9.ann (k : Nat) : Ann := .node [] none (.nil) (.node [] none (.nil) (.node [] none (.node [] none (.nil) (.node [] none (.node [] (some (QO Q9.l0.T Q9.l0.os (Q9.l0 k k))) .nil .nil) (.nil))) (.nil)))
theorem Q9.body (k : Nat) : Q0Y (Q9.ctx k) Tryz.f44 (Func.code Tryz.f44) (Q9.ann k) Q9.tin Q9.tout (fun x K => Q9.c k x.1 K) := by
 intro ρ x K; kernel_rfl
theorem Q9.sem_ok (k : Nat) : Qm Tryz.prog 44 (Q9.sem k) :=
 QD (C := Q9.ctx k) (Q9.gok k) Tryz.mix (c := Func.code Tryz.f44) (ann := Q9.ann k) (tin := Q9.tin) (tout := Q9.tout) (fun x K => Q9.c k x.1 K) Tryz.func44 (by kernel_rfl) (by kernel_rfl) (Q1.seq Q1.nil (Q1.seq Q1.nil (Q1.seq (Q1.seq Q1.nil (Q1.block (Q1.loop (by kernel_rfl) (Q9.l0.ok k)))) Q1.nil))) (Q9.body k)
abbrev Qh.l0.σ : Type := ByteArray × Int × (List Int) × (List Int) × Unit
abbrev Qh.l0.τ : Type := ((List Int) × (List Int) × Unit)
def Qh.l0.r (k : Nat) {ρ : Type} (x : Qh.l0.σ) (kn : Qh.l0.σ → Option ρ) (ke : Qh.l0.τ → Option ρ) : Option ρ :=
 bif (decide (x.2.1 < (32 : Int))) then (bif (decide (((0 : Int) ≤ x.2.1) ∧ (x.2.1 < (((ByteArray.size x.1) : Nat) : Int)))) then (let v1 : Int := (Q1r x.1 (Int.toNat x.2.1))
 bif (decide (((0 : Int) ≤ x.2.1) ∧ (x.2.1 < ((32 : Nat) : Int)))) then (let v2 : Int := (IntKind.wrap IntKind.i64 (x.2.1 + (1 : Int)))
 kn (x.1, (v2, (x.2.2.1, ((List.set x.2.2.2.1 (Int.toNat x.2.1) v1), ()))))) else (none)) else (none)) else (ke (x.2.2.1, (x.2.2.2.1, ())))
def Qh.l0 (k : Nat) : Nat → Qh.l0.σ → Option Qh.l0.τ := Q1c (Qh.l0.r k)
def Qh.l0.T : StT := ⟨.dat .str :: us 1 ++ .ptr 0 [] :: .ptr 1 [] :: .dat (.int .i64) :: us 11, [.dat Qdo, .dat Qdo]⟩
def Qh.l0.os : List Out := [⟨(.exit 0), [.mask [2, 3], .auto 0], ⟨us 2 ++ .ptr 0 [] :: .ptr 1 [] :: us 12, [.dat Qdo, .dat Qdo]⟩⟩]
def Qh.c (k : Nat) {ρ : Type} (s : ByteArray) (K : (List Int) × Unit → Option ρ) : Option ρ :=
 let v0 : (List Int) := (List.replicate 32 (0 : Int))
 (Qh.l0 k k (s, ((0 : Int), ((List.replicate 32 (0 : Int)), (v0, ()))))).bind fun t3 => let v4 : (List Int) := t3.2.1
 K (v4, ())
def Qh (k : Nat) (s : ByteArray) : Option ((List Int) × Unit) := Qh.c k s some
def Qh.tin : List Ty := [.str]
def Qh.tout : List Ty := [Qdo]
def Qh.sem (k : Nat) : Qr := QX Qh.tin Qh.tout fun x => Qh k x.1
noncomputable def Qh.ctx (k : Nat) : Ctx := ⟨Tryz.prog, gam []⟩
theorem Qh.gok (k : Nat) : ∀ f, Qm Tryz.prog f ((Qh.ctx k).Γ f) := QK
theorem Qh.l0.round (k : Nat) : Q1b (Qh.ctx k) (Q0y (Func.code Tryz.f88) [1, 1, 0, 1, 0, 0]) (.nil) Qh.l0.T [.mask [0, 2, 3, 4], .auto 0] Qh.l0.os (Qh.l0.r k) := by
 intro ρ x kn ke; kernel_rfl
theorem Qh.l0.ok (k : Nat) : StOK 0 Tryz.prog (.loop (Q0y (Func.code Tryz.f88) [1, 1, 0, 1, 0, 0])) (QO Qh.l0.T Qh.l0.os (Qh.l0 k k)) :=
 Q1e (C := Qh.ctx k) (Qh.gok k) Tryz.mix Q1.nil (by kernel_rfl) (by kernel_rfl) (by kernel_rfl) (Qh.l0.round k) k
def Qh.ann (k : Nat) : Ann := .node [] none (.nil) (.node [] none (.nil) (.node [] none (.node [] none (.nil) (.node [] none (.node [.mask [0, 2, 3, 4], .auto 0] (some (QO Qh.l0.T Qh.l0.os (Qh.l0 k k))) .nil .nil) (.nil))) (.nil)))
theorem Qh.body (k : Nat) : Q0Y (Qh.ctx k) Tryz.f88 (Func.code Tryz.f88) (Qh.ann k) Qh.tin Qh.tout (fun x K => Qh.c k x.1 K) := by
 intro ρ x K; kernel_rfl
theorem Qh.sem_ok (k : Nat) : Qm Tryz.prog 88 (Qh.sem k) :=
 QD (C := Qh.ctx k) (Qh.gok k) Tryz.mix (c := Func.code Tryz.f88) (ann := Qh.ann k) (tin := Qh.tin) (tout := Qh.tout) (fun x K => Qh.c k x.1 K) Tryz.func88 (by kernel_rfl) (by kernel_rfl) (Q1.seq Q1.nil (Q1.seq Q1.nil (Q1.seq (Q1.seq Q1.nil (Q1.block (Q1.loop (by kernel_rfl) (Qh.l0.ok k)))) Q1.nil))) (Qh.body k)
abbrev Q7.p0.σ : Type := ByteArray × Int × Qdi × Unit
abbrev Q7.p0.τ : Type := Qdg ⊕ Qdf 
def Q7.p0.r (k : Nat) {ρ : Type} (x : Q7.p0.σ) (K : Q7.p0.τ → Option ρ) : Option ρ :=
 bif (decide (x.2.1 < (0 : Int))) then (K (.inl ((1 : Int), (((0 : Int), ((List.replicate 32 (0 : Int)), ((List.replicate 32 (0 : Int)), ((0 : Int), ((0 : Int), ((0 : Int), ())))))), ())))) else (let v0 : Int := (((ByteArray.size x.1) : Nat) : Int)
 bif (decide (x.2.1 > v0)) then (K (.inl ((1 : Int), (((0 : Int), ((List.replicate 32 (0 : Int)), ((List.replicate 32 (0 : Int)), ((0 : Int), ((0 : Int), ((0 : Int), ())))))), ())))) else (K (.inr (x.1, (x.2.1, ((x.2.2.1.1, (x.2.2.1.2.1, (x.2.2.1.2.2.1, (x.2.2.1.2.2.2.1, (x.2.2.1.2.2.2.2.1, (x.2.2.1.2.2.2.2.2.1, ())))))), ()))))))
def Q7.p0 (k : Nat) (x : Q7.p0.σ) : Option Q7.p0.τ := Q7.p0.r k x some
def Q7.p0.T : StT := ⟨.dat .str :: .dat (.int .i64) :: us 2 ++ .ptr 0 [] :: us 42, [.dat Qdc]⟩
def Q7.p0.os : List Out := [⟨.ret, [.mask [4, 5], .auto 0], ⟨us 4 ++ .ptr 0 [] :: .dat (.int .i64) :: us 41, [.dat Qdc]⟩⟩, ⟨.normal, [.mask [0, 1, 4], .auto 0], ⟨.dat .str :: .dat (.int .i64) :: us 2 ++ .ptr 0 [] :: us 42, [.dat Qdc]⟩⟩]
def Q7.c (k : Nat) {ρ : Type} (s : ByteArray) (at_1 : Int) (K : Qdi × Int × Unit → Option ρ) : Option ρ :=
  (Q7.p0 k (s, (at_1, (((0 : Int), ((List.replicate 32 (0 : Int)), ((List.replicate 32 (0 : Int)), ((0 : Int), ((0 : Int), ((0 : Int), ())))))), ())))).bind fun t1 => (match t1 with
 | .inl t2 => (K ((t2.2.1.1, (t2.2.1.2.1, (t2.2.1.2.2.1, (t2.2.1.2.2.2.1, (t2.2.1.2.2.2.2.1, (t2.2.1.2.2.2.2.2.1, ())))))), (t2.1, ())))
 | .inr (t3) => (let v4 : Int := (((ByteArray.size t3.1) : Nat) : Int)
  let v5 : Int := (IntKind.wrap IntKind.i64 (v4 - t3.2.1))
  bif (decide (v5 < (80 : Int))) then (K (((0 : Int), ((List.replicate 32 (0 : Int)), ((List.replicate 32 (0 : Int)), ((0 : Int), ((0 : Int), ((0 : Int), ())))))), ((4 : Int), ()))) else (bif (decide (((0 : Int) ≤ t3.2.1) ∧ ((t3.2.1 ≤ (((ByteArray.size t3.1) : Nat) : Int)) ∧ ((((ByteArray.size t3.1) : Nat) : Int) ≤ (((ByteArray.size t3.1) : Nat) : Int))))) then (let v6 : ByteArray := (ByteArray.extract t3.1 (Int.toNat t3.2.1) (Int.toNat (((ByteArray.size t3.1) : Nat) : Int)))
  bif (decide (((0 : Int) ≤ (0 : Int)) ∧ (((0 : Int) ≤ (4 : Int)) ∧ ((4 : Int) ≤ (((ByteArray.size v6) : Nat) : Int))))) then ((Q9 k (ByteArray.extract v6 0 4)).bind fun t7 => let v8 : Int := (IntKind.wrap IntKind.u32 t7.1)
  bif (decide (((0 : Int) ≤ (4 : Int)) ∧ (((4 : Int) ≤ (36 : Int)) ∧ ((36 : Int) ≤ (((ByteArray.size v6) : Nat) : Int))))) then ((Qh k (ByteArray.extract v6 4 36)).bind fun t9 => bif (decide (((0 : Int) ≤ (36 : Int)) ∧ (((36 : Int) ≤ (68 : Int)) ∧ ((68 : Int) ≤ (((ByteArray.size v6) : Nat) : Int))))) then ((Qh k (ByteArray.extract v6 36 68)).bind fun t10 => bif (decide (((0 : Int) ≤ (68 : Int)) ∧ (((68 : Int) ≤ (72 : Int)) ∧ ((72 : Int) ≤ (((ByteArray.size v6) : Nat) : Int))))) then ((Q9 k (ByteArray.extract v6 68 72)).bind fun t11 => let v12 : Int := (IntKind.wrap IntKind.u32 t11.1)
  bif (decide (((0 : Int) ≤ (72 : Int)) ∧ (((72 : Int) ≤ (76 : Int)) ∧ ((76 : Int) ≤ (((ByteArray.size v6) : Nat) : Int))))) then ((Q9 k (ByteArray.extract v6 72 76)).bind fun t13 => let v14 : Int := (IntKind.wrap IntKind.u32 t13.1)
  bif (decide (((0 : Int) ≤ (76 : Int)) ∧ (((76 : Int) ≤ (80 : Int)) ∧ ((80 : Int) ≤ (((ByteArray.size v6) : Nat) : Int))))) then ((Q9 k (ByteArray.extract v6 76 80)).bind fun t15 => let v16 : Int := (IntKind.wrap IntKind.u32 t15.1)
  K ((v8, (t9.1, (t10.1, (v12, (v14, (v16, ())))))), ((0 : Int), ()))) else (none)) else (none)) else (none)) else (none)) else (none)) else (none)) else (none))))
def Q7 (k : Nat) (s : ByteArray) (at_1 : Int) : Option Qdh := Q7.c k s at_1 some
def Q7.tin : List Ty := [.str, (.int .i64)]
def Q7.tout : List Ty := [Qdc, (.int .i64)]
def Q7.sem (k : Nat) : Qr := QX Q7.tin Q7.tout fun x => Q7 k x.1 x.2.1
noncomputable def Q7.ctx (k : Nat) : Ctx := ⟨Tryz.prog, gam [(44, (Q9.sem k)), (88, (Qh.sem k))]⟩
theorem Q7.gok (k : Nat) : ∀ f, Qm Tryz.prog f ((Q7.ctx k).Γ f) := (Q8 (Q9.sem_ok k) (Q8 (Qh.sem_ok k) QK))
theorem Q7.p0.is (k : Nat) : Q2G (Q7.ctx k) (Q0y (Func.code Tryz.f43) [1, 0]) (.nil) Q7.p0.T Q7.p0.os (Q7.p0.r k) := by
 intro ρ x K; kernel_rfl
theorem Q7.p0.ok (k : Nat) : StOK 0 Tryz.prog (Q0y (Func.code Tryz.f43) [1, 0]) (QO Q7.p0.T Q7.p0.os (Q7.p0 k)) :=
 Q2w (C := Q7.ctx k) (T := Q7.p0.T) (os := Q7.p0.os) (Q7.gok k) Tryz.mix (fun x K => Q7.p0.r k x K) Q1.nil (by kernel_rfl) (by kernel_rfl) (Q7.p0.is k)
def Q7.ann (k : Nat) : Ann := .node [] none (.nil) (.node [] none (.node [.mask [0, 1, 4], .auto 0] (some (QO Q7.p0.T Q7.p0.os (Q7.p0 k))) .nil .nil) (.nil))
theorem Q7.body (k : Nat) : Q0Y (Q7.ctx k) Tryz.f43 (Func.code Tryz.f43) (Q7.ann k) Q7.tin Q7.tout (fun x K => Q7.c k x.1 x.2.1 K) := by
 intro ρ x K; kernel_rfl
theorem Q7.sem_ok (k : Nat) : Qm Tryz.prog 43 (Q7.sem k) :=
 QD (C := Q7.ctx k) (Q7.gok k) Tryz.mix (c := Func.code Tryz.f43) (ann := Q7.ann k) (tin := Q7.tin) (tout := Q7.tout) (fun x K => Q7.c k x.1 x.2.1 K) Tryz.func43 (by kernel_rfl) (by kernel_rfl) (Q1.seq Q1.nil (Q1.seq (Q1.loop (by kernel_rfl) (Q7.p0.ok k)) Q1.nil)) (Q7.body k)
def QZ.c (k : Nat) {ρ : Type} (n : Int) (K : Bool × Unit → Option ρ) : Option ρ :=
 bif (decide (n ≥ (0 : Int))) then (K ((decide (n < (2147483648 : Int))), ())) else (K (false, ()))
def QZ (k : Nat) (n : Int) : Option (Bool × Unit) := QZ.c k n some
def QZ.tin : List Ty := [(.int .i64)]
def QZ.tout : List Ty := [.bool]
def QZ.sem (k : Nat) : Qr := QX QZ.tin QZ.tout fun x => QZ k x.1
noncomputable def QZ.ctx (k : Nat) : Ctx := ⟨Tryz.prog, gam []⟩
theorem QZ.gok (k : Nat) : ∀ f, Qm Tryz.prog f ((QZ.ctx k).Γ f) := QK
def QZ.ann (k : Nat) : Ann := .nil
theorem QZ.body (k : Nat) : Q0Y (QZ.ctx k) Tryz.f47 (Func.code Tryz.f47) (QZ.ann k) QZ.tin QZ.tout (fun x K => QZ.c k x.1 K) := by
 intro ρ x K; kernel_rfl
theorem QZ.sem_ok (k : Nat) : Qm Tryz.prog 47 (QZ.sem k) :=
 QD (C := QZ.ctx k) (QZ.gok k) Tryz.mix (c := Func.code Tryz.f47) (ann := QZ.ann k) (tin := QZ.tin) (tout := QZ.tout) (fun x K => QZ.c k x.1 K) Tryz.func47 (by kernel_rfl) (by kernel_rfl) Q1.nil (QZ.body k)
def Q0c.c (k : Nat) {ρ : Type} (e : Qde) (K : Bool × Unit → Option ρ) : Option ρ :=
 let v0 : Int := e.2.1
 bif (decide (v0 ≥ (0 : Int))) then (let v1 : Int := e.2.1
 bif (decide (v1 ≤ (20000 : Int))) then (let v2 : Int := e.2.2.1
 bif (decide (v2 ≥ (0 : Int))) then (let v3 : Int := e.2.2.1
 bif (decide (v3 ≤ (15 : Int))) then (let v4 : Int := e.2.2.2.1
 (QZ k v4).bind fun t5 => bif t5.1 then (let v6 : Int := e.2.2.2.2.1
 (QZ k v6).bind fun t7 => bif t7.1 then (let v8 : Int := e.2.2.2.2.2.1
 (QZ k v8).bind fun t9 => K (t9.1, ())) else (K (false, ()))) else (K (false, ()))) else (K (false, ()))) else (K (false, ()))) else (K (false, ()))) else (K (false, ()))
def Q0c (k : Nat) (e : Qde) : Option (Bool × Unit) := Q0c.c k e some
def Q0c.tin : List Ty := [Qdb]
def Q0c.tout : List Ty := [.bool]
def Q0c.sem (k : Nat) : Qr := QX Q0c.tin Q0c.tout fun x => Q0c k x.1
noncomputable def Q0c.ctx (k : Nat) : Ctx := ⟨Tryz.prog, gam [(47, (QZ.sem k))]⟩
theorem Q0c.gok (k : Nat) : ∀ f, Qm Tryz.prog f ((Q0c.ctx k).Γ f) := (Q8 (QZ.sem_ok k) QK)
def Q0c.ann (k : Nat) : Ann := .nil
theorem Q0c.body (k : Nat) : Q0Y (Q0c.ctx k) Tryz.f12 (Func.code Tryz.f12) (Q0c.ann k) Q0c.tin Q0c.tout (fun x K => Q0c.c k x.1 K) := by
 intro ρ x K; kernel_rfl
theorem Q0c.sem_ok (k : Nat) : Qm Tryz.prog 12 (Q0c.sem k) :=
 QD (C := Q0c.ctx k) (Q0c.gok k) Tryz.mix (c := Func.code Tryz.f12) (ann := Q0c.ann k) (tin := Q0c.tin) (tout := Q0c.tout) (fun x K => Q0c.c k x.1 K) Tryz.func12 (by kernel_rfl) (by kernel_rfl) Q1.nil (Q0c.body k)
def Q0f.c (k : Nat) {ρ : Type} (s : ByteArray) (K : Qde × Int × Unit → Option ρ) : Option ρ :=
 bif (decide ((((ByteArray.size s) : Nat) : Int) < (97 : Int))) then (K ((((0 : Int), ((List.replicate 32 (0 : Int)), ((List.replicate 32 (0 : Int)), ((0 : Int), ((0 : Int), ((0 : Int), ())))))), ((0 : Int), ((0 : Int), ((0 : Int), ((0 : Int), ((0 : Int), ())))))), ((4 : Int), ()))) else (bif (decide ((((ByteArray.size s) : Nat) : Int) > (97 : Int))) then (K ((((0 : Int), ((List.replicate 32 (0 : Int)), ((List.replicate 32 (0 : Int)), ((0 : Int), ((0 : Int), ((0 : Int), ())))))), ((0 : Int), ((0 : Int), ((0 : Int), ((0 : Int), ((0 : Int), ())))))), ((5 : Int), ()))) else ((Q7 k s (0 : Int)).bind fun t0 => let v1 : Int := t0.2.1
 bif (decide (((0 : Int) ≤ (80 : Int)) ∧ (((80 : Int) ≤ (84 : Int)) ∧ ((84 : Int) ≤ (((ByteArray.size s) : Nat) : Int))))) then ((Q9 k (ByteArray.extract s 80 84)).bind fun t2 => let v3 : Int := (IntKind.wrap IntKind.i64 t2.1)
 bif (decide (((0 : Int) ≤ (84 : Int)) ∧ ((84 : Int) < (((ByteArray.size s) : Nat) : Int)))) then (bif (decide (((0 : Int) ≤ (85 : Int)) ∧ (((85 : Int) ≤ (89 : Int)) ∧ ((89 : Int) ≤ (((ByteArray.size s) : Nat) : Int))))) then ((Q9 k (ByteArray.extract s 85 89)).bind fun t4 => let v5 : Int := (IntKind.wrap IntKind.i64 t4.1)
 bif (decide (((0 : Int) ≤ (89 : Int)) ∧ (((89 : Int) ≤ (93 : Int)) ∧ ((93 : Int) ≤ (((ByteArray.size s) : Nat) : Int))))) then ((Q9 k (ByteArray.extract s 89 93)).bind fun t6 => let v7 : Int := (IntKind.wrap IntKind.i64 t6.1)
 bif (decide (((0 : Int) ≤ (93 : Int)) ∧ (((93 : Int) ≤ (97 : Int)) ∧ ((97 : Int) ≤ (((ByteArray.size s) : Nat) : Int))))) then ((Q9 k (ByteArray.extract s 93 97)).bind fun t8 => let v9 : Int := (IntKind.wrap IntKind.i64 t8.1)
 (Q0c k ((t0.1.1, (t0.1.2.1, (t0.1.2.2.1, (t0.1.2.2.2.1, (t0.1.2.2.2.2.1, (t0.1.2.2.2.2.2.1, ())))))), (v3, ((IntKind.wrap IntKind.i64 (Q1r s 84)), (v5, (v7, (v9, ()))))))).bind fun t10 => bif (!t10.1) then (K ((((0 : Int), ((List.replicate 32 (0 : Int)), ((List.replicate 32 (0 : Int)), ((0 : Int), ((0 : Int), ((0 : Int), ())))))), ((0 : Int), ((0 : Int), ((0 : Int), ((0 : Int), ((0 : Int), ())))))), ((130 : Int), ()))) else (K (((t0.1.1, (t0.1.2.1, (t0.1.2.2.1, (t0.1.2.2.2.1, (t0.1.2.2.2.2.1, (t0.1.2.2.2.2.2.1, ())))))), (v3, ((IntKind.wrap IntKind.i64 (Q1r s 84)), (v5, (v7, (v9, ())))))), ((0 : Int), ())))) else (none)) else (none)) else (none)) else (none)) else (none)))
def Q0f (k : Nat) (s : ByteArray) : Option Qdd := Q0f.c k s some
def Q0f.tin : List Ty := [.str]
def Q0f.tout : List Ty := [Qdb, (.int .i64)]
def Q0f.sem (k : Nat) : Qr := QX Q0f.tin Q0f.tout fun x => Q0f k x.1
noncomputable def Q0f.ctx (k : Nat) : Ctx := ⟨Tryz.prog, gam [(43, (Q7.sem k)), (44, (Q9.sem k)), (12, (Q0c.sem k))]⟩
theorem Q0f.gok (k : Nat) : ∀ f, Qm Tryz.prog f ((Q0f.ctx k).Γ f) := (Q8 (Q7.sem_ok k) (Q8 (Q9.sem_ok k) (Q8 (Q0c.sem_ok k) QK)))
def Q0f.ann (k : Nat) : Ann := .nil
theorem Q0f.body (k : Nat) : Q0Y (Q0f.ctx k) Tryz.f9 (Func.code Tryz.f9) (Q0f.ann k) Q0f.tin Q0f.tout (fun x K => Q0f.c k x.1 K) := by
 intro ρ x K; kernel_rfl
theorem Q0f.sem_ok (k : Nat) : Qm Tryz.prog 9 (Q0f.sem k) :=
 QD (C := Q0f.ctx k) (Q0f.gok k) Tryz.mix (c := Func.code Tryz.f9) (ann := Q0f.ann k) (tin := Q0f.tin) (tout := Q0f.tout) (fun x K => Q0f.c k x.1 K) Tryz.func9 (by kernel_rfl) (by kernel_rfl) Q1.nil (Q0f.body k)
end Go.Am
namespace Go.Am
open Go Go.Proofs
set_option maxRecDepth 100000
abbrev Qa.l0.σ : Type := Int × Int × ByteArray × Int × Unit
abbrev Qa.l0.τ : Type := Qdp 
def Qa.l0.r (k : Nat) {ρ : Type} (x : Qa.l0.σ) (kn : Qa.l0.σ → Option ρ) (ke : Qa.l0.τ → Option ρ) : Option ρ :=
 bif (decide (x.2.2.2.1 < x.2.1)) then (let v0 : Int := (Int.tmod x.1 (256 : Int))
 let v1 : ByteArray := (bytesOf (List.set (List.replicate 1 (0 : Int)) 0 (IntKind.wrap IntKind.u8 v0)))
 bif (Nat.ble ((ByteArray.size x.2.2.1) + (ByteArray.size v1)) 9223372036854775807) then (let v2 : ByteArray := (x.2.2.1 ++ v1)
 let v3 : Int := (IntKind.wrap IntKind.u64 (Int.tdiv x.1 (256 : Int)))
 let v4 : Int := (IntKind.wrap IntKind.i64 (x.2.2.2.1 + (1 : Int)))
 kn (v3, (x.2.1, (v2, (v4, ()))))) else (none)) else (ke (x.2.2.1, ()))
def Qa.l0 (k : Nat) : Nat → Qa.l0.σ → Option Qa.l0.τ := Q1c (Qa.l0.r k)
def Qa.l0.T : StT := ⟨.dat (.int .u64) :: .dat (.int .i64) :: us 3 ++ .dat .str :: .dat (.int .i64) :: us 15, []⟩
def Qa.l0.os : List Out := [⟨(.exit 0), [.mask [5], .auto 0], ⟨us 5 ++ .dat .str :: us 16, []⟩⟩]
def Qa.c (k : Nat) {ρ : Type} (n : Int) (bytes : Int) (K : ByteArray × Unit → Option ρ) : Option ρ :=
 (Qa.l0 k k (n, (bytes, ((⟨(List.toArray [])⟩ : ByteArray), ((0 : Int), ()))))).bind fun t5 => K (t5.1, ())
def Qa (k : Nat) (n : Int) (bytes : Int) : Option Qdp := Qa.c k n bytes some
def Qa.tin : List Ty := [(.int .u64), (.int .i64)]
def Qa.tout : List Ty := [.str]
def Qa.sem (k : Nat) : Qr := QX Qa.tin Qa.tout fun x => Qa k x.1 x.2.1
noncomputable def Qa.ctx (k : Nat) : Ctx := ⟨Tryz.prog, gam []⟩
theorem Qa.gok (k : Nat) : ∀ f, Qm Tryz.prog f ((Qa.ctx k).Γ f) := QK
theorem Qa.l0.round (k : Nat) : Q1b (Qa.ctx k) (Q0y (Func.code Tryz.f50) [1, 1, 0, 1, 0, 0]) (.nil) Qa.l0.T [.mask [0, 1, 5, 6], .auto 0] Qa.l0.os (Qa.l0.r k) := by
 intro ρ x kn ke; kernel_rfl
theorem Qa.l0.ok (k : Nat) : StOK 0 Tryz.prog (.loop (Q0y (Func.code Tryz.f50) [1, 1, 0, 1, 0, 0])) (QO Qa.l0.T Qa.l0.os (Qa.l0 k k)) :=
 Q1e (C := Qa.ctx k) (Qa.gok k) Tryz.mix Q1.nil (by kernel_rfl) (by kernel_rfl) (by kernel_rfl) (Qa.l0.round k) k
def Qa.ann (k : Nat) : Ann := .node [] none (.nil) (.node [] none (.nil) (.node [] none (.node [] none (.nil) (.node [] none (.node [] (some (QO Qa.l0.T Qa.l0.os (Qa.l0 k k))) .nil .nil) (.nil))) (.nil)))
theorem Qa.body (k : Nat) : Q0Y (Qa.ctx k) Tryz.f50 (Func.code Tryz.f50) (Qa.ann k) Qa.tin Qa.tout (fun x K => Qa.c k x.1 x.2.1 K) := by
 intro ρ x K; kernel_rfl
theorem Qa.sem_ok (k : Nat) : Qm Tryz.prog 50 (Qa.sem k) :=
 QD (C := Qa.ctx k) (Qa.gok k) Tryz.mix (c := Func.code Tryz.f50) (ann := Qa.ann k) (tin := Qa.tin) (tout := Qa.tout) (fun x K => Qa.c k x.1 x.2.1 K) Tryz.func50 (by kernel_rfl) (by kernel_rfl) (Q1.seq Q1.nil (Q1.seq Q1.nil (Q1.seq (Q1.seq Q1.nil (Q1.block (Q1.loop (by kernel_rfl) (Qa.l0.ok k)))) Q1.nil))) (Qa.body k)
def Q0g.c (k : Nat) {ρ : Type} (h : Qdi) (K : ByteArray × Unit → Option ρ) : Option ρ :=
 let v0 : Int := h.1
 (Qa k (IntKind.wrap IntKind.u64 v0) (4 : Int)).bind fun t1 => let v2 : ByteArray := (bytesOf (List.take 32 (List.drop 0 h.2.1)))
 bif (Nat.ble ((ByteArray.size t1.1) + (ByteArray.size v2)) 9223372036854775807) then (let v3 : ByteArray := (t1.1 ++ v2)
 let v4 : ByteArray := (bytesOf (List.take 32 (List.drop 0 h.2.2.1)))
 bif (Nat.ble ((ByteArray.size v3) + (ByteArray.size v4)) 9223372036854775807) then (let v5 : ByteArray := (v3 ++ v4)
 let v6 : Int := h.2.2.2.1
 (Qa k (IntKind.wrap IntKind.u64 v6) (4 : Int)).bind fun t7 => bif (Nat.ble ((ByteArray.size v5) + (ByteArray.size t7.1)) 9223372036854775807) then (let v8 : ByteArray := (v5 ++ t7.1)
 let v9 : Int := h.2.2.2.2.1
 (Qa k (IntKind.wrap IntKind.u64 v9) (4 : Int)).bind fun t10 => bif (Nat.ble ((ByteArray.size v8) + (ByteArray.size t10.1)) 9223372036854775807) then (let v11 : ByteArray := (v8 ++ t10.1)
 let v12 : Int := h.2.2.2.2.2.1
 (Qa k (IntKind.wrap IntKind.u64 v12) (4 : Int)).bind fun t13 => bif (Nat.ble ((ByteArray.size v11) + (ByteArray.size t13.1)) 9223372036854775807) then (let v14 : ByteArray := (v11 ++ t13.1)
 K (v14, ())) else (none)) else (none)) else (none)) else (none)) else (none)
def Q0g (k : Nat) (h : Qdi) : Option Qdp := Q0g.c k h some
def Q0g.tin : List Ty := [Qdc]
def Q0g.tout : List Ty := [.str]
def Q0g.sem (k : Nat) : Qr := QX Q0g.tin Q0g.tout fun x => Q0g k x.1
noncomputable def Q0g.ctx (k : Nat) : Ctx := ⟨Tryz.prog, gam [(50, (Qa.sem k))]⟩
theorem Q0g.gok (k : Nat) : ∀ f, Qm Tryz.prog f ((Q0g.ctx k).Γ f) := (Q8 (Qa.sem_ok k) QK)
def Q0g.ann (k : Nat) : Ann := .nil
theorem Q0g.body (k : Nat) : Q0Y (Q0g.ctx k) Tryz.f48 (Func.code Tryz.f48) (Q0g.ann k) Q0g.tin Q0g.tout (fun x K => Q0g.c k x.1 K) := by
 intro ρ x K; kernel_rfl
theorem Q0g.sem_ok (k : Nat) : Qm Tryz.prog 48 (Q0g.sem k) :=
 QD (C := Q0g.ctx k) (Q0g.gok k) Tryz.mix (c := Func.code Tryz.f48) (ann := Q0g.ann k) (tin := Q0g.tin) (tout := Q0g.tout) (fun x K => Q0g.c k x.1 K) Tryz.func48 (by kernel_rfl) (by kernel_rfl) Q1.nil (Q0g.body k)
def Q03.c (k : Nat) {ρ : Type} (n : Int) (K : ByteArray × Unit → Option ρ) : Option ρ :=
 (Qa k (IntKind.wrap IntKind.u64 n) (4 : Int)).bind fun t0 => K (t0.1, ())
def Q03 (k : Nat) (n : Int) : Option Qdp := Q03.c k n some
def Q03.tin : List Ty := [(.int .i64)]
def Q03.tout : List Ty := [.str]
def Q03.sem (k : Nat) : Qr := QX Q03.tin Q03.tout fun x => Q03 k x.1
noncomputable def Q03.ctx (k : Nat) : Ctx := ⟨Tryz.prog, gam [(50, (Qa.sem k))]⟩
theorem Q03.gok (k : Nat) : ∀ f, Qm Tryz.prog f ((Q03.ctx k).Γ f) := (Q8 (Qa.sem_ok k) QK)
def Q03.ann (k : Nat) : Ann := .nil
theorem Q03.body (k : Nat) : Q0Y (Q03.ctx k) Tryz.f49 (Func.code Tryz.f49) (Q03.ann k) Q03.tin Q03.tout (fun x K => Q03.c k x.1 K) := by
 intro ρ x K; kernel_rfl
theorem Q03.sem_ok (k : Nat) : Qm Tryz.prog 49 (Q03.sem k) :=
 QD (C := Q03.ctx k) (Q03.gok k) Tryz.mix (c := Func.code Tryz.f49) (ann := Q03.ann k) (tin := Q03.tin) (tout := Q03.tout) (fun x K => Q03.c k x.1 K) Tryz.func49 (by kernel_rfl) (by kernel_rfl) Q1.nil (Q03.body k)
def Q07.c (k : Nat) {ρ : Type} (e : Qde) (K : ByteArray × Unit → Option ρ) : Option ρ :=
 (Q0g k (e.1.1, (e.1.2.1, (e.1.2.2.1, (e.1.2.2.2.1, (e.1.2.2.2.2.1, (e.1.2.2.2.2.2.1, ()))))))).bind fun t0 => let v1 : Int := e.2.1
 (Q03 k v1).bind fun t2 => bif (Nat.ble ((ByteArray.size t0.1) + (ByteArray.size t2.1)) 9223372036854775807) then (let v3 : ByteArray := (t0.1 ++ t2.1)
 let v4 : Int := e.2.2.1
 (Qa k (IntKind.wrap IntKind.u64 v4) (1 : Int)).bind fun t5 => bif (Nat.ble ((ByteArray.size v3) + (ByteArray.size t5.1)) 9223372036854775807) then (let v6 : ByteArray := (v3 ++ t5.1)
 let v7 : Int := e.2.2.2.1
 (Q03 k v7).bind fun t8 => bif (Nat.ble ((ByteArray.size v6) + (ByteArray.size t8.1)) 9223372036854775807) then (let v9 : ByteArray := (v6 ++ t8.1)
 let v10 : Int := e.2.2.2.2.1
 (Q03 k v10).bind fun t11 => bif (Nat.ble ((ByteArray.size v9) + (ByteArray.size t11.1)) 9223372036854775807) then (let v12 : ByteArray := (v9 ++ t11.1)
 let v13 : Int := e.2.2.2.2.2.1
 (Q03 k v13).bind fun t14 => bif (Nat.ble ((ByteArray.size v12) + (ByteArray.size t14.1)) 9223372036854775807) then (let v15 : ByteArray := (v12 ++ t14.1)
 K (v15, ())) else (none)) else (none)) else (none)) else (none)) else (none)
def Q07 (k : Nat) (e : Qde) : Option Qdp := Q07.c k e some
def Q07.tin : List Ty := [Qdb]
def Q07.tout : List Ty := [.str]
def Q07.sem (k : Nat) : Qr := QX Q07.tin Q07.tout fun x => Q07 k x.1
noncomputable def Q07.ctx (k : Nat) : Ctx := ⟨Tryz.prog, gam [(48, (Q0g.sem k)), (49, (Q03.sem k)), (50, (Qa.sem k))]⟩
theorem Q07.gok (k : Nat) : ∀ f, Qm Tryz.prog f ((Q07.ctx k).Γ f) := (Q8 (Q0g.sem_ok k) (Q8 (Q03.sem_ok k) (Q8 (Qa.sem_ok k) QK)))
def Q07.ann (k : Nat) : Ann := .nil
theorem Q07.body (k : Nat) : Q0Y (Q07.ctx k) Tryz.f13 (Func.code Tryz.f13) (Q07.ann k) Q07.tin Q07.tout (fun x K => Q07.c k x.1 K) := by
 intro ρ x K; kernel_rfl
theorem Q07.sem_ok (k : Nat) : Qm Tryz.prog 13 (Q07.sem k) :=
 QD (C := Q07.ctx k) (Q07.gok k) Tryz.mix (c := Func.code Tryz.f13) (ann := Q07.ann k) (tin := Q07.tin) (tout := Q07.tout) (fun x K => Q07.c k x.1 K) Tryz.func13 (by kernel_rfl) (by kernel_rfl) Q1.nil (Q07.body k)
end Go.Am
namespace Go.Am
open Go Go.Proofs
set_option maxRecDepth 100000
def Q0h.c (k : Nat) {ρ : Type} (e : Qde) (K : Qde × Unit → Option ρ) : Option ρ :=
 let v0 : Int := e.1.1
 let v1 : (List Int) := e.1.2.1
 let v2 : (List Int) := e.1.2.2.1
 let v3 : Int := e.1.2.2.2.1
 let v4 : Int := e.1.2.2.2.2.1
 let v5 : Int := e.1.2.2.2.2.2.1
 let v6 : Int := e.2.1
 let v7 : Int := e.2.2.1
 let v8 : Int := e.2.2.2.1
 let v9 : Int := e.2.2.2.2.1
 let v10 : Int := e.2.2.2.2.2.1
 K (((v0, (v1, (v2, (v3, (v4, (v5, ())))))), (v6, (v7, (v8, (v9, (v10, ())))))), ())
def Q0h (k : Nat) (e : Qde) : Option (Qde × Unit) := Q0h.c k e some
def Q0h.tin : List Ty := [Qdb]
def Q0h.tout : List Ty := [Qdb]
def Q0h.sem (k : Nat) : Qr := QX Q0h.tin Q0h.tout fun x => Q0h k x.1
noncomputable def Q0h.ctx (k : Nat) : Ctx := ⟨Tryz.prog, gam []⟩
theorem Q0h.gok (k : Nat) : ∀ f, Qm Tryz.prog f ((Q0h.ctx k).Γ f) := QK
def Q0h.ann (k : Nat) : Ann := .nil
theorem Q0h.body (k : Nat) : Q0Y (Q0h.ctx k) Tryz.f11 (Func.code Tryz.f11) (Q0h.ann k) Q0h.tin Q0h.tout (fun x K => Q0h.c k x.1 K) := by
 intro ρ x K; kernel_rfl
theorem Q0h.sem_ok (k : Nat) : Qm Tryz.prog 11 (Q0h.sem k) :=
 QD (C := Q0h.ctx k) (Q0h.gok k) Tryz.mix (c := Func.code Tryz.f11) (ann := Q0h.ann k) (tin := Q0h.tin) (tout := Q0h.tout) (fun x K => Q0h.c k x.1 K) Tryz.func11 (by kernel_rfl) (by kernel_rfl) Q1.nil (Q0h.body k)
end Go.Am
