/- A part of a proof: a machine of abstract values that tells what functions of the program compute, and the plain facts on them. -/
import Derived.Test.YtegkgkighkpkiaaAm7
import Derived.KernelRfl
set_option linter.unusedVariables false
set_option linter.unusedSimpArgs false
set_option linter.unnecessarySimpa false
set_option linter.unusedSectionVars false
namespace Go.Am
open Go Go.Proofs
set_option maxRecDepth 100000
/-! 36 (*bedrock/sha.Hasher).State · with blocks -/
abbrev sha_Hasher_State_2.τ : Type := ((List Int) × ByteArray × ((List Int) × (Unit × (Int × Unit))) × (List Int) × Unit)
def sha_Hasher_State_2.c (k : Nat) {ρ : Type} (b0 : ((List Int) × (Unit × (Int × Unit)))) (b1 : (List Int)) (K : sha_Hasher_State_2.τ → Option ρ) : Option ρ :=
  let v0 : List Int := b0.1
  K (v0, ((bytesOf b1), ((b0.1, ((), (b0.2.2.1, ()))), (b1, ()))))
def sha_Hasher_State_2 (k : Nat) (b0 : ((List Int) × (Unit × (Int × Unit)))) (b1 : (List Int)) : Option sha_Hasher_State_2.τ := sha_Hasher_State_2.c k b0 b1 some
def sha_Hasher_State_2.T : CallT := ⟨[.ptr 0 []], [.pair (.dat (.arr 8 (.int .u32))) (.pair (.vsl 1) (.dat (.pair (.int .u64) .unit))), .vec (.int .u8)], 1⟩
def sha_Hasher_State_2.os : List Out := [⟨.ret, [.freeze (.slot 0), .freeze (.slot 1), .auto 1], ⟨[.dat (.arr 8 (.int .u32)), .dat .str], [.pair (.dat (.arr 8 (.int .u32))) (.pair (.vsl 1) (.dat (.pair (.int .u64) .unit))), .vec (.int .u8)]⟩⟩]
def sha_Hasher_State_2.sem (k : Nat) : CallSem := callH sha_Hasher_State_2.T sha_Hasher_State_2.os fun x => sha_Hasher_State_2 k x.1 x.2.1
noncomputable def sha_Hasher_State_2.ctx (k : Nat) : Ctx := ⟨Try.prog, gam []⟩
theorem sha_Hasher_State_2.gok (k : Nat) : ∀ f, SemOK Try.prog f ((sha_Hasher_State_2.ctx k).Γ f) := gam_nil
def sha_Hasher_State_2.ann (k : Nat) : Ann := .nil
theorem sha_Hasher_State_2.body (k : Nat) : BodyH (sha_Hasher_State_2.ctx k) Try.f36 (Func.code Try.f36) (sha_Hasher_State_2.ann k) sha_Hasher_State_2.T sha_Hasher_State_2.os (fun x K => sha_Hasher_State_2.c k x.1 x.2.1 K) := by
  intro ρ x K; kernel_rfl
theorem sha_Hasher_State_2.sem_ok (k : Nat) : SemOK Try.prog 36 (sha_Hasher_State_2.sem k) :=
  callH_ok (C := sha_Hasher_State_2.ctx k) (sha_Hasher_State_2.gok k) Try.mix (c := Func.code Try.f36) (ann := sha_Hasher_State_2.ann k) (T := sha_Hasher_State_2.T) (os := sha_Hasher_State_2.os) (fun x K => sha_Hasher_State_2.c k x.1 x.2.1 K) Try.func36 (by kernel_rfl) (by kernel_rfl) AnnOK.nil (sha_Hasher_State_2.body k) (by kernel_rfl) (by kernel_rfl) (by kernel_rfl)

/-! 37 (*bedrock/sha.Hasher).Len · with blocks -/
abbrev sha_Hasher_Len_2.τ : Type := (Int × ((List Int) × (Unit × (Int × Unit))) × (List Int) × Unit)
def sha_Hasher_Len_2.c (k : Nat) {ρ : Type} (b0 : ((List Int) × (Unit × (Int × Unit)))) (b1 : (List Int)) (K : sha_Hasher_Len_2.τ → Option ρ) : Option ρ :=
  let v0 : Int := b0.2.2.1
  K (v0, ((b0.1, ((), (b0.2.2.1, ()))), (b1, ())))
def sha_Hasher_Len_2 (k : Nat) (b0 : ((List Int) × (Unit × (Int × Unit)))) (b1 : (List Int)) : Option sha_Hasher_Len_2.τ := sha_Hasher_Len_2.c k b0 b1 some
def sha_Hasher_Len_2.T : CallT := ⟨[.ptr 0 []], [.pair (.dat (.arr 8 (.int .u32))) (.pair (.vsl 1) (.dat (.pair (.int .u64) .unit))), .vec (.int .u8)], 1⟩
def sha_Hasher_Len_2.os : List Out := [⟨.ret, [.freeze (.slot 0), .auto 1], ⟨[.dat (.int .u64)], [.pair (.dat (.arr 8 (.int .u32))) (.pair (.vsl 1) (.dat (.pair (.int .u64) .unit))), .vec (.int .u8)]⟩⟩]
def sha_Hasher_Len_2.sem (k : Nat) : CallSem := callH sha_Hasher_Len_2.T sha_Hasher_Len_2.os fun x => sha_Hasher_Len_2 k x.1 x.2.1
noncomputable def sha_Hasher_Len_2.ctx (k : Nat) : Ctx := ⟨Try.prog, gam []⟩
theorem sha_Hasher_Len_2.gok (k : Nat) : ∀ f, SemOK Try.prog f ((sha_Hasher_Len_2.ctx k).Γ f) := gam_nil
def sha_Hasher_Len_2.ann (k : Nat) : Ann := .nil
theorem sha_Hasher_Len_2.body (k : Nat) : BodyH (sha_Hasher_Len_2.ctx k) Try.f37 (Func.code Try.f37) (sha_Hasher_Len_2.ann k) sha_Hasher_Len_2.T sha_Hasher_Len_2.os (fun x K => sha_Hasher_Len_2.c k x.1 x.2.1 K) := by
  intro ρ x K; kernel_rfl
theorem sha_Hasher_Len_2.sem_ok (k : Nat) : SemOK Try.prog 37 (sha_Hasher_Len_2.sem k) :=
  callH_ok (C := sha_Hasher_Len_2.ctx k) (sha_Hasher_Len_2.gok k) Try.mix (c := Func.code Try.f37) (ann := sha_Hasher_Len_2.ann k) (T := sha_Hasher_Len_2.T) (os := sha_Hasher_Len_2.os) (fun x K => sha_Hasher_Len_2.c k x.1 x.2.1 K) Try.func37 (by kernel_rfl) (by kernel_rfl) AnnOK.nil (sha_Hasher_Len_2.body k) (by kernel_rfl) (by kernel_rfl) (by kernel_rfl)

/-! 7 bedrock/bedrocklaw02.ShaParts -/
abbrev bedrocklaw02_ShaParts.p0.σ : Type := (List ByteArray) × Int × ((List Int) × (Unit × (Int × Unit))) × Unit
abbrev bedrocklaw02_ShaParts.p0.τ : Type := (Bool × Unit) ⊕ ((List ByteArray) × Int × ((List Int) × (Unit × (Int × Unit))) × Unit)
def bedrocklaw02_ShaParts.p0.r (k : Nat) {ρ : Type} (x : bedrocklaw02_ShaParts.p0.σ) (K : bedrocklaw02_ShaParts.p0.τ → Option ρ) : Option ρ :=
  (bedrocklaw02_awake k ).bind fun t1 => bif (!t1.1) then (K (.inl (false, ()))) else (K (.inr (x.1, (x.2.1, ((x.2.2.1.1, ((), (x.2.2.1.2.2.1, ()))), ())))))
def bedrocklaw02_ShaParts.p0 (k : Nat) (x : bedrocklaw02_ShaParts.p0.σ) : Option bedrocklaw02_ShaParts.p0.τ := bedrocklaw02_ShaParts.p0.r k x some
def bedrocklaw02_ShaParts.p0.T : StT := ⟨.dat (.sl .str) :: .dat (.int .i64) :: us 3 ++ .ptr 0 [] :: us 101, [.pair (.dat (.arr 8 (.int .u32))) (.pair (.nils) (.dat (.pair (.int .u64) .unit)))]⟩
def bedrocklaw02_ShaParts.p0.os : List Out := [⟨.ret, [.mask [4], .auto 0], ⟨us 4 ++ .dat .bool :: us 102, []⟩⟩, ⟨.normal, [.mask [0, 1, 5], .auto 0], ⟨.dat (.sl .str) :: .dat (.int .i64) :: us 3 ++ .ptr 0 [] :: us 101, [.pair (.dat (.arr 8 (.int .u32))) (.pair (.nils) (.dat (.pair (.int .u64) .unit)))]⟩⟩]
abbrev bedrocklaw02_ShaParts.p2.σ : Type := Int × ByteArray × Int × ByteArray × (List ByteArray) × Int × Int × ((List Int) × (Unit × (Int × Unit))) × (List Int) × Unit
abbrev bedrocklaw02_ShaParts.p2.τ : Type := (Bool × Unit) ⊕ (Int × ByteArray × ByteArray × (List ByteArray) × Int × Int × ((List Int) × (Unit × (Int × Unit))) × (List Int) × Unit)
def bedrocklaw02_ShaParts.p2.r (k : Nat) {ρ : Type} (x : bedrocklaw02_ShaParts.p2.σ) (K : bedrocklaw02_ShaParts.p2.τ → Option ρ) : Option ρ :=
  bif (x.2.2.1 == x.1) then ((sha_Hasher_Clone k (x.2.2.2.2.2.2.2.1.1, ((), (x.2.2.2.2.2.2.2.1.2.2.1, ()))) x.2.2.2.2.2.2.2.2.1).bind fun t7 => (sha_Hasher_Sum k (t7.2.2.1.1, ((), (t7.2.2.1.2.2.1, ()))) t7.2.2.2.1).bind fun t8 => (sha_Hasher_Sum k (t7.1.1, ((), (t7.1.2.2.1, ()))) t7.2.1).bind fun t9 => bif (!(decide (t8.1 = t9.1))) then (K (.inl (false, ()))) else ((sha_Hasher_Write_2 k (⟨(List.toArray [111, 116, 104, 101, 114])⟩ : ByteArray) (t8.2.1.1, ((), (t8.2.1.2.2.1, ()))) t8.2.2.1).bind fun t10 => K (.inr (x.1, (x.2.1, (x.2.2.2.1, (x.2.2.2.2.1, (x.2.2.2.2.2.1, (x.2.2.2.2.2.2.1, ((t9.2.1.1, ((), (t9.2.1.2.2.1, ()))), (t9.2.2.1, ()))))))))))) else (K (.inr (x.1, (x.2.1, (x.2.2.2.1, (x.2.2.2.2.1, (x.2.2.2.2.2.1, (x.2.2.2.2.2.2.1, ((x.2.2.2.2.2.2.2.1.1, ((), (x.2.2.2.2.2.2.2.1.2.2.1, ()))), (x.2.2.2.2.2.2.2.2.1, ()))))))))))
def bedrocklaw02_ShaParts.p2 (k : Nat) (x : bedrocklaw02_ShaParts.p2.σ) : Option bedrocklaw02_ShaParts.p2.τ := bedrocklaw02_ShaParts.p2.r k x some
def bedrocklaw02_ShaParts.p2.T : StT := ⟨us 1 ++ .dat (.int .i64) :: us 3 ++ .ptr 0 [] :: .dat .str :: .dat (.int .i64) :: .dat .str :: us 12 ++ .dat (.sl .str) :: .dat (.int .i64) :: .dat (.int .i64) :: us 83, [.pair (.dat (.arr 8 (.int .u32))) (.pair (.vsl 1) (.dat (.pair (.int .u64) .unit))), .vec (.int .u8)]⟩
def bedrocklaw02_ShaParts.p2.os : List Out := [⟨.ret, [.mask [4], .auto 0], ⟨us 4 ++ .dat .bool :: us 102, []⟩⟩, ⟨.normal, [.mask [1, 5, 6, 8, 21, 22, 23], .auto 0], ⟨us 1 ++ .dat (.int .i64) :: us 3 ++ .ptr 0 [] :: .dat .str :: us 1 ++ .dat .str :: us 12 ++ .dat (.sl .str) :: .dat (.int .i64) :: .dat (.int .i64) :: us 83, [.pair (.dat (.arr 8 (.int .u32))) (.pair (.vsl 1) (.dat (.pair (.int .u64) .unit))), .vec (.int .u8)]⟩⟩]
abbrev bedrocklaw02_ShaParts.l3.σ : Type := Int × ByteArray × ByteArray × Int × (List ByteArray) × Int × Int × ((List Int) × (Unit × (Int × Unit))) × (List Int) × (List Int) × (List Int) × Unit
abbrev bedrocklaw02_ShaParts.l3.τ : Type := (Int × ByteArray × ByteArray × (List ByteArray) × Int × Int × ((List Int) × (Unit × (Int × Unit))) × (List Int) × (List Int) × (List Int) × Unit)
def bedrocklaw02_ShaParts.l3.r (k : Nat) {ρ : Type} (x : bedrocklaw02_ShaParts.l3.σ) (kn : bedrocklaw02_ShaParts.l3.σ → Option ρ) (ke : bedrocklaw02_ShaParts.l3.τ → Option ρ) : Option ρ :=
  let v20 : Int := (IntKind.wrap IntKind.i64 (x.2.2.2.1 + (64 : Int)))
  let v21 : Int := (((ByteArray.size x.2.1) : Nat) : Int)
  bif (decide (v20 ≤ v21)) then (let v22 : List Int := x.2.2.2.2.2.2.2.2.2.2.1
  let v23 : Int := (IntKind.wrap IntKind.i64 (x.2.2.2.1 + (64 : Int)))
  bif (decide (((0 : Int) ≤ x.2.2.2.1) ∧ ((x.2.2.2.1 ≤ v23) ∧ (v23 ≤ (((ByteArray.size x.2.1) : Nat) : Int))))) then (let v24 : ByteArray := (ByteArray.extract x.2.1 (Int.toNat x.2.2.2.1) (Int.toNat v23))
  bif (decide (64 ≤ (List.length (ofBytes v24)))) then (let v25 : List Int := (List.take 64 (List.drop 0 (ofBytes v24)))
  (bedrockref02_Step k v22 v25).bind fun t26 => let v27 : Int := (IntKind.wrap IntKind.i64 (x.2.2.2.1 + (64 : Int)))
  kn (x.1, (x.2.1, (x.2.2.1, (v27, (x.2.2.2.2.1, (x.2.2.2.2.2.1, (x.2.2.2.2.2.2.1, ((x.2.2.2.2.2.2.2.1.1, ((), (x.2.2.2.2.2.2.2.1.2.2.1, ()))), (x.2.2.2.2.2.2.2.2.1, (x.2.2.2.2.2.2.2.2.2.1, (t26.1, ())))))))))))) else (none)) else (none)) else (ke (x.1, (x.2.1, (x.2.2.1, (x.2.2.2.2.1, (x.2.2.2.2.2.1, (x.2.2.2.2.2.2.1, ((x.2.2.2.2.2.2.2.1.1, ((), (x.2.2.2.2.2.2.2.1.2.2.1, ()))), (x.2.2.2.2.2.2.2.2.1, (x.2.2.2.2.2.2.2.2.2.1, (x.2.2.2.2.2.2.2.2.2.2.1, ())))))))))))
def bedrocklaw02_ShaParts.l3 (k : Nat) : Nat → bedrocklaw02_ShaParts.l3.σ → Option bedrocklaw02_ShaParts.l3.τ := loopJ (bedrocklaw02_ShaParts.l3.r k)
def bedrocklaw02_ShaParts.l3.T : StT := ⟨us 1 ++ .dat (.int .i64) :: us 3 ++ .ptr 0 [] :: .dat .str :: us 3 ++ .ptr 2 [] :: .dat .str :: .ptr 3 [] :: .dat (.int .i64) :: us 7 ++ .dat (.sl .str) :: .dat (.int .i64) :: .dat (.int .i64) :: us 83, [.pair (.dat (.arr 8 (.int .u32))) (.pair (.vsl 1) (.dat (.pair (.int .u64) .unit))), .vec (.int .u8), .dat (.arr 8 (.int .u32)), .dat (.arr 8 (.int .u32))]⟩
def bedrocklaw02_ShaParts.l3.os : List Out := [⟨(.exit 2), [.mask [1, 5, 6, 10, 11, 12, 21, 22, 23], .auto 0], ⟨us 1 ++ .dat (.int .i64) :: us 3 ++ .ptr 0 [] :: .dat .str :: us 3 ++ .ptr 2 [] :: .dat .str :: .ptr 3 [] :: us 8 ++ .dat (.sl .str) :: .dat (.int .i64) :: .dat (.int .i64) :: us 83, [.pair (.dat (.arr 8 (.int .u32))) (.pair (.vsl 1) (.dat (.pair (.int .u64) .unit))), .vec (.int .u8), .dat (.arr 8 (.int .u32)), .dat (.arr 8 (.int .u32))]⟩⟩]
abbrev bedrocklaw02_ShaParts.l1.σ : Type := Int × ByteArray × (List ByteArray) × Int × Int × ((List Int) × (Unit × (Int × Unit))) × (List Int) × Unit
abbrev bedrocklaw02_ShaParts.l1.τ : Type := (Bool × Unit) ⊕ (ByteArray × ((List Int) × (Unit × (Int × Unit))) × (List Int) × Unit)
def bedrocklaw02_ShaParts.l1.r (k : Nat) {ρ : Type} (x : bedrocklaw02_ShaParts.l1.σ) (kn : bedrocklaw02_ShaParts.l1.σ → Option ρ) (ke : bedrocklaw02_ShaParts.l1.τ → Option ρ) : Option ρ :=
  bif (decide (x.2.2.2.2.1 < x.2.2.2.1)) then (bif (decide (((0 : Int) ≤ x.2.2.2.2.1) ∧ (x.2.2.2.2.1 < (((List.length x.2.2.1) : Nat) : Int)))) then (let v6 : ByteArray := (List.getD x.2.2.1 (Int.toNat x.2.2.2.2.1) ByteArray.empty)
  (bedrocklaw02_ShaParts.p2 k (x.1, (x.2.1, (x.2.2.2.2.1, (v6, (x.2.2.1, (x.2.2.2.1, (x.2.2.2.2.1, ((x.2.2.2.2.2.1.1, ((), (x.2.2.2.2.2.1.2.2.1, ()))), (x.2.2.2.2.2.2.1, ())))))))))).bind fun t11 => (match t11 with | .inl t12 => (ke (.inl (t12.1, ()))) | .inr (t13) => ((sha_Hasher_Write_2 k t13.2.2.1 (t13.2.2.2.2.2.2.1.1, ((), (t13.2.2.2.2.2.2.1.2.2.1, ()))) t13.2.2.2.2.2.2.2.1).bind fun t14 => bif (Nat.ble ((ByteArray.size t13.2.1) + (ByteArray.size t13.2.2.1)) 9223372036854775807) then (let v15 : ByteArray := (t13.2.1 ++ t13.2.2.1)
  (sha_Hasher_State_2 k (t14.1.1, ((), (t14.1.2.2.1, ()))) t14.2.1).bind fun t16 => let v17 : List Int := t16.1
  let v18 : ByteArray := t16.2.1
  (bedrockref02_First k ).bind fun t19 => (bedrocklaw02_ShaParts.l3 k k (t13.1, (v15, (v18, ((0 : Int), (t13.2.2.2.1, (t13.2.2.2.2.1, (t13.2.2.2.2.2.1, ((t16.2.2.1.1, ((), (t16.2.2.1.2.2.1, ()))), (t16.2.2.2.1, (v17, (t19.1, ())))))))))))).bind fun t28 => (sha_Hasher_Len_2 k (t28.2.2.2.2.2.2.1.1, ((), (t28.2.2.2.2.2.2.1.2.2.1, ()))) t28.2.2.2.2.2.2.2.1).bind fun t29 => let v30 : Int := (((ByteArray.size t28.2.1) : Nat) : Int)
  bif (t29.1 != (IntKind.wrap IntKind.u64 v30)) then (ke (.inl (false, ()))) else (let v31 : List Int := t28.2.2.2.2.2.2.2.2.1
  let v32 : List Int := t28.2.2.2.2.2.2.2.2.2.1
  bif (!(decide (v31 = v32))) then (ke (.inl (false, ()))) else (let v33 : Int := (((ByteArray.size t28.2.1) : Nat) : Int)
  let v34 : Int := (IntKind.wrap IntKind.i64 (Int.tdiv v33 (64 : Int)))
  let v35 : Int := (IntKind.wrap IntKind.i64 (v34 * (64 : Int)))
  bif (decide (((0 : Int) ≤ v35) ∧ ((v35 ≤ (((ByteArray.size t28.2.1) : Nat) : Int)) ∧ ((((ByteArray.size t28.2.1) : Nat) : Int) ≤ (((ByteArray.size t28.2.1) : Nat) : Int))))) then (let v36 : ByteArray := (ByteArray.extract t28.2.1 (Int.toNat v35) (Int.toNat (((ByteArray.size t28.2.1) : Nat) : Int)))
  bif (!(strEq t28.2.2.1 v36)) then (ke (.inl (false, ()))) else (let v37 : Int := (IntKind.wrap IntKind.i64 (t28.2.2.2.2.2.1 + (1 : Int)))
  kn (t28.1, (t28.2.1, (t28.2.2.2.1, (t28.2.2.2.2.1, (v37, ((t29.2.1.1, ((), (t29.2.1.2.2.1, ()))), (t29.2.2.1, ()))))))))) else (none)))) else (none)))) else (none)) else (ke (.inr (x.2.1, ((x.2.2.2.2.2.1.1, ((), (x.2.2.2.2.2.1.2.2.1, ()))), (x.2.2.2.2.2.2.1, ())))))
def bedrocklaw02_ShaParts.l1 (k : Nat) : Nat → bedrocklaw02_ShaParts.l1.σ → Option bedrocklaw02_ShaParts.l1.τ := loopJ (bedrocklaw02_ShaParts.l1.r k)
def bedrocklaw02_ShaParts.l1.T : StT := ⟨us 1 ++ .dat (.int .i64) :: us 3 ++ .ptr 0 [] :: .dat .str :: us 14 ++ .dat (.sl .str) :: .dat (.int .i64) :: .dat (.int .i64) :: us 83, [.pair (.dat (.arr 8 (.int .u32))) (.pair (.vsl 1) (.dat (.pair (.int .u64) .unit))), .vec (.int .u8)]⟩
def bedrocklaw02_ShaParts.l1.os : List Out := [⟨.ret, [.mask [4], .auto 0], ⟨us 4 ++ .dat .bool :: us 102, []⟩⟩, ⟨(.exit 0), [.mask [5, 6], .auto 0], ⟨us 5 ++ .ptr 0 [] :: .dat .str :: us 100, [.pair (.dat (.arr 8 (.int .u32))) (.pair (.vsl 1) (.dat (.pair (.int .u64) .unit))), .vec (.int .u8)]⟩⟩]
def bedrocklaw02_ShaParts.c (k : Nat) {ρ : Type} (parts : (List ByteArray)) (at_1 : Int) (K : Bool × Unit → Option ρ) : Option ρ :=
  (sha_New k ).bind fun t0 => (bedrocklaw02_ShaParts.p0 k (parts, (at_1, ((t0.1.1, ((), (t0.1.2.2.1, ()))), ())))).bind fun t2 => (match t2 with | .inl t3 => (K (t3.1, ())) | .inr (t4) => (let v5 : Int := (((List.length t4.1) : Nat) : Int)
  (bedrocklaw02_ShaParts.l1 k k (t4.2.1, ((⟨(List.toArray [])⟩ : ByteArray), (t4.1, (v5, ((0 : Int), ((t4.2.2.1.1, ((), (t4.2.2.1.2.2.1, ()))), ([], ())))))))).bind fun t38 => (match t38 with | .inl t39 => (K (t39.1, ())) | .inr (t40) => ((sha_Hasher_Sum k (t40.2.1.1, ((), (t40.2.1.2.2.1, ()))) t40.2.2.1).bind fun t41 => (bedrockref02_Sum k t40.1).bind fun t42 => bif (decide (t41.1 = t42.1)) then ((sha_Hasher_Sum k (t41.2.1.1, ((), (t41.2.1.2.2.1, ()))) t41.2.2.1).bind fun t43 => (sha_Sum k t40.1).bind fun t44 => K ((decide (t43.1 = t44.1)), ())) else (K (false, ()))))))
def bedrocklaw02_ShaParts (k : Nat) (parts : (List ByteArray)) (at_1 : Int) : Option (Bool × Unit) := bedrocklaw02_ShaParts.c k parts at_1 some
def bedrocklaw02_ShaParts.tin : List Ty := [(.sl .str), (.int .i64)]
def bedrocklaw02_ShaParts.tout : List Ty := [.bool]
def bedrocklaw02_ShaParts.sem (k : Nat) : CallSem := callPure bedrocklaw02_ShaParts.tin bedrocklaw02_ShaParts.tout fun x => bedrocklaw02_ShaParts k x.1 x.2.1
noncomputable def bedrocklaw02_ShaParts.ctx (k : Nat) : Ctx := ⟨Try.prog, gam [(32, (sha_New.sem k)), (21, (bedrocklaw02_awake.sem k)), (33, (sha_Hasher_Clone.sem k)), (34, (sha_Hasher_Sum.sem k)), (35, (sha_Hasher_Write_2.sem k)), (36, (sha_Hasher_State_2.sem k)), (31, (bedrockref02_First.sem k)), (23, (bedrockref02_Step.sem k)), (37, (sha_Hasher_Len_2.sem k)), (25, (bedrockref02_Sum.sem k)), (24, (sha_Sum.sem k))]⟩
theorem bedrocklaw02_ShaParts.gok (k : Nat) : ∀ f, SemOK Try.prog f ((bedrocklaw02_ShaParts.ctx k).Γ f) := (gam_cons (sha_New.sem_ok k) (gam_cons (bedrocklaw02_awake.sem_ok k) (gam_cons (sha_Hasher_Clone.sem_ok k) (gam_cons (sha_Hasher_Sum.sem_ok k) (gam_cons (sha_Hasher_Write_2.sem_ok k) (gam_cons (sha_Hasher_State_2.sem_ok k) (gam_cons (bedrockref02_First.sem_ok k) (gam_cons (bedrockref02_Step.sem_ok k) (gam_cons (sha_Hasher_Len_2.sem_ok k) (gam_cons (bedrockref02_Sum.sem_ok k) (gam_cons (sha_Sum.sem_ok k) gam_nil)))))))))))
theorem bedrocklaw02_ShaParts.p0.is (k : Nat) : PieceIs (bedrocklaw02_ShaParts.ctx k) (codeAt (Func.code Try.f7) [1, 1, 0]) (.nil) bedrocklaw02_ShaParts.p0.T bedrocklaw02_ShaParts.p0.os (bedrocklaw02_ShaParts.p0.r k) := by
  intro ρ x K; kernel_rfl
theorem bedrocklaw02_ShaParts.p0.ok (k : Nat) : StOK 0 Try.prog (codeAt (Func.code Try.f7) [1, 1, 0]) (pieceSem bedrocklaw02_ShaParts.p0.T bedrocklaw02_ShaParts.p0.os (bedrocklaw02_ShaParts.p0 k)) :=
  piece_ok (C := bedrocklaw02_ShaParts.ctx k) (T := bedrocklaw02_ShaParts.p0.T) (os := bedrocklaw02_ShaParts.p0.os) (bedrocklaw02_ShaParts.gok k) Try.mix (fun x K => bedrocklaw02_ShaParts.p0.r k x K) AnnOK.nil (by kernel_rfl) (by kernel_rfl) (bedrocklaw02_ShaParts.p0.is k)
theorem bedrocklaw02_ShaParts.p2.is (k : Nat) : PieceIs (bedrocklaw02_ShaParts.ctx k) (codeAt (Func.code Try.f7) [1, 1, 1, 1, 0, 1, 0, 0, 1, 1, 0, 0, 1, 0]) (.nil) bedrocklaw02_ShaParts.p2.T bedrocklaw02_ShaParts.p2.os (bedrocklaw02_ShaParts.p2.r k) := by
  intro ρ x K; kernel_rfl
theorem bedrocklaw02_ShaParts.p2.ok (k : Nat) : StOK 0 Try.prog (codeAt (Func.code Try.f7) [1, 1, 1, 1, 0, 1, 0, 0, 1, 1, 0, 0, 1, 0]) (pieceSem bedrocklaw02_ShaParts.p2.T bedrocklaw02_ShaParts.p2.os (bedrocklaw02_ShaParts.p2 k)) :=
  piece_ok (C := bedrocklaw02_ShaParts.ctx k) (T := bedrocklaw02_ShaParts.p2.T) (os := bedrocklaw02_ShaParts.p2.os) (bedrocklaw02_ShaParts.gok k) Try.mix (fun x K => bedrocklaw02_ShaParts.p2.r k x K) AnnOK.nil (by kernel_rfl) (by kernel_rfl) (bedrocklaw02_ShaParts.p2.is k)
theorem bedrocklaw02_ShaParts.l3.round (k : Nat) : RoundIs (bedrocklaw02_ShaParts.ctx k) (codeAt (Func.code Try.f7) [1, 1, 1, 1, 0, 1, 0, 0, 1, 1, 0, 0, 1, 1, 1, 1, 1, 1, 0, 1, 0, 0]) (.nil) bedrocklaw02_ShaParts.l3.T [.mask [1, 5, 6, 10, 11, 12, 13, 21, 22, 23], .auto 0] bedrocklaw02_ShaParts.l3.os (bedrocklaw02_ShaParts.l3.r k) := by
  intro ρ x kn ke; kernel_rfl
theorem bedrocklaw02_ShaParts.l3.ok (k : Nat) : StOK 0 Try.prog (.loop (codeAt (Func.code Try.f7) [1, 1, 1, 1, 0, 1, 0, 0, 1, 1, 0, 0, 1, 1, 1, 1, 1, 1, 0, 1, 0, 0])) (pieceSem bedrocklaw02_ShaParts.l3.T bedrocklaw02_ShaParts.l3.os (bedrocklaw02_ShaParts.l3 k k)) :=
  loop_ok (C := bedrocklaw02_ShaParts.ctx k) (bedrocklaw02_ShaParts.gok k) Try.mix AnnOK.nil (by kernel_rfl) (by kernel_rfl) (by kernel_rfl) (bedrocklaw02_ShaParts.l3.round k) k
theorem bedrocklaw02_ShaParts.l1.round (k : Nat) : RoundIs (bedrocklaw02_ShaParts.ctx k) (codeAt (Func.code Try.f7) [1, 1, 1, 1, 0, 1, 0, 0]) (.node [] none (.nil) (.node [] none (.nil) (.node [] none (.node [] none (.node [] none (.nil) (.node [] none (.node [.mask [1, 5, 6, 7, 8, 21, 22, 23], .auto 0] (some (pieceSem bedrocklaw02_ShaParts.p2.T bedrocklaw02_ShaParts.p2.os (bedrocklaw02_ShaParts.p2 k))) .nil .nil) (.node [] none (.nil) (.node [] none (.nil) (.node [] none (.nil) (.node [] none (.nil) (.node [] none (.node [] none (.nil) (.node [] none (.node [.mask [1, 5, 6, 10, 11, 12, 13, 21, 22, 23], .auto 0] (some (pieceSem bedrocklaw02_ShaParts.l3.T bedrocklaw02_ShaParts.l3.os (bedrocklaw02_ShaParts.l3 k k))) .nil .nil) (.nil))) (.nil)))))))) (.nil)) (.nil)))) bedrocklaw02_ShaParts.l1.T [.mask [1, 5, 6, 21, 22, 23], .auto 0] bedrocklaw02_ShaParts.l1.os (bedrocklaw02_ShaParts.l1.r k) := by
  intro ρ x kn ke; kernel_rfl
theorem bedrocklaw02_ShaParts.l1.ok (k : Nat) : StOK 0 Try.prog (.loop (codeAt (Func.code Try.f7) [1, 1, 1, 1, 0, 1, 0, 0])) (pieceSem bedrocklaw02_ShaParts.l1.T bedrocklaw02_ShaParts.l1.os (bedrocklaw02_ShaParts.l1 k k)) :=
  loop_ok (C := bedrocklaw02_ShaParts.ctx k) (bedrocklaw02_ShaParts.gok k) Try.mix (AnnOK.seq AnnOK.nil (AnnOK.seq AnnOK.nil (AnnOK.seq (AnnOK.block (AnnOK.seq AnnOK.nil (AnnOK.seq (AnnOK.loop (by kernel_rfl) (bedrocklaw02_ShaParts.p2.ok k)) (AnnOK.seq AnnOK.nil (AnnOK.seq AnnOK.nil (AnnOK.seq AnnOK.nil (AnnOK.seq AnnOK.nil (AnnOK.seq (AnnOK.seq AnnOK.nil (AnnOK.block (AnnOK.loop (by kernel_rfl) (bedrocklaw02_ShaParts.l3.ok k)))) AnnOK.nil)))))))) AnnOK.nil))) (by kernel_rfl) (by kernel_rfl) (by kernel_rfl) (bedrocklaw02_ShaParts.l1.round k) k
def bedrocklaw02_ShaParts.ann (k : Nat) : Ann := .node [] none (.nil) (.node [] none (.nil) (.node [] none (.node [.mask [0, 1, 5], .auto 0] (some (pieceSem bedrocklaw02_ShaParts.p0.T bedrocklaw02_ShaParts.p0.os (bedrocklaw02_ShaParts.p0 k))) .nil .nil) (.node [] none (.nil) (.node [] none (.node [] none (.nil) (.node [] none (.node [.mask [1, 5, 6, 21, 22, 23], .auto 0, .own (.blk 0 [1]) (.int .u8)] (some (pieceSem bedrocklaw02_ShaParts.l1.T bedrocklaw02_ShaParts.l1.os (bedrocklaw02_ShaParts.l1 k k))) .nil .nil) (.nil))) (.nil)))))
theorem bedrocklaw02_ShaParts.body (k : Nat) : BodyIs (bedrocklaw02_ShaParts.ctx k) Try.f7 (Func.code Try.f7) (bedrocklaw02_ShaParts.ann k) bedrocklaw02_ShaParts.tin bedrocklaw02_ShaParts.tout (fun x K => bedrocklaw02_ShaParts.c k x.1 x.2.1 K) := by
  intro ρ x K; kernel_rfl
theorem bedrocklaw02_ShaParts.sem_ok (k : Nat) : SemOK Try.prog 7 (bedrocklaw02_ShaParts.sem k) :=
  callPure_ok (C := bedrocklaw02_ShaParts.ctx k) (bedrocklaw02_ShaParts.gok k) Try.mix (c := Func.code Try.f7) (ann := bedrocklaw02_ShaParts.ann k) (tin := bedrocklaw02_ShaParts.tin) (tout := bedrocklaw02_ShaParts.tout) (fun x K => bedrocklaw02_ShaParts.c k x.1 x.2.1 K) Try.func7 (by kernel_rfl) (by kernel_rfl) (AnnOK.seq AnnOK.nil (AnnOK.seq AnnOK.nil (AnnOK.seq (AnnOK.loop (by kernel_rfl) (bedrocklaw02_ShaParts.p0.ok k)) (AnnOK.seq AnnOK.nil (AnnOK.seq (AnnOK.seq AnnOK.nil (AnnOK.block (AnnOK.loop (by kernel_rfl) (bedrocklaw02_ShaParts.l1.ok k)))) AnnOK.nil))))) (bedrocklaw02_ShaParts.body k)

end Go.Am
/- SHA-256: the chain's law, the parts' law. -/
namespace Go.Am
open Go

/-- Four letters, high first. -/
theorem or4 {x0 x1 x2 x3 : Int} (b0 : 0 ≤ x0 ∧ x0 ≤ 255) (b1 : 0 ≤ x1 ∧ x1 ≤ 255) (b2 : 0 ≤ x2 ∧ x2 ≤ 255) (b3 : 0 ≤ x3 ∧ x3 ≤ 255) :
    bitsOp .or .u32 (bitsOp .or .u32 (bitsOp .or .u32 (shlOp .u32 (IntKind.u32.wrap x0) 24) (shlOp .u32 (IntKind.u32.wrap x1) 16)) (shlOp .u32 (IntKind.u32.wrap x2) 8)) (IntKind.u32.wrap x3) = ((x0 * 256 + x1) * 256 + x2) * 256 + x3 := by
  obtain ⟨X0, rfl⟩ := Int.eq_ofNat_of_zero_le b0.1
  obtain ⟨X1, rfl⟩ := Int.eq_ofNat_of_zero_le b1.1
  obtain ⟨X2, rfl⟩ := Int.eq_ofNat_of_zero_le b2.1
  obtain ⟨X3, rfl⟩ := Int.eq_ofNat_of_zero_le b3.1
  simp only [u32_in (show 0 ≤ ((X0 : Nat) : Int) ∧ ((X0 : Nat) : Int) ≤ 4294967295 by omega), u32_in (show 0 ≤ ((X1 : Nat) : Int) ∧ ((X1 : Nat) : Int) ≤ 4294967295 by omega), u32_in (show 0 ≤ ((X2 : Nat) : Int) ∧ ((X2 : Nat) : Int) ≤ 4294967295 by omega), u32_in (show 0 ≤ ((X3 : Nat) : Int) ∧ ((X3 : Nat) : Int) ≤ 4294967295 by omega)]
  rw [show (24 : Int) = ((24 : Nat) : Int) from rfl, show (16 : Int) = ((16 : Nat) : Int) from rfl, show (8 : Int) = ((8 : Nat) : Int) from rfl, shl_u32 _ (by omega), shl_u32 _ (by omega), shl_u32 _ (by omega)]
  rw [show ((X0 : Int) * 2 ^ 24) % 4294967296 = ((X0 * 2 ^ 24 : Nat) : Int) by simp; omega, show ((X1 : Int) * 2 ^ 16) % 4294967296 = ((X1 * 2 ^ 16 : Nat) : Int) by simp; omega, show ((X2 : Int) * 2 ^ 8) % 4294967296 = ((X2 * 2 ^ 8 : Nat) : Int) by simp; omega]
  rw [or_u32_add (A := X1 * 2 ^ 16) (B := X0) (j := 24) (by omega) (by omega)]
  rw [show X0 * 2 ^ 24 + X1 * 2 ^ 16 = (X0 * 256 + X1) * 2 ^ 16 by omega, or_u32_add (A := X2 * 2 ^ 8) (j := 16) (by omega) (by omega)]
  rw [show (X0 * 256 + X1) * 2 ^ 16 + X2 * 2 ^ 8 = ((X0 * 256 + X1) * 256 + X2) * 2 ^ 8 by omega, or_u32_add (A := X3) (j := 8) (by omega) (by omega)]
  omega

theorem bytesBE_getD (x : List Int) {j : Nat} (h : j < 32) : (bytesBE x).getD j 0 = beF x j := by
  unfold bytesBE
  rw [List.getD_eq_getElem?_getD, List.getElem?_map, List.getElem?_range h]
  rfl

/-- The four letters of a word, joined. -/
theorem word_be {x : List Int} (hx : allIn 0 4294967295 x) {i : Nat} (hi : i < 8) :
    (((bytesBE x).getD (4 * i) 0 * 256 + (bytesBE x).getD (4 * i + 1) 0) * 256 + (bytesBE x).getD (4 * i + 2) 0) * 256 + (bytesBE x).getD (4 * i + 3) 0 = x.getD i 0 := by
  have hr := allIn_getD hx (by omega) i
  rw [bytesBE_getD x (by omega), bytesBE_getD x (by omega), bytesBE_getD x (by omega), bytesBE_getD x (by omega)]
  unfold beF
  rw [show 4 * i / 4 = i by omega, show (4 * i + 1) / 4 = i by omega, show (4 * i + 2) / 4 = i by omega, show (4 * i + 3) / 4 = i by omega]
  rw [show 4 * i % 4 = 0 by omega, show (4 * i + 1) % 4 = 1 by omega, show (4 * i + 2) % 4 = 2 by omega, show (4 * i + 3) % 4 = 3 by omega]
  rw [show (24 : Int) - 8 * ((0 : Nat) : Int) = ((24 : Nat) : Int) by omega, show (24 : Int) - 8 * ((1 : Nat) : Int) = ((16 : Nat) : Int) by omega, show (24 : Int) - 8 * ((2 : Nat) : Int) = ((8 : Nat) : Int) by omega, show (24 : Int) - 8 * ((3 : Nat) : Int) = ((0 : Nat) : Int) by omega]
  simp only [shr_u32 (show 24 ≤ 32 by omega), shr_u32 (show 16 ≤ 32 by omega), shr_u32 (show 8 ≤ 32 by omega), shr_u32 (show 0 ≤ 32 by omega), u8_mod]
  generalize x.getD i 0 = v at *
  simp
  omega

theorem block_of {s : ByteArray} {j : Nat} (h : 64 * j + 64 ≤ s.size) : ((ofBytes (s.extract (64 * j) (64 * j + 64))).drop 0).take 64 = ((ofBytes s).drop (64 * j)).take 64 := by
  rw [ofBytes_extract, List.drop_zero, List.take_take, show 64 * j + 64 - 64 * j = 64 by omega]
  rfl

theorem chains_l1 (k : Nat) (hk : 64 < k) (s v : ByteArray) (hv : v.size ≤ 9223372036854775000) (hm : v.size % 64 = 0) {fuel : Nat} (hf : v.size / 64 < fuel) :
    bedrocklaw02_ShaChains.l1 k fuel (s, v, (0 : Int), first, ()) = some (s, stt first (ofBytes v) (v.size / 64), ()) := by
  refine loop_from0 (r := bedrocklaw02_ShaChains.l1.r k) (fun i => (s, v, ((64 * i : Nat) : Int), stt first (ofBytes v) i, ())) (v.size / 64) _ ?_ ?_ hf
  · intro i hi kn ke
    simp only [bedrocklaw02_ShaChains.l1.r]
    have hle : 64 * i + 64 ≤ v.size := by omega
    have hlen : (ofBytes (v.extract (64 * i) (64 * i + 64))).length = 64 := by rw [ofBytes_extract, List.length_take, List.length_drop, ofBytes_length]; omega
    rw [i64_in (by omega), bif_yes (by omega), bif_yes (by omega), show (((64 * i : Nat) : Int)).toNat = 64 * i by omega, show (((64 * i : Nat) : Int) + 64).toNat = 64 * i + 64 by omega]
    rw [bif_yes (by rw [hlen]; omega), block_of hle, sha_Step_eq hk (stt_in first_in i) (stt_length first_length i) (allIn_take (allIn_drop (ofBytes_in v) _) _) (by rw [List.length_take, List.length_drop, ofBytes_length]; omega)]
    simp only [Option.bind_some]
    rw [show ((64 * i : Nat) : Int) + 64 = ((64 * (i + 1) : Nat) : Int) by omega]
    rfl
  · intro kn ke
    simp only [bedrocklaw02_ShaChains.l1.r]
    rw [i64_in (by omega), bif_no (by omega)]

theorem chains_l2 (k : Nat) (s : ByteArray) {x : List Int} (hx : allIn 0 4294967295 x) {fuel : Nat} (hf : 8 < fuel) :
    bedrocklaw02_ShaChains.l2 k fuel (s, x, (0 : Int), bytesBE x, ()) = some (.inr (s, bytesBE x, ())) := by
  refine loop_from0 (r := bedrocklaw02_ShaChains.l2.r k) (fun i => (s, x, (i : Int), bytesBE x, ())) 8 _ ?_ ?_ hf
  · intro i hi kn ke
    simp only [bedrocklaw02_ShaChains.l2.r]
    rw [bif_yes (by omega), bif_yes (by omega), i64_in (n := 4 * (i : Int)) (by omega), i64_in (n := 4 * (i : Int) + 1) (by omega), i64_in (n := 4 * (i : Int) + 2) (by omega), i64_in (n := 4 * (i : Int) + 3) (by omega), i64_in (n := (i : Int) + 1) (by omega)]
    rw [bif_yes (by omega), bif_yes (by omega), bif_yes (by omega), bif_yes (by omega)]
    rw [show (4 * (i : Int)).toNat = 4 * i by omega, show (4 * (i : Int) + 1).toNat = 4 * i + 1 by omega, show (4 * (i : Int) + 2).toNat = 4 * i + 2 by omega, show (4 * (i : Int) + 3).toNat = 4 * i + 3 by omega, show (i : Int).toNat = i by omega]
    have b0 := allIn_getD (bytesBE_in x) (by omega) (4 * i)
    have b1 := allIn_getD (bytesBE_in x) (by omega) (4 * i + 1)
    have b2 := allIn_getD (bytesBE_in x) (by omega) (4 * i + 2)
    have b3 := allIn_getD (bytesBE_in x) (by omega) (4 * i + 3)
    rw [or4 b0 b1 b2 b3, word_be hx hi]
    simp only [bne_self_eq_false, cond_false]
    rfl
  · intro kn ke
    simp only [bedrocklaw02_ShaChains.l2.r]
    rw [bif_no (by omega)]

theorem pad_ofBytes (n : Int) : ofBytes (bytesOf (padL n)) = padL n := ofBytes_bytesOf fun x hx => by have := padL_in n x hx; omega
theorem sum_bytes0 (a : List Int) : ofBytes (bytesOf ((sumL a).drop 0)) = sumL a := ofBytes_bytesOf fun x hx => by have := sumL_in a x (by simpa using hx); omega

theorem shaChains_true {s : ByteArray} (hs : s.size ≤ 140737488351232) : bedrocklaw02_ShaChains (s.size + 300) s = some (true, ()) := by
  unfold bedrocklaw02_ShaChains bedrocklaw02_ShaChains.c
  generalize hk : s.size + 300 = k
  dsimp only
  rw [awake02 (by omega)]
  simp only [Option.bind_some, Bool.not_true, cond_false]
  rw [u64_in (by omega), sha_Pad_eq (by omega) (by omega)]
  simp only [Option.bind_some]
  have hp : (bytesOf (padL (s.size : Int))).size = 9 + padZ (s.size : Int) := by rw [bytesOf_size, padL_length]
  have hz := padZ_lt (s.size : Int)
  have hm := padL_64 (n := s.size)
  rw [padL_length] at hm
  rw [cond_true' (ble_of (by omega))]
  have hv : (s ++ bytesOf (padL (s.size : Int))).size = s.size + (9 + padZ (s.size : Int)) := by rw [ByteArray.size_append, hp]
  have hb : ofBytes (s ++ bytesOf (padL (s.size : Int))) = ofBytes s ++ padL (s.size : Int) := by rw [ofBytes_append, pad_ofBytes]
  generalize hvv : s ++ bytesOf (padL (s.size : Int)) = v at *
  have h0 : bedrocklaw02_ShaChains.p0 k (s, v, ()) = some (.inr (s, v, ())) := by
    unfold bedrocklaw02_ShaChains.p0
    simp only [bedrocklaw02_ShaChains.p0.r]
    have e0 : ((Int.tmod ((v.size : Nat) : Int) 64) != 0) = false := by
      rw [Int.tmod_eq_emod_of_nonneg (by omega), bne_eq_false_iff_eq]; omega
    rw [e0, cond_false, i64_in (by omega), bif_no (by omega), bif_no (by omega)]
  rw [h0]
  simp only [Option.bind_some]
  rw [sha_First_eq]
  simp only [Option.bind_some]
  rw [chains_l1 k (by omega) s v (by omega) (by omega) (by omega)]
  simp only [Option.bind_some]
  rw [sha_Sum_eq (by omega) hs (by omega)]
  simp only [Option.bind_some]
  have hsum : sumL (ofBytes s) = bytesBE (stt first (ofBytes v) (v.size / 64)) := by
    unfold sumL hx
    rw [ofBytes_length, ← hb, ofBytes_length]
  rw [hsum, chains_l2 k s (stt_in first_in _) (by omega)]
  simp only [Option.bind_some]
  rw [sha_Twice_eq (by omega) hs (by omega)]
  simp only [Option.bind_some]
  rw [← hsum, sha_Sum_eq (by omega) (by rw [sum_size]; omega) (by rw [sum_size]; omega), sum_bytes]
  simp only [Option.bind_some, decide_true]

/-! the parts -/
def txt (parts : List ByteArray) : Nat → ByteArray
  | 0 => ⟨List.toArray []⟩
  | i + 1 => txt parts i ++ parts.getD i ByteArray.empty

theorem txt_size (parts : List ByteArray) : ∀ i, i ≤ parts.length → (txt parts i).size + ((parts.drop i).map ByteArray.size).sum = (parts.map ByteArray.size).sum
  | 0, _ => by
    have : (⟨List.toArray []⟩ : ByteArray).size = 0 := rfl
    simp only [txt, this, List.drop_zero, Nat.zero_add]
  | i + 1, h => by
    rw [← txt_size parts i (by omega)]
    simp only [txt, ByteArray.size_append]
    rw [List.drop_eq_getElem_cons (show i < parts.length by omega), List.getD_eq_getElem?_getD, List.getElem?_eq_getElem (by omega)]
    simp only [List.map_cons, List.sum_cons, Option.getD_some]
    omega

theorem other_size : (⟨(List.toArray [111, 116, 104, 101, 114])⟩ : ByteArray).size = 5 := rfl

theorem parts_p2 {k : Nat} (hk : 128 < k) (at' : Int) (t v : ByteArray) (i n : Int) (parts : List ByteArray) {a : List Int} (ha : allIn 0 255 a) (hn : a.length ≤ 140737488351232) :
    bedrocklaw02_ShaParts.p2 k (at', t, i, v, parts, n, i, HS a, hl a, ()) = some (.inr (at', t, v, parts, n, i, HS a, hl a, ())) := by
  unfold bedrocklaw02_ShaParts.p2
  simp only [bedrocklaw02_ShaParts.p2.r]
  by_cases h : i = at'
  · subst h
    rw [cond_true' (by simp)]
    show (sha_Hasher_Clone k (HS a) (hl a)).bind _ = _
    rw [clone_eq]
    simp only [Option.bind_some]
    show (sha_Hasher_Sum k (HS a) (hl a)).bind _ = _
    rw [hsum_eq hk ha (by omega)]
    simp only [Option.bind_some, decide_true]
    show (sha_Hasher_Write_2 k _ (HS a) (hl a)).bind _ = _
    rw [write2_eq (by omega) ha (by rw [other_size]; omega) (by rw [other_size]; omega) (by rw [other_size]; omega)]
    rfl
  · rw [cond_false' (by simp [h])]

theorem parts_l3 (k : Nat) (hk : 64 < k) (at' : Int) (v u : ByteArray) (parts : List ByteArray) (n i' : Int) (b0 : List Int × Unit × Int × Unit) (b1 x : List Int) (hv : v.size ≤ 9223372036854775000) {fuel : Nat} (hf : v.size / 64 < fuel) :
    bedrocklaw02_ShaParts.l3 k fuel (at', v, u, (0 : Int), parts, n, i', b0, b1, x, first, ()) = some (at', v, u, parts, n, i', b0, b1, x, stt first (ofBytes v) (v.size / 64), ()) := by
  refine loop_from0 (r := bedrocklaw02_ShaParts.l3.r k) (fun i => (at', v, u, ((64 * i : Nat) : Int), parts, n, i', b0, b1, x, stt first (ofBytes v) i, ())) (v.size / 64) _ ?_ ?_ hf
  · intro i hi kn ke
    simp only [bedrocklaw02_ShaParts.l3.r]
    have hle : 64 * i + 64 ≤ v.size := by omega
    have hlen : (ofBytes (v.extract (64 * i) (64 * i + 64))).length = 64 := by rw [ofBytes_extract, List.length_take, List.length_drop, ofBytes_length]; omega
    rw [i64_in (by omega), bif_yes (by omega), bif_yes (by omega), show (((64 * i : Nat) : Int)).toNat = 64 * i by omega, show (((64 * i : Nat) : Int) + 64).toNat = 64 * i + 64 by omega]
    rw [bif_yes (by rw [hlen]; omega), block_of hle, ref_Step_eq hk (stt_in first_in i) (stt_length first_length i) (allIn_take (allIn_drop (ofBytes_in v) _) _) (by rw [List.length_take, List.length_drop, ofBytes_length]; omega)]
    simp only [Option.bind_some]
    rw [show ((64 * i : Nat) : Int) + 64 = ((64 * (i + 1) : Nat) : Int) by omega]
    rfl
  · intro kn ke
    simp only [bedrocklaw02_ShaParts.l3.r]
    rw [i64_in (by omega), bif_no (by omega)]

theorem left_eq {v : ByteArray} : bytesOf (hl (ofBytes v)) = v.extract (64 * (v.size / 64)) v.size := by
  apply ofBytes_inj
  rw [ofBytes_bytesOf (fun x hx => by have := hl_in (ofBytes_in v) x hx; omega), ofBytes_extract, List.take_of_length_le (by rw [List.length_drop, ofBytes_length]; omega)]
  unfold hl
  rw [ofBytes_length]

theorem parts_l1 (k : Nat) (at' : Int) (parts : List ByteArray) (hb : (parts.map ByteArray.size).sum ≤ 1048576) (hp : parts.length ≤ 1048576) (hk : 1200000 < k) :
    bedrocklaw02_ShaParts.l1 k k (at', ⟨List.toArray []⟩, parts, (parts.length : Int), (0 : Int), HS [], hl [], ()) =
      some (.inr (txt parts parts.length, HS (ofBytes (txt parts parts.length)), hl (ofBytes (txt parts parts.length)), ())) := by
  refine loop_from0 (r := bedrocklaw02_ShaParts.l1.r k) (fun i => (at', txt parts i, parts, (parts.length : Int), (i : Int), HS (ofBytes (txt parts i)), hl (ofBytes (txt parts i)), ())) parts.length _ ?_ ?_ (by omega)
  · intro i hi kn ke
    have h1 := txt_size parts i (by omega)
    have h2 := txt_size parts (i + 1) (by omega)
    have h3 : (txt parts (i + 1)).size = (txt parts i).size + (parts.getD i ByteArray.empty).size := by simp only [txt, ByteArray.size_append]
    have h4 := ofBytes_length (txt parts i)
    simp only [bedrocklaw02_ShaParts.l1.r]
    rw [bif_yes (by omega), bif_yes (by omega), show (i : Int).toNat = i by omega]
    show (bedrocklaw02_ShaParts.p2 k (at', txt parts i, (i : Int), parts.getD i ByteArray.empty, parts, (parts.length : Int), (i : Int), HS (ofBytes (txt parts i)), hl (ofBytes (txt parts i)), ())).bind _ = _
    rw [parts_p2 (by omega) at' _ _ _ _ _ (ofBytes_in _) (by omega)]
    simp only [Option.bind_some]
    show (sha_Hasher_Write_2 k (parts.getD i ByteArray.empty) (HS (ofBytes (txt parts i))) (hl (ofBytes (txt parts i)))).bind _ = _
    rw [write2_eq (by omega) (ofBytes_in _) (by omega) (by omega) (by omega), ← ofBytes_append]
    simp only [Option.bind_some]
    rw [cond_true' (ble_of (by omega))]
    have e1 : txt parts i ++ parts.getD i ByteArray.empty = txt parts (i + 1) := rfl
    rw [e1]
    generalize txt parts (i + 1) = v at *
    show (sha_Hasher_State_2 k (HS (ofBytes v)) (hl (ofBytes v))).bind _ = _
    rw [show sha_Hasher_State_2 k (HS (ofBytes v)) (hl (ofBytes v)) = some (hx (ofBytes v), bytesOf (hl (ofBytes v)), HS (ofBytes v), hl (ofBytes v), ()) from rfl]
    simp only [Option.bind_some]
    rw [ref_First_eq]
    simp only [Option.bind_some]
    show (bedrocklaw02_ShaParts.l3 k k (at', v, bytesOf (hl (ofBytes v)), (0 : Int), parts, (parts.length : Int), (i : Int), HS (ofBytes v), hl (ofBytes v), hx (ofBytes v), first, ())).bind _ = _
    rw [parts_l3 k (by omega) at' v _ parts _ _ _ _ _ (by omega) (by omega)]
    simp only [Option.bind_some]
    show (sha_Hasher_Len_2 k (HS (ofBytes v)) (hl (ofBytes v))).bind _ = _
    rw [show sha_Hasher_Len_2 k (HS (ofBytes v)) (hl (ofBytes v)) = some (((ofBytes v).length : Int), HS (ofBytes v), hl (ofBytes v), ()) from rfl]
    simp only [Option.bind_some]
    have h5 := ofBytes_length v
    rw [u64_in (by omega), h5]
    simp only [bne_self_eq_false, cond_false]
    have e2 : hx (ofBytes v) = stt first (ofBytes v) (v.size / 64) := by unfold hx; rw [h5]
    rw [e2]
    simp only [decide_true, Bool.not_true, cond_false]
    rw [show Int.tdiv (v.size : Int) 64 = ((v.size / 64 : Nat) : Int) by rw [Int.tdiv_eq_ediv_of_nonneg (by omega)]; omega]
    rw [i64_in (n := ((v.size / 64 : Nat) : Int)) (by omega), i64_in (by omega), bif_yes (by omega), show (((v.size / 64 : Nat) : Int) * 64).toNat = 64 * (v.size / 64) by omega, show ((v.size : Nat) : Int).toNat = v.size by omega, ← left_eq, strEq_self]
    simp only [Bool.not_true, cond_false]
    rw [i64_in (by omega)]
    rfl
  · intro kn ke
    simp only [bedrocklaw02_ShaParts.l1.r]
    rw [bif_no (by omega)]

theorem shaParts_true (parts : List ByteArray) (at' : Int) (hb : (parts.map ByteArray.size).sum ≤ 1048576) (hp : parts.length ≤ 1048576) : bedrocklaw02_ShaParts 2000000 parts at' = some (true, ()) := by
  unfold bedrocklaw02_ShaParts bedrocklaw02_ShaParts.c
  generalize hk : (2000000 : Nat) = k
  dsimp only
  have ht := txt_size parts parts.length (Nat.le_refl _)
  have hl := ofBytes_length (txt parts parts.length)
  rw [sha_New_eq]
  simp only [Option.bind_some]
  show (bedrocklaw02_ShaParts.p0 k (parts, at', HS [], ())).bind _ = _
  have h0 : bedrocklaw02_ShaParts.p0 k (parts, at', HS [], ()) = some (.inr (parts, at', HS [], ())) := by
    unfold bedrocklaw02_ShaParts.p0
    simp only [bedrocklaw02_ShaParts.p0.r]
    rw [awake02 (by omega)]
    rfl
  rw [h0]
  simp only [Option.bind_some]
  show (bedrocklaw02_ShaParts.l1 k k (at', ⟨List.toArray []⟩, parts, (parts.length : Int), (0 : Int), HS [], Go.Am.hl [], ())).bind _ = _
  rw [parts_l1 k at' parts hb hp (by omega)]
  simp only [Option.bind_some]
  generalize txt parts parts.length = v at *
  show (sha_Hasher_Sum k (HS (ofBytes v)) (Go.Am.hl (ofBytes v))).bind _ = _
  rw [hsum_eq (by omega) (ofBytes_in v) (by omega)]
  simp only [Option.bind_some]
  rw [ref_Sum_eq (by omega) (by omega) (by omega)]
  simp only [Option.bind_some, decide_true, cond_true]
  show (sha_Hasher_Sum k (HS (ofBytes v)) (Go.Am.hl (ofBytes v))).bind _ = _
  rw [hsum_eq (by omega) (ofBytes_in v) (by omega)]
  simp only [Option.bind_some]
  rw [sha_Sum_eq (by omega) (by omega) (by omega)]
  simp only [Option.bind_some, decide_true]
end Go.Am
