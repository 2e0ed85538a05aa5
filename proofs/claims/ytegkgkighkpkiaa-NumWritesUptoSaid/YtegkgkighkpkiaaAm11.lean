/- A part of a proof: a machine of abstract values that tells what functions of the program compute, and the plain facts on them. -/
import Derived.Test.YtegkgkighkpkiaaAm10
import Derived.KernelRfl
set_option linter.unusedVariables false
set_option linter.unusedSimpArgs false
set_option linter.unnecessarySimpa false
set_option linter.unusedSectionVars false
namespace Go.Am
open Go Go.Proofs
set_option maxRecDepth 100000
/-! 60 bedrock/num.NewWriter · with blocks -/
abbrev num_NewWriter.τ : Type := (((Unit × (Unit × Unit)) × Unit) × (List Int) × Unit)
def num_NewWriter.c (k : Nat) {ρ : Type}  (K : num_NewWriter.τ → Option ρ) : Option ρ :=
  K ((((), ((), ())), ()), ([], ()))
def num_NewWriter (k : Nat)  : Option num_NewWriter.τ := num_NewWriter.c k  some
def num_NewWriter.T : CallT := ⟨[], [], 0⟩
def num_NewWriter.os : List Out := [⟨.ret, [.auto 0], ⟨[.ptr 0 []], [.pair (.pair (.sfp 0 [0] 132) (.pair (.vbs 1) (.dat .unit))) (.dat .unit), .vec (.int .u8)]⟩⟩]
def num_NewWriter.sem (k : Nat) : CallSem := callH num_NewWriter.T num_NewWriter.os fun x => num_NewWriter k 
noncomputable def num_NewWriter.ctx (k : Nat) : Ctx := ⟨Try.prog, gam []⟩
theorem num_NewWriter.gok (k : Nat) : ∀ f, SemOK Try.prog f ((num_NewWriter.ctx k).Γ f) := gam_nil
def num_NewWriter.ann (k : Nat) : Ann := .nil
theorem num_NewWriter.body (k : Nat) : BodyH (num_NewWriter.ctx k) Try.f60 (Func.code Try.f60) (num_NewWriter.ann k) num_NewWriter.T num_NewWriter.os (fun x K => num_NewWriter.c k  K) := by
  intro ρ x K; kernel_rfl
theorem num_NewWriter.sem_ok (k : Nat) : SemOK Try.prog 60 (num_NewWriter.sem k) :=
  callH_ok (C := num_NewWriter.ctx k) (num_NewWriter.gok k) Try.mix (c := Func.code Try.f60) (ann := num_NewWriter.ann k) (T := num_NewWriter.T) (os := num_NewWriter.os) (fun x K => num_NewWriter.c k  K) Try.func60 (by kernel_rfl) (by kernel_rfl) AnnOK.nil (num_NewWriter.body k) (by kernel_rfl) (by kernel_rfl) (by kernel_rfl)

/-! 115 (*strings.Builder).WriteString · with blocks -/
abbrev strings_Builder_WriteString.τ : Type := (Int × ((Unit × (Unit × Unit)) × Unit) × (List Int) × Unit)
def strings_Builder_WriteString.c (k : Nat) {ρ : Type} (s : ByteArray) (b0 : ((Unit × (Unit × Unit)) × Unit)) (b1 : (List Int)) (K : strings_Builder_WriteString.τ → Option ρ) : Option ρ :=
  bif (Nat.ble (((List.length b1) + (List.length (ofBytes s))) * 1) 140737488355328) then (K ((((ByteArray.size s) : Nat) : Int), ((((), ((), ())), ()), ((b1 ++ (ofBytes s)), ())))) else (none)
def strings_Builder_WriteString (k : Nat) (s : ByteArray) (b0 : ((Unit × (Unit × Unit)) × Unit)) (b1 : (List Int)) : Option strings_Builder_WriteString.τ := strings_Builder_WriteString.c k s b0 b1 some
def strings_Builder_WriteString.T : CallT := ⟨[.ptr 0 [0], .dat .str], [.pair (.pair (.sfp 0 [0] 132) (.pair (.vbs 1) (.dat .unit))) (.dat .unit), .vec (.int .u8)], 1⟩
def strings_Builder_WriteString.os : List Out := [⟨.ret, [.freeze (.slot 0), .auto 1], ⟨[.dat (.int .i64), .undef], [.pair (.pair (.sfp 0 [0] 132) (.pair (.vbs 1) (.dat .unit))) (.dat .unit), .vec (.int .u8)]⟩⟩]
def strings_Builder_WriteString.sem (k : Nat) : CallSem := callH strings_Builder_WriteString.T strings_Builder_WriteString.os fun x => strings_Builder_WriteString k x.1 x.2.1 x.2.2.1
noncomputable def strings_Builder_WriteString.ctx (k : Nat) : Ctx := ⟨Try.prog, gam [(120, (ccSem 132 2))]⟩
theorem strings_Builder_WriteString.gok (k : Nat) : ∀ f, SemOK Try.prog f ((strings_Builder_WriteString.ctx k).Γ f) := (gam_cons Bld.copyCheck gam_nil)
def strings_Builder_WriteString.ann (k : Nat) : Ann := .nil
theorem strings_Builder_WriteString.body (k : Nat) : BodyH (strings_Builder_WriteString.ctx k) Try.f115 (Func.code Try.f115) (strings_Builder_WriteString.ann k) strings_Builder_WriteString.T strings_Builder_WriteString.os (fun x K => strings_Builder_WriteString.c k x.1 x.2.1 x.2.2.1 K) := by
  intro ρ x K; kernel_rfl
theorem strings_Builder_WriteString.sem_ok (k : Nat) : SemOK Try.prog 115 (strings_Builder_WriteString.sem k) :=
  callH_ok (C := strings_Builder_WriteString.ctx k) (strings_Builder_WriteString.gok k) Try.mix (c := Func.code Try.f115) (ann := strings_Builder_WriteString.ann k) (T := strings_Builder_WriteString.T) (os := strings_Builder_WriteString.os) (fun x K => strings_Builder_WriteString.c k x.1 x.2.1 x.2.2.1 K) Try.func115 (by kernel_rfl) (by kernel_rfl) AnnOK.nil (strings_Builder_WriteString.body k) (by kernel_rfl) (by kernel_rfl) (by kernel_rfl)

/-! 104 (*bedrock/num.Writer).Bytes · with blocks -/
abbrev num_Writer_Bytes_2.τ : Type := (((Unit × (Unit × Unit)) × Unit) × (List Int) × Unit)
def num_Writer_Bytes_2.c (k : Nat) {ρ : Type} (s : ByteArray) (b0 : ((Unit × (Unit × Unit)) × Unit)) (b1 : (List Int)) (K : num_Writer_Bytes_2.τ → Option ρ) : Option ρ :=
  (strings_Builder_WriteString k s (((), ((), ())), ()) b1).bind fun t0 => K ((((), ((), ())), ()), (t0.2.2.1, ()))
def num_Writer_Bytes_2 (k : Nat) (s : ByteArray) (b0 : ((Unit × (Unit × Unit)) × Unit)) (b1 : (List Int)) : Option num_Writer_Bytes_2.τ := num_Writer_Bytes_2.c k s b0 b1 some
def num_Writer_Bytes_2.T : CallT := ⟨[.ptr 0 [], .dat .str], [.pair (.pair (.sfp 0 [0] 132) (.pair (.vbs 1) (.dat .unit))) (.dat .unit), .vec (.int .u8)], 1⟩
def num_Writer_Bytes_2.os : List Out := [⟨.ret, [.auto 1], ⟨[], [.pair (.pair (.sfp 0 [0] 132) (.pair (.vbs 1) (.dat .unit))) (.dat .unit), .vec (.int .u8)]⟩⟩]
def num_Writer_Bytes_2.sem (k : Nat) : CallSem := callH num_Writer_Bytes_2.T num_Writer_Bytes_2.os fun x => num_Writer_Bytes_2 k x.1 x.2.1 x.2.2.1
noncomputable def num_Writer_Bytes_2.ctx (k : Nat) : Ctx := ⟨Try.prog, gam [(115, (strings_Builder_WriteString.sem k))]⟩
theorem num_Writer_Bytes_2.gok (k : Nat) : ∀ f, SemOK Try.prog f ((num_Writer_Bytes_2.ctx k).Γ f) := (gam_cons (strings_Builder_WriteString.sem_ok k) gam_nil)
def num_Writer_Bytes_2.ann (k : Nat) : Ann := .nil
theorem num_Writer_Bytes_2.body (k : Nat) : BodyH (num_Writer_Bytes_2.ctx k) Try.f104 (Func.code Try.f104) (num_Writer_Bytes_2.ann k) num_Writer_Bytes_2.T num_Writer_Bytes_2.os (fun x K => num_Writer_Bytes_2.c k x.1 x.2.1 x.2.2.1 K) := by
  intro ρ x K; kernel_rfl
theorem num_Writer_Bytes_2.sem_ok (k : Nat) : SemOK Try.prog 104 (num_Writer_Bytes_2.sem k) :=
  callH_ok (C := num_Writer_Bytes_2.ctx k) (num_Writer_Bytes_2.gok k) Try.mix (c := Func.code Try.f104) (ann := num_Writer_Bytes_2.ann k) (T := num_Writer_Bytes_2.T) (os := num_Writer_Bytes_2.os) (fun x K => num_Writer_Bytes_2.c k x.1 x.2.1 x.2.2.1 K) Try.func104 (by kernel_rfl) (by kernel_rfl) AnnOK.nil (num_Writer_Bytes_2.body k) (by kernel_rfl) (by kernel_rfl) (by kernel_rfl)

/-! 98 (*bedrock/num.Writer).Byte · with blocks -/
abbrev num_Writer_Byte_2.τ : Type := (((Unit × (Unit × Unit)) × Unit) × (List Int) × Unit)
def num_Writer_Byte_2.c (k : Nat) {ρ : Type} (b : Int) (b0 : ((Unit × (Unit × Unit)) × Unit)) (b1 : (List Int)) (K : num_Writer_Byte_2.τ → Option ρ) : Option ρ :=
  (num_lay k (IntKind.wrap IntKind.u64 b) (1 : Int)).bind fun t0 => (num_Writer_Bytes_2 k t0.1 (((), ((), ())), ()) b1).bind fun t1 => K ((((), ((), ())), ()), (t1.2.1, ()))
def num_Writer_Byte_2 (k : Nat) (b : Int) (b0 : ((Unit × (Unit × Unit)) × Unit)) (b1 : (List Int)) : Option num_Writer_Byte_2.τ := num_Writer_Byte_2.c k b b0 b1 some
def num_Writer_Byte_2.T : CallT := ⟨[.ptr 0 [], .dat (.int .u8)], [.pair (.pair (.sfp 0 [0] 132) (.pair (.vbs 1) (.dat .unit))) (.dat .unit), .vec (.int .u8)], 1⟩
def num_Writer_Byte_2.os : List Out := [⟨.ret, [.auto 1], ⟨[], [.pair (.pair (.sfp 0 [0] 132) (.pair (.vbs 1) (.dat .unit))) (.dat .unit), .vec (.int .u8)]⟩⟩]
def num_Writer_Byte_2.sem (k : Nat) : CallSem := callH num_Writer_Byte_2.T num_Writer_Byte_2.os fun x => num_Writer_Byte_2 k x.1 x.2.1 x.2.2.1
noncomputable def num_Writer_Byte_2.ctx (k : Nat) : Ctx := ⟨Try.prog, gam [(81, (num_lay.sem k)), (104, (num_Writer_Bytes_2.sem k))]⟩
theorem num_Writer_Byte_2.gok (k : Nat) : ∀ f, SemOK Try.prog f ((num_Writer_Byte_2.ctx k).Γ f) := (gam_cons (num_lay.sem_ok k) (gam_cons (num_Writer_Bytes_2.sem_ok k) gam_nil))
def num_Writer_Byte_2.ann (k : Nat) : Ann := .nil
theorem num_Writer_Byte_2.body (k : Nat) : BodyH (num_Writer_Byte_2.ctx k) Try.f98 (Func.code Try.f98) (num_Writer_Byte_2.ann k) num_Writer_Byte_2.T num_Writer_Byte_2.os (fun x K => num_Writer_Byte_2.c k x.1 x.2.1 x.2.2.1 K) := by
  intro ρ x K; kernel_rfl
theorem num_Writer_Byte_2.sem_ok (k : Nat) : SemOK Try.prog 98 (num_Writer_Byte_2.sem k) :=
  callH_ok (C := num_Writer_Byte_2.ctx k) (num_Writer_Byte_2.gok k) Try.mix (c := Func.code Try.f98) (ann := num_Writer_Byte_2.ann k) (T := num_Writer_Byte_2.T) (os := num_Writer_Byte_2.os) (fun x K => num_Writer_Byte_2.c k x.1 x.2.1 x.2.2.1 K) Try.func98 (by kernel_rfl) (by kernel_rfl) AnnOK.nil (num_Writer_Byte_2.body k) (by kernel_rfl) (by kernel_rfl) (by kernel_rfl)

/-! 99 (*bedrock/num.Writer).U16 · with blocks -/
abbrev num_Writer_U16_2.τ : Type := (((Unit × (Unit × Unit)) × Unit) × (List Int) × Unit)
def num_Writer_U16_2.c (k : Nat) {ρ : Type} (n : Int) (b0 : ((Unit × (Unit × Unit)) × Unit)) (b1 : (List Int)) (K : num_Writer_U16_2.τ → Option ρ) : Option ρ :=
  (num_lay k (IntKind.wrap IntKind.u64 n) (2 : Int)).bind fun t0 => (num_Writer_Bytes_2 k t0.1 (((), ((), ())), ()) b1).bind fun t1 => K ((((), ((), ())), ()), (t1.2.1, ()))
def num_Writer_U16_2 (k : Nat) (n : Int) (b0 : ((Unit × (Unit × Unit)) × Unit)) (b1 : (List Int)) : Option num_Writer_U16_2.τ := num_Writer_U16_2.c k n b0 b1 some
def num_Writer_U16_2.T : CallT := ⟨[.ptr 0 [], .dat (.int .u16)], [.pair (.pair (.sfp 0 [0] 132) (.pair (.vbs 1) (.dat .unit))) (.dat .unit), .vec (.int .u8)], 1⟩
def num_Writer_U16_2.os : List Out := [⟨.ret, [.auto 1], ⟨[], [.pair (.pair (.sfp 0 [0] 132) (.pair (.vbs 1) (.dat .unit))) (.dat .unit), .vec (.int .u8)]⟩⟩]
def num_Writer_U16_2.sem (k : Nat) : CallSem := callH num_Writer_U16_2.T num_Writer_U16_2.os fun x => num_Writer_U16_2 k x.1 x.2.1 x.2.2.1
noncomputable def num_Writer_U16_2.ctx (k : Nat) : Ctx := ⟨Try.prog, gam [(81, (num_lay.sem k)), (104, (num_Writer_Bytes_2.sem k))]⟩
theorem num_Writer_U16_2.gok (k : Nat) : ∀ f, SemOK Try.prog f ((num_Writer_U16_2.ctx k).Γ f) := (gam_cons (num_lay.sem_ok k) (gam_cons (num_Writer_Bytes_2.sem_ok k) gam_nil))
def num_Writer_U16_2.ann (k : Nat) : Ann := .nil
theorem num_Writer_U16_2.body (k : Nat) : BodyH (num_Writer_U16_2.ctx k) Try.f99 (Func.code Try.f99) (num_Writer_U16_2.ann k) num_Writer_U16_2.T num_Writer_U16_2.os (fun x K => num_Writer_U16_2.c k x.1 x.2.1 x.2.2.1 K) := by
  intro ρ x K; kernel_rfl
theorem num_Writer_U16_2.sem_ok (k : Nat) : SemOK Try.prog 99 (num_Writer_U16_2.sem k) :=
  callH_ok (C := num_Writer_U16_2.ctx k) (num_Writer_U16_2.gok k) Try.mix (c := Func.code Try.f99) (ann := num_Writer_U16_2.ann k) (T := num_Writer_U16_2.T) (os := num_Writer_U16_2.os) (fun x K => num_Writer_U16_2.c k x.1 x.2.1 x.2.2.1 K) Try.func99 (by kernel_rfl) (by kernel_rfl) AnnOK.nil (num_Writer_U16_2.body k) (by kernel_rfl) (by kernel_rfl) (by kernel_rfl)

/-! 100 (*bedrock/num.Writer).U32 · with blocks -/
abbrev num_Writer_U32_2.τ : Type := (((Unit × (Unit × Unit)) × Unit) × (List Int) × Unit)
def num_Writer_U32_2.c (k : Nat) {ρ : Type} (n : Int) (b0 : ((Unit × (Unit × Unit)) × Unit)) (b1 : (List Int)) (K : num_Writer_U32_2.τ → Option ρ) : Option ρ :=
  (num_lay k (IntKind.wrap IntKind.u64 n) (4 : Int)).bind fun t0 => (num_Writer_Bytes_2 k t0.1 (((), ((), ())), ()) b1).bind fun t1 => K ((((), ((), ())), ()), (t1.2.1, ()))
def num_Writer_U32_2 (k : Nat) (n : Int) (b0 : ((Unit × (Unit × Unit)) × Unit)) (b1 : (List Int)) : Option num_Writer_U32_2.τ := num_Writer_U32_2.c k n b0 b1 some
def num_Writer_U32_2.T : CallT := ⟨[.ptr 0 [], .dat (.int .u32)], [.pair (.pair (.sfp 0 [0] 132) (.pair (.vbs 1) (.dat .unit))) (.dat .unit), .vec (.int .u8)], 1⟩
def num_Writer_U32_2.os : List Out := [⟨.ret, [.auto 1], ⟨[], [.pair (.pair (.sfp 0 [0] 132) (.pair (.vbs 1) (.dat .unit))) (.dat .unit), .vec (.int .u8)]⟩⟩]
def num_Writer_U32_2.sem (k : Nat) : CallSem := callH num_Writer_U32_2.T num_Writer_U32_2.os fun x => num_Writer_U32_2 k x.1 x.2.1 x.2.2.1
noncomputable def num_Writer_U32_2.ctx (k : Nat) : Ctx := ⟨Try.prog, gam [(81, (num_lay.sem k)), (104, (num_Writer_Bytes_2.sem k))]⟩
theorem num_Writer_U32_2.gok (k : Nat) : ∀ f, SemOK Try.prog f ((num_Writer_U32_2.ctx k).Γ f) := (gam_cons (num_lay.sem_ok k) (gam_cons (num_Writer_Bytes_2.sem_ok k) gam_nil))
def num_Writer_U32_2.ann (k : Nat) : Ann := .nil
theorem num_Writer_U32_2.body (k : Nat) : BodyH (num_Writer_U32_2.ctx k) Try.f100 (Func.code Try.f100) (num_Writer_U32_2.ann k) num_Writer_U32_2.T num_Writer_U32_2.os (fun x K => num_Writer_U32_2.c k x.1 x.2.1 x.2.2.1 K) := by
  intro ρ x K; kernel_rfl
theorem num_Writer_U32_2.sem_ok (k : Nat) : SemOK Try.prog 100 (num_Writer_U32_2.sem k) :=
  callH_ok (C := num_Writer_U32_2.ctx k) (num_Writer_U32_2.gok k) Try.mix (c := Func.code Try.f100) (ann := num_Writer_U32_2.ann k) (T := num_Writer_U32_2.T) (os := num_Writer_U32_2.os) (fun x K => num_Writer_U32_2.c k x.1 x.2.1 x.2.2.1 K) Try.func100 (by kernel_rfl) (by kernel_rfl) AnnOK.nil (num_Writer_U32_2.body k) (by kernel_rfl) (by kernel_rfl) (by kernel_rfl)

/-! 101 (*bedrock/num.Writer).U64 · with blocks -/
abbrev num_Writer_U64_2.τ : Type := (((Unit × (Unit × Unit)) × Unit) × (List Int) × Unit)
def num_Writer_U64_2.c (k : Nat) {ρ : Type} (n : Int) (b0 : ((Unit × (Unit × Unit)) × Unit)) (b1 : (List Int)) (K : num_Writer_U64_2.τ → Option ρ) : Option ρ :=
  (num_lay k n (8 : Int)).bind fun t0 => (num_Writer_Bytes_2 k t0.1 (((), ((), ())), ()) b1).bind fun t1 => K ((((), ((), ())), ()), (t1.2.1, ()))
def num_Writer_U64_2 (k : Nat) (n : Int) (b0 : ((Unit × (Unit × Unit)) × Unit)) (b1 : (List Int)) : Option num_Writer_U64_2.τ := num_Writer_U64_2.c k n b0 b1 some
def num_Writer_U64_2.T : CallT := ⟨[.ptr 0 [], .dat (.int .u64)], [.pair (.pair (.sfp 0 [0] 132) (.pair (.vbs 1) (.dat .unit))) (.dat .unit), .vec (.int .u8)], 1⟩
def num_Writer_U64_2.os : List Out := [⟨.ret, [.auto 1], ⟨[], [.pair (.pair (.sfp 0 [0] 132) (.pair (.vbs 1) (.dat .unit))) (.dat .unit), .vec (.int .u8)]⟩⟩]
def num_Writer_U64_2.sem (k : Nat) : CallSem := callH num_Writer_U64_2.T num_Writer_U64_2.os fun x => num_Writer_U64_2 k x.1 x.2.1 x.2.2.1
noncomputable def num_Writer_U64_2.ctx (k : Nat) : Ctx := ⟨Try.prog, gam [(81, (num_lay.sem k)), (104, (num_Writer_Bytes_2.sem k))]⟩
theorem num_Writer_U64_2.gok (k : Nat) : ∀ f, SemOK Try.prog f ((num_Writer_U64_2.ctx k).Γ f) := (gam_cons (num_lay.sem_ok k) (gam_cons (num_Writer_Bytes_2.sem_ok k) gam_nil))
def num_Writer_U64_2.ann (k : Nat) : Ann := .nil
theorem num_Writer_U64_2.body (k : Nat) : BodyH (num_Writer_U64_2.ctx k) Try.f101 (Func.code Try.f101) (num_Writer_U64_2.ann k) num_Writer_U64_2.T num_Writer_U64_2.os (fun x K => num_Writer_U64_2.c k x.1 x.2.1 x.2.2.1 K) := by
  intro ρ x K; kernel_rfl
theorem num_Writer_U64_2.sem_ok (k : Nat) : SemOK Try.prog 101 (num_Writer_U64_2.sem k) :=
  callH_ok (C := num_Writer_U64_2.ctx k) (num_Writer_U64_2.gok k) Try.mix (c := Func.code Try.f101) (ann := num_Writer_U64_2.ann k) (T := num_Writer_U64_2.T) (os := num_Writer_U64_2.os) (fun x K => num_Writer_U64_2.c k x.1 x.2.1 x.2.2.1 K) Try.func101 (by kernel_rfl) (by kernel_rfl) AnnOK.nil (num_Writer_U64_2.body k) (by kernel_rfl) (by kernel_rfl) (by kernel_rfl)

/-! 102 (*bedrock/num.Writer).Big16 · with blocks -/
abbrev num_Writer_Big16_2.τ : Type := (((Unit × (Unit × Unit)) × Unit) × (List Int) × Unit)
def num_Writer_Big16_2.c (k : Nat) {ρ : Type} (n : Int) (b0 : ((Unit × (Unit × Unit)) × Unit)) (b1 : (List Int)) (K : num_Writer_Big16_2.τ → Option ρ) : Option ρ :=
  let v0 : Int := (shlOp IntKind.u16 n (8 : Int))
  let v1 : Int := (shrOp IntKind.u16 n (8 : Int))
  (num_Writer_U16_2 k (bitsOp BinOp.or IntKind.u16 v0 v1) (((), ((), ())), ()) b1).bind fun t2 => K ((((), ((), ())), ()), (t2.2.1, ()))
def num_Writer_Big16_2 (k : Nat) (n : Int) (b0 : ((Unit × (Unit × Unit)) × Unit)) (b1 : (List Int)) : Option num_Writer_Big16_2.τ := num_Writer_Big16_2.c k n b0 b1 some
def num_Writer_Big16_2.T : CallT := ⟨[.ptr 0 [], .dat (.int .u16)], [.pair (.pair (.sfp 0 [0] 132) (.pair (.vbs 1) (.dat .unit))) (.dat .unit), .vec (.int .u8)], 1⟩
def num_Writer_Big16_2.os : List Out := [⟨.ret, [.auto 1], ⟨[], [.pair (.pair (.sfp 0 [0] 132) (.pair (.vbs 1) (.dat .unit))) (.dat .unit), .vec (.int .u8)]⟩⟩]
def num_Writer_Big16_2.sem (k : Nat) : CallSem := callH num_Writer_Big16_2.T num_Writer_Big16_2.os fun x => num_Writer_Big16_2 k x.1 x.2.1 x.2.2.1
noncomputable def num_Writer_Big16_2.ctx (k : Nat) : Ctx := ⟨Try.prog, gam [(99, (num_Writer_U16_2.sem k))]⟩
theorem num_Writer_Big16_2.gok (k : Nat) : ∀ f, SemOK Try.prog f ((num_Writer_Big16_2.ctx k).Γ f) := (gam_cons (num_Writer_U16_2.sem_ok k) gam_nil)
def num_Writer_Big16_2.ann (k : Nat) : Ann := .nil
theorem num_Writer_Big16_2.body (k : Nat) : BodyH (num_Writer_Big16_2.ctx k) Try.f102 (Func.code Try.f102) (num_Writer_Big16_2.ann k) num_Writer_Big16_2.T num_Writer_Big16_2.os (fun x K => num_Writer_Big16_2.c k x.1 x.2.1 x.2.2.1 K) := by
  intro ρ x K; kernel_rfl
theorem num_Writer_Big16_2.sem_ok (k : Nat) : SemOK Try.prog 102 (num_Writer_Big16_2.sem k) :=
  callH_ok (C := num_Writer_Big16_2.ctx k) (num_Writer_Big16_2.gok k) Try.mix (c := Func.code Try.f102) (ann := num_Writer_Big16_2.ann k) (T := num_Writer_Big16_2.T) (os := num_Writer_Big16_2.os) (fun x K => num_Writer_Big16_2.c k x.1 x.2.1 x.2.2.1 K) Try.func102 (by kernel_rfl) (by kernel_rfl) AnnOK.nil (num_Writer_Big16_2.body k) (by kernel_rfl) (by kernel_rfl) (by kernel_rfl)

/-! 103 (*bedrock/num.Writer).Count · with blocks -/
abbrev num_Writer_Count_2.τ : Type := (((Unit × (Unit × Unit)) × Unit) × (List Int) × Unit)
def num_Writer_Count_2.c (k : Nat) {ρ : Type} (n : Int) (b0 : ((Unit × (Unit × Unit)) × Unit)) (b1 : (List Int)) (K : num_Writer_Count_2.τ → Option ρ) : Option ρ :=
  (num_Count k n).bind fun t0 => (num_Writer_Bytes_2 k t0.1 (((), ((), ())), ()) b1).bind fun t1 => K ((((), ((), ())), ()), (t1.2.1, ()))
def num_Writer_Count_2 (k : Nat) (n : Int) (b0 : ((Unit × (Unit × Unit)) × Unit)) (b1 : (List Int)) : Option num_Writer_Count_2.τ := num_Writer_Count_2.c k n b0 b1 some
def num_Writer_Count_2.T : CallT := ⟨[.ptr 0 [], .dat (.int .u64)], [.pair (.pair (.sfp 0 [0] 132) (.pair (.vbs 1) (.dat .unit))) (.dat .unit), .vec (.int .u8)], 1⟩
def num_Writer_Count_2.os : List Out := [⟨.ret, [.auto 1], ⟨[], [.pair (.pair (.sfp 0 [0] 132) (.pair (.vbs 1) (.dat .unit))) (.dat .unit), .vec (.int .u8)]⟩⟩]
def num_Writer_Count_2.sem (k : Nat) : CallSem := callH num_Writer_Count_2.T num_Writer_Count_2.os fun x => num_Writer_Count_2 k x.1 x.2.1 x.2.2.1
noncomputable def num_Writer_Count_2.ctx (k : Nat) : Ctx := ⟨Try.prog, gam [(19, (num_Count.sem k)), (104, (num_Writer_Bytes_2.sem k))]⟩
theorem num_Writer_Count_2.gok (k : Nat) : ∀ f, SemOK Try.prog f ((num_Writer_Count_2.ctx k).Γ f) := (gam_cons (num_Count.sem_ok k) (gam_cons (num_Writer_Bytes_2.sem_ok k) gam_nil))
def num_Writer_Count_2.ann (k : Nat) : Ann := .nil
theorem num_Writer_Count_2.body (k : Nat) : BodyH (num_Writer_Count_2.ctx k) Try.f103 (Func.code Try.f103) (num_Writer_Count_2.ann k) num_Writer_Count_2.T num_Writer_Count_2.os (fun x K => num_Writer_Count_2.c k x.1 x.2.1 x.2.2.1 K) := by
  intro ρ x K; kernel_rfl
theorem num_Writer_Count_2.sem_ok (k : Nat) : SemOK Try.prog 103 (num_Writer_Count_2.sem k) :=
  callH_ok (C := num_Writer_Count_2.ctx k) (num_Writer_Count_2.gok k) Try.mix (c := Func.code Try.f103) (ann := num_Writer_Count_2.ann k) (T := num_Writer_Count_2.T) (os := num_Writer_Count_2.os) (fun x K => num_Writer_Count_2.c k x.1 x.2.1 x.2.2.1 K) Try.func103 (by kernel_rfl) (by kernel_rfl) AnnOK.nil (num_Writer_Count_2.body k) (by kernel_rfl) (by kernel_rfl) (by kernel_rfl)

/-! 105 (*bedrock/num.Writer).String · with blocks -/
abbrev num_Writer_String_2.τ : Type := (((Unit × (Unit × Unit)) × Unit) × (List Int) × Unit)
def num_Writer_String_2.c (k : Nat) {ρ : Type} (s : ByteArray) (b0 : ((Unit × (Unit × Unit)) × Unit)) (b1 : (List Int)) (K : num_Writer_String_2.τ → Option ρ) : Option ρ :=
  (num_Writer_Count_2 k (IntKind.wrap IntKind.u64 (((ByteArray.size s) : Nat) : Int)) (((), ((), ())), ()) b1).bind fun t0 => (num_Writer_Bytes_2 k s (((), ((), ())), ()) t0.2.1).bind fun t1 => K ((((), ((), ())), ()), (t1.2.1, ()))
def num_Writer_String_2 (k : Nat) (s : ByteArray) (b0 : ((Unit × (Unit × Unit)) × Unit)) (b1 : (List Int)) : Option num_Writer_String_2.τ := num_Writer_String_2.c k s b0 b1 some
def num_Writer_String_2.T : CallT := ⟨[.ptr 0 [], .dat .str], [.pair (.pair (.sfp 0 [0] 132) (.pair (.vbs 1) (.dat .unit))) (.dat .unit), .vec (.int .u8)], 1⟩
def num_Writer_String_2.os : List Out := [⟨.ret, [.auto 1], ⟨[], [.pair (.pair (.sfp 0 [0] 132) (.pair (.vbs 1) (.dat .unit))) (.dat .unit), .vec (.int .u8)]⟩⟩]
def num_Writer_String_2.sem (k : Nat) : CallSem := callH num_Writer_String_2.T num_Writer_String_2.os fun x => num_Writer_String_2 k x.1 x.2.1 x.2.2.1
noncomputable def num_Writer_String_2.ctx (k : Nat) : Ctx := ⟨Try.prog, gam [(103, (num_Writer_Count_2.sem k)), (104, (num_Writer_Bytes_2.sem k))]⟩
theorem num_Writer_String_2.gok (k : Nat) : ∀ f, SemOK Try.prog f ((num_Writer_String_2.ctx k).Γ f) := (gam_cons (num_Writer_Count_2.sem_ok k) (gam_cons (num_Writer_Bytes_2.sem_ok k) gam_nil))
def num_Writer_String_2.ann (k : Nat) : Ann := .nil
theorem num_Writer_String_2.body (k : Nat) : BodyH (num_Writer_String_2.ctx k) Try.f105 (Func.code Try.f105) (num_Writer_String_2.ann k) num_Writer_String_2.T num_Writer_String_2.os (fun x K => num_Writer_String_2.c k x.1 x.2.1 x.2.2.1 K) := by
  intro ρ x K; kernel_rfl
theorem num_Writer_String_2.sem_ok (k : Nat) : SemOK Try.prog 105 (num_Writer_String_2.sem k) :=
  callH_ok (C := num_Writer_String_2.ctx k) (num_Writer_String_2.gok k) Try.mix (c := Func.code Try.f105) (ann := num_Writer_String_2.ann k) (T := num_Writer_String_2.T) (os := num_Writer_String_2.os) (fun x K => num_Writer_String_2.c k x.1 x.2.1 x.2.2.1 K) Try.func105 (by kernel_rfl) (by kernel_rfl) AnnOK.nil (num_Writer_String_2.body k) (by kernel_rfl) (by kernel_rfl) (by kernel_rfl)

/-! 106 (*bedrock/num.Writer).Hash · with blocks -/
abbrev num_Writer_Hash_2.τ : Type := (((Unit × (Unit × Unit)) × Unit) × (List Int) × Unit)
def num_Writer_Hash_2.c (k : Nat) {ρ : Type} (h : (List Int)) (b0 : ((Unit × (Unit × Unit)) × Unit)) (b1 : (List Int)) (K : num_Writer_Hash_2.τ → Option ρ) : Option ρ :=
  let v0 : ByteArray := (bytesOf (List.take 32 (List.drop 0 h)))
  (num_Writer_Bytes_2 k v0 (((), ((), ())), ()) b1).bind fun t1 => K ((((), ((), ())), ()), (t1.2.1, ()))
def num_Writer_Hash_2 (k : Nat) (h : (List Int)) (b0 : ((Unit × (Unit × Unit)) × Unit)) (b1 : (List Int)) : Option num_Writer_Hash_2.τ := num_Writer_Hash_2.c k h b0 b1 some
def num_Writer_Hash_2.T : CallT := ⟨[.ptr 0 [], .dat (.arr 32 (.int .u8))], [.pair (.pair (.sfp 0 [0] 132) (.pair (.vbs 1) (.dat .unit))) (.dat .unit), .vec (.int .u8)], 1⟩
def num_Writer_Hash_2.os : List Out := [⟨.ret, [.auto 1], ⟨[], [.pair (.pair (.sfp 0 [0] 132) (.pair (.vbs 1) (.dat .unit))) (.dat .unit), .vec (.int .u8)]⟩⟩]
def num_Writer_Hash_2.sem (k : Nat) : CallSem := callH num_Writer_Hash_2.T num_Writer_Hash_2.os fun x => num_Writer_Hash_2 k x.1 x.2.1 x.2.2.1
noncomputable def num_Writer_Hash_2.ctx (k : Nat) : Ctx := ⟨Try.prog, gam [(104, (num_Writer_Bytes_2.sem k))]⟩
theorem num_Writer_Hash_2.gok (k : Nat) : ∀ f, SemOK Try.prog f ((num_Writer_Hash_2.ctx k).Γ f) := (gam_cons (num_Writer_Bytes_2.sem_ok k) gam_nil)
def num_Writer_Hash_2.ann (k : Nat) : Ann := .nil
theorem num_Writer_Hash_2.body (k : Nat) : BodyH (num_Writer_Hash_2.ctx k) Try.f106 (Func.code Try.f106) (num_Writer_Hash_2.ann k) num_Writer_Hash_2.T num_Writer_Hash_2.os (fun x K => num_Writer_Hash_2.c k x.1 x.2.1 x.2.2.1 K) := by
  intro ρ x K; kernel_rfl
theorem num_Writer_Hash_2.sem_ok (k : Nat) : SemOK Try.prog 106 (num_Writer_Hash_2.sem k) :=
  callH_ok (C := num_Writer_Hash_2.ctx k) (num_Writer_Hash_2.gok k) Try.mix (c := Func.code Try.f106) (ann := num_Writer_Hash_2.ann k) (T := num_Writer_Hash_2.T) (os := num_Writer_Hash_2.os) (fun x K => num_Writer_Hash_2.c k x.1 x.2.1 x.2.2.1 K) Try.func106 (by kernel_rfl) (by kernel_rfl) AnnOK.nil (num_Writer_Hash_2.body k) (by kernel_rfl) (by kernel_rfl) (by kernel_rfl)

/-! 107 (*bedrock/num.Writer).Bool · with blocks -/
abbrev num_Writer_Bool_2.τ : Type := (((Unit × (Unit × Unit)) × Unit) × (List Int) × Unit)
def num_Writer_Bool_2.c (k : Nat) {ρ : Type} (b : Bool) (b0 : ((Unit × (Unit × Unit)) × Unit)) (b1 : (List Int)) (K : num_Writer_Bool_2.τ → Option ρ) : Option ρ :=
  bif b then ((num_Writer_Byte_2 k (1 : Int) (((), ((), ())), ()) b1).bind fun t0 => K ((((), ((), ())), ()), (t0.2.1, ()))) else ((num_Writer_Byte_2 k (0 : Int) (((), ((), ())), ()) b1).bind fun t1 => K ((((), ((), ())), ()), (t1.2.1, ())))
def num_Writer_Bool_2 (k : Nat) (b : Bool) (b0 : ((Unit × (Unit × Unit)) × Unit)) (b1 : (List Int)) : Option num_Writer_Bool_2.τ := num_Writer_Bool_2.c k b b0 b1 some
def num_Writer_Bool_2.T : CallT := ⟨[.ptr 0 [], .dat .bool], [.pair (.pair (.sfp 0 [0] 132) (.pair (.vbs 1) (.dat .unit))) (.dat .unit), .vec (.int .u8)], 1⟩
def num_Writer_Bool_2.os : List Out := [⟨.ret, [.auto 1], ⟨[], [.pair (.pair (.sfp 0 [0] 132) (.pair (.vbs 1) (.dat .unit))) (.dat .unit), .vec (.int .u8)]⟩⟩]
def num_Writer_Bool_2.sem (k : Nat) : CallSem := callH num_Writer_Bool_2.T num_Writer_Bool_2.os fun x => num_Writer_Bool_2 k x.1 x.2.1 x.2.2.1
noncomputable def num_Writer_Bool_2.ctx (k : Nat) : Ctx := ⟨Try.prog, gam [(98, (num_Writer_Byte_2.sem k))]⟩
theorem num_Writer_Bool_2.gok (k : Nat) : ∀ f, SemOK Try.prog f ((num_Writer_Bool_2.ctx k).Γ f) := (gam_cons (num_Writer_Byte_2.sem_ok k) gam_nil)
def num_Writer_Bool_2.ann (k : Nat) : Ann := .nil
theorem num_Writer_Bool_2.body (k : Nat) : BodyH (num_Writer_Bool_2.ctx k) Try.f107 (Func.code Try.f107) (num_Writer_Bool_2.ann k) num_Writer_Bool_2.T num_Writer_Bool_2.os (fun x K => num_Writer_Bool_2.c k x.1 x.2.1 x.2.2.1 K) := by
  intro ρ x K; kernel_rfl
theorem num_Writer_Bool_2.sem_ok (k : Nat) : SemOK Try.prog 107 (num_Writer_Bool_2.sem k) :=
  callH_ok (C := num_Writer_Bool_2.ctx k) (num_Writer_Bool_2.gok k) Try.mix (c := Func.code Try.f107) (ann := num_Writer_Bool_2.ann k) (T := num_Writer_Bool_2.T) (os := num_Writer_Bool_2.os) (fun x K => num_Writer_Bool_2.c k x.1 x.2.1 x.2.2.1 K) Try.func107 (by kernel_rfl) (by kernel_rfl) AnnOK.nil (num_Writer_Bool_2.body k) (by kernel_rfl) (by kernel_rfl) (by kernel_rfl)

/-! 61 bedrock/bedrocklaw01.put · with blocks -/
abbrev bedrocklaw01_put_2.τ : Type := (ByteArray × ((Unit × (Unit × Unit)) × Unit) × (List Int) × Unit)
def bedrocklaw01_put_2.c (k : Nat) {ρ : Type} (a : (Int × (Int × (Int × (ByteArray × Unit))))) (b0 : ((Unit × (Unit × Unit)) × Unit)) (b1 : (List Int)) (K : bedrocklaw01_put_2.τ → Option ρ) : Option ρ :=
  let v0 : Int := a.2.1
  let v1 : List Int := (List.set (List.set (List.replicate 32 (0 : Int)) 0 (IntKind.wrap IntKind.u8 v0)) 1 (7 : Int))
  let v2 : Int := a.1
  bif (v2 == (0 : Int)) then (let v3 : Int := a.2.2.1
  (num_Writer_Byte_2 k (IntKind.wrap IntKind.u8 v3) (((), ((), ())), ()) b1).bind fun t4 => let v5 : Int := a.2.2.1
  (bedrockref01_Low k v5 (1 : Int)).bind fun t6 => K (t6.1, ((((), ((), ())), ()), (t4.2.1, ())))) else (bif (v2 == (1 : Int)) then (let v7 : Int := a.2.2.1
  (num_Writer_U16_2 k (IntKind.wrap IntKind.u16 v7) (((), ((), ())), ()) b1).bind fun t8 => let v9 : Int := a.2.2.1
  (bedrockref01_Low k v9 (2 : Int)).bind fun t10 => K (t10.1, ((((), ((), ())), ()), (t8.2.1, ())))) else (bif (v2 == (2 : Int)) then (let v11 : Int := a.2.2.1
  (num_Writer_U32_2 k (IntKind.wrap IntKind.u32 v11) (((), ((), ())), ()) b1).bind fun t12 => let v13 : Int := a.2.2.1
  (bedrockref01_Low k v13 (4 : Int)).bind fun t14 => K (t14.1, ((((), ((), ())), ()), (t12.2.1, ())))) else (bif (v2 == (3 : Int)) then (let v15 : Int := a.2.2.1
  (num_Writer_U64_2 k v15 (((), ((), ())), ()) b1).bind fun t16 => let v17 : Int := a.2.2.1
  (bedrockref01_Low k v17 (8 : Int)).bind fun t18 => K (t18.1, ((((), ((), ())), ()), (t16.2.1, ())))) else (bif (v2 == (4 : Int)) then (let v19 : Int := a.2.2.1
  (num_Writer_Big16_2 k (IntKind.wrap IntKind.u16 v19) (((), ((), ())), ()) b1).bind fun t20 => let v21 : Int := a.2.2.1
  (bedrockref01_Low k v21 (2 : Int)).bind fun t22 => (bedrockref01_Turned k t22.1).bind fun t23 => K (t23.1, ((((), ((), ())), ()), (t20.2.1, ())))) else (bif (v2 == (5 : Int)) then (let v24 : Int := a.2.2.1
  (num_Writer_Count_2 k v24 (((), ((), ())), ()) b1).bind fun t25 => let v26 : Int := a.2.2.1
  (bedrockref01_Count k v26).bind fun t27 => K (t27.1, ((((), ((), ())), ()), (t25.2.1, ())))) else (bif (v2 == (6 : Int)) then (let v28 : ByteArray := a.2.2.2.1
  (num_Writer_Bytes_2 k v28 (((), ((), ())), ()) b1).bind fun t29 => let v30 : ByteArray := a.2.2.2.1
  K (v30, ((((), ((), ())), ()), (t29.2.1, ())))) else (bif (v2 == (7 : Int)) then (let v31 : ByteArray := a.2.2.2.1
  (num_Writer_String_2 k v31 (((), ((), ())), ()) b1).bind fun t32 => let v33 : ByteArray := a.2.2.2.1
  (bedrockref01_Count k (IntKind.wrap IntKind.u64 (((ByteArray.size v33) : Nat) : Int))).bind fun t34 => let v35 : ByteArray := a.2.2.2.1
  bif (Nat.ble ((ByteArray.size t34.1) + (ByteArray.size v35)) 9223372036854775807) then (let v36 : ByteArray := (t34.1 ++ v35)
  K (v36, ((((), ((), ())), ()), (t32.2.1, ())))) else (none)) else (bif (v2 == (8 : Int)) then ((num_Writer_Hash_2 k v1 (((), ((), ())), ()) b1).bind fun t37 => let v38 : ByteArray := (bytesOf (List.take 32 (List.drop 0 v1)))
  K (v38, ((((), ((), ())), ()), (t37.2.1, ())))) else (let v39 : Int := a.2.2.1
  (num_Writer_Bool_2 k ((Int.tmod v39 (2 : Int)) == (1 : Int)) (((), ((), ())), ()) b1).bind fun t40 => let v41 : Int := a.2.2.1
  (bedrockref01_Low k (Int.tmod v41 (2 : Int)) (1 : Int)).bind fun t42 => K (t42.1, ((((), ((), ())), ()), (t40.2.1, ()))))))))))))
def bedrocklaw01_put_2 (k : Nat) (a : (Int × (Int × (Int × (ByteArray × Unit))))) (b0 : ((Unit × (Unit × Unit)) × Unit)) (b1 : (List Int)) : Option bedrocklaw01_put_2.τ := bedrocklaw01_put_2.c k a b0 b1 some
def bedrocklaw01_put_2.T : CallT := ⟨[.ptr 0 [], .dat (.pair (.int .i64) (.pair (.int .i64) (.pair (.int .u64) (.pair .str .unit))))], [.pair (.pair (.sfp 0 [0] 132) (.pair (.vbs 1) (.dat .unit))) (.dat .unit), .vec (.int .u8)], 1⟩
def bedrocklaw01_put_2.os : List Out := [⟨.ret, [.freeze (.slot 0), .auto 1], ⟨[.dat .str], [.pair (.pair (.sfp 0 [0] 132) (.pair (.vbs 1) (.dat .unit))) (.dat .unit), .vec (.int .u8)]⟩⟩]
def bedrocklaw01_put_2.sem (k : Nat) : CallSem := callH bedrocklaw01_put_2.T bedrocklaw01_put_2.os fun x => bedrocklaw01_put_2 k x.1 x.2.1 x.2.2.1
noncomputable def bedrocklaw01_put_2.ctx (k : Nat) : Ctx := ⟨Try.prog, gam [(98, (num_Writer_Byte_2.sem k)), (80, (bedrockref01_Low.sem k)), (99, (num_Writer_U16_2.sem k)), (100, (num_Writer_U32_2.sem k)), (101, (num_Writer_U64_2.sem k)), (102, (num_Writer_Big16_2.sem k)), (45, (bedrockref01_Turned.sem k)), (103, (num_Writer_Count_2.sem k)), (17, (bedrockref01_Count.sem k)), (104, (num_Writer_Bytes_2.sem k)), (105, (num_Writer_String_2.sem k)), (106, (num_Writer_Hash_2.sem k)), (107, (num_Writer_Bool_2.sem k))]⟩
theorem bedrocklaw01_put_2.gok (k : Nat) : ∀ f, SemOK Try.prog f ((bedrocklaw01_put_2.ctx k).Γ f) := (gam_cons (num_Writer_Byte_2.sem_ok k) (gam_cons (bedrockref01_Low.sem_ok k) (gam_cons (num_Writer_U16_2.sem_ok k) (gam_cons (num_Writer_U32_2.sem_ok k) (gam_cons (num_Writer_U64_2.sem_ok k) (gam_cons (num_Writer_Big16_2.sem_ok k) (gam_cons (bedrockref01_Turned.sem_ok k) (gam_cons (num_Writer_Count_2.sem_ok k) (gam_cons (bedrockref01_Count.sem_ok k) (gam_cons (num_Writer_Bytes_2.sem_ok k) (gam_cons (num_Writer_String_2.sem_ok k) (gam_cons (num_Writer_Hash_2.sem_ok k) (gam_cons (num_Writer_Bool_2.sem_ok k) gam_nil)))))))))))))
def bedrocklaw01_put_2.ann (k : Nat) : Ann := .nil
theorem bedrocklaw01_put_2.body (k : Nat) : BodyH (bedrocklaw01_put_2.ctx k) Try.f61 (Func.code Try.f61) (bedrocklaw01_put_2.ann k) bedrocklaw01_put_2.T bedrocklaw01_put_2.os (fun x K => bedrocklaw01_put_2.c k x.1 x.2.1 x.2.2.1 K) := by
  intro ρ x K; kernel_rfl
theorem bedrocklaw01_put_2.sem_ok (k : Nat) : SemOK Try.prog 61 (bedrocklaw01_put_2.sem k) :=
  callH_ok (C := bedrocklaw01_put_2.ctx k) (bedrocklaw01_put_2.gok k) Try.mix (c := Func.code Try.f61) (ann := bedrocklaw01_put_2.ann k) (T := bedrocklaw01_put_2.T) (os := bedrocklaw01_put_2.os) (fun x K => bedrocklaw01_put_2.c k x.1 x.2.1 x.2.2.1 K) Try.func61 (by kernel_rfl) (by kernel_rfl) AnnOK.nil (bedrocklaw01_put_2.body k) (by kernel_rfl) (by kernel_rfl) (by kernel_rfl)

/-! 108 (*strings.Builder).Len · with blocks -/
abbrev strings_Builder_Len.τ : Type := (Int × ((Unit × (Unit × Unit)) × Unit) × (List Int) × Unit)
def strings_Builder_Len.c (k : Nat) {ρ : Type} (b0 : ((Unit × (Unit × Unit)) × Unit)) (b1 : (List Int)) (K : strings_Builder_Len.τ → Option ρ) : Option ρ :=
  let v0 : Int := (((List.length b1) : Nat) : Int)
  K (v0, ((((), ((), ())), ()), (b1, ())))
def strings_Builder_Len (k : Nat) (b0 : ((Unit × (Unit × Unit)) × Unit)) (b1 : (List Int)) : Option strings_Builder_Len.τ := strings_Builder_Len.c k b0 b1 some
def strings_Builder_Len.T : CallT := ⟨[.ptr 0 [0]], [.pair (.pair (.sfp 0 [0] 132) (.pair (.vbs 1) (.dat .unit))) (.dat .unit), .vec (.int .u8)], 1⟩
def strings_Builder_Len.os : List Out := [⟨.ret, [.freeze (.slot 0), .auto 1], ⟨[.dat (.int .i64)], [.pair (.pair (.sfp 0 [0] 132) (.pair (.vbs 1) (.dat .unit))) (.dat .unit), .vec (.int .u8)]⟩⟩]
def strings_Builder_Len.sem (k : Nat) : CallSem := callH strings_Builder_Len.T strings_Builder_Len.os fun x => strings_Builder_Len k x.1 x.2.1
noncomputable def strings_Builder_Len.ctx (k : Nat) : Ctx := ⟨Try.prog, gam []⟩
theorem strings_Builder_Len.gok (k : Nat) : ∀ f, SemOK Try.prog f ((strings_Builder_Len.ctx k).Γ f) := gam_nil
def strings_Builder_Len.ann (k : Nat) : Ann := .nil
theorem strings_Builder_Len.body (k : Nat) : BodyH (strings_Builder_Len.ctx k) Try.f108 (Func.code Try.f108) (strings_Builder_Len.ann k) strings_Builder_Len.T strings_Builder_Len.os (fun x K => strings_Builder_Len.c k x.1 x.2.1 K) := by
  intro ρ x K; kernel_rfl
theorem strings_Builder_Len.sem_ok (k : Nat) : SemOK Try.prog 108 (strings_Builder_Len.sem k) :=
  callH_ok (C := strings_Builder_Len.ctx k) (strings_Builder_Len.gok k) Try.mix (c := Func.code Try.f108) (ann := strings_Builder_Len.ann k) (T := strings_Builder_Len.T) (os := strings_Builder_Len.os) (fun x K => strings_Builder_Len.c k x.1 x.2.1 K) Try.func108 (by kernel_rfl) (by kernel_rfl) AnnOK.nil (strings_Builder_Len.body k) (by kernel_rfl) (by kernel_rfl) (by kernel_rfl)

/-! 62 (*bedrock/num.Writer).Len · with blocks -/
abbrev num_Writer_Len_2.τ : Type := (Int × ((Unit × (Unit × Unit)) × Unit) × (List Int) × Unit)
def num_Writer_Len_2.c (k : Nat) {ρ : Type} (b0 : ((Unit × (Unit × Unit)) × Unit)) (b1 : (List Int)) (K : num_Writer_Len_2.τ → Option ρ) : Option ρ :=
  (strings_Builder_Len k (((), ((), ())), ()) b1).bind fun t0 => K (t0.1, ((((), ((), ())), ()), (t0.2.2.1, ())))
def num_Writer_Len_2 (k : Nat) (b0 : ((Unit × (Unit × Unit)) × Unit)) (b1 : (List Int)) : Option num_Writer_Len_2.τ := num_Writer_Len_2.c k b0 b1 some
def num_Writer_Len_2.T : CallT := ⟨[.ptr 0 []], [.pair (.pair (.sfp 0 [0] 132) (.pair (.vbs 1) (.dat .unit))) (.dat .unit), .vec (.int .u8)], 1⟩
def num_Writer_Len_2.os : List Out := [⟨.ret, [.freeze (.slot 0), .auto 1], ⟨[.dat (.int .i64)], [.pair (.pair (.sfp 0 [0] 132) (.pair (.vbs 1) (.dat .unit))) (.dat .unit), .vec (.int .u8)]⟩⟩]
def num_Writer_Len_2.sem (k : Nat) : CallSem := callH num_Writer_Len_2.T num_Writer_Len_2.os fun x => num_Writer_Len_2 k x.1 x.2.1
noncomputable def num_Writer_Len_2.ctx (k : Nat) : Ctx := ⟨Try.prog, gam [(108, (strings_Builder_Len.sem k))]⟩
theorem num_Writer_Len_2.gok (k : Nat) : ∀ f, SemOK Try.prog f ((num_Writer_Len_2.ctx k).Γ f) := (gam_cons (strings_Builder_Len.sem_ok k) gam_nil)
def num_Writer_Len_2.ann (k : Nat) : Ann := .nil
theorem num_Writer_Len_2.body (k : Nat) : BodyH (num_Writer_Len_2.ctx k) Try.f62 (Func.code Try.f62) (num_Writer_Len_2.ann k) num_Writer_Len_2.T num_Writer_Len_2.os (fun x K => num_Writer_Len_2.c k x.1 x.2.1 K) := by
  intro ρ x K; kernel_rfl
theorem num_Writer_Len_2.sem_ok (k : Nat) : SemOK Try.prog 62 (num_Writer_Len_2.sem k) :=
  callH_ok (C := num_Writer_Len_2.ctx k) (num_Writer_Len_2.gok k) Try.mix (c := Func.code Try.f62) (ann := num_Writer_Len_2.ann k) (T := num_Writer_Len_2.T) (os := num_Writer_Len_2.os) (fun x K => num_Writer_Len_2.c k x.1 x.2.1 K) Try.func62 (by kernel_rfl) (by kernel_rfl) AnnOK.nil (num_Writer_Len_2.body k) (by kernel_rfl) (by kernel_rfl) (by kernel_rfl)

/-! 63 (*bedrock/num.Writer).Text · with blocks -/
abbrev num_Writer_Text_2.τ : Type := (ByteArray × Unit)
def num_Writer_Text_2.c (k : Nat) {ρ : Type} (b0 : ((Unit × (Unit × Unit)) × Unit)) (b1 : (List Int)) (K : num_Writer_Text_2.τ → Option ρ) : Option ρ :=
  bif (Nat.ble (List.length b1) 9223372036854775807) then (K ((bytesOf b1), ())) else (none)
def num_Writer_Text_2 (k : Nat) (b0 : ((Unit × (Unit × Unit)) × Unit)) (b1 : (List Int)) : Option num_Writer_Text_2.τ := num_Writer_Text_2.c k b0 b1 some
def num_Writer_Text_2.T : CallT := ⟨[.ptr 0 []], [.pair (.pair (.sfp 0 [0] 132) (.pair (.vbs 1) (.dat .unit))) (.dat .unit), .vec (.int .u8)], 1⟩
def num_Writer_Text_2.os : List Out := [⟨.ret, [.freeze (.slot 0), .auto 1], ⟨[.dat .str], [.undef]⟩⟩]
def num_Writer_Text_2.sem (k : Nat) : CallSem := callH num_Writer_Text_2.T num_Writer_Text_2.os fun x => num_Writer_Text_2 k x.1 x.2.1
noncomputable def num_Writer_Text_2.ctx (k : Nat) : Ctx := ⟨Try.prog, gam [(109, strSem)]⟩
theorem num_Writer_Text_2.gok (k : Nat) : ∀ f, SemOK Try.prog f ((num_Writer_Text_2.ctx k).Γ f) := (gam_cons Bld.string gam_nil)
def num_Writer_Text_2.ann (k : Nat) : Ann := .nil
theorem num_Writer_Text_2.body (k : Nat) : BodyH (num_Writer_Text_2.ctx k) Try.f63 (Func.code Try.f63) (num_Writer_Text_2.ann k) num_Writer_Text_2.T num_Writer_Text_2.os (fun x K => num_Writer_Text_2.c k x.1 x.2.1 K) := by
  intro ρ x K; kernel_rfl
theorem num_Writer_Text_2.sem_ok (k : Nat) : SemOK Try.prog 63 (num_Writer_Text_2.sem k) :=
  callH_ok (C := num_Writer_Text_2.ctx k) (num_Writer_Text_2.gok k) Try.mix (c := Func.code Try.f63) (ann := num_Writer_Text_2.ann k) (T := num_Writer_Text_2.T) (os := num_Writer_Text_2.os) (fun x K => num_Writer_Text_2.c k x.1 x.2.1 K) Try.func63 (by kernel_rfl) (by kernel_rfl) AnnOK.nil (num_Writer_Text_2.body k) (by kernel_rfl) (by kernel_rfl) (by kernel_rfl)

/-! 12 bedrock/bedrocklaw01.NumWrites -/
abbrev bedrocklaw01_NumWrites.p0.σ : Type := (List (Int × (Int × (Int × (ByteArray × Unit))))) × ((Unit × (Unit × Unit)) × Unit) × (List Int) × ((Unit × (Unit × Unit)) × Unit) × (List Int) × Unit
abbrev bedrocklaw01_NumWrites.p0.τ : Type := (Bool × Unit) ⊕ ((List (Int × (Int × (Int × (ByteArray × Unit))))) × ((Unit × (Unit × Unit)) × Unit) × (List Int) × ((Unit × (Unit × Unit)) × Unit) × (List Int) × Unit)
def bedrocklaw01_NumWrites.p0.r (k : Nat) {ρ : Type} (x : bedrocklaw01_NumWrites.p0.σ) (K : bedrocklaw01_NumWrites.p0.τ → Option ρ) : Option ρ :=
  (bedrocklaw01_awake k ).bind fun t2 => bif (!t2.1) then (K (.inl (false, ()))) else (K (.inr (x.1, ((((), ((), ())), ()), (x.2.2.1, ((((), ((), ())), ()), (x.2.2.2.2.1, ())))))))
def bedrocklaw01_NumWrites.p0 (k : Nat) (x : bedrocklaw01_NumWrites.p0.σ) : Option bedrocklaw01_NumWrites.p0.τ := bedrocklaw01_NumWrites.p0.r k x some
def bedrocklaw01_NumWrites.p0.T : StT := ⟨.dat (.sl (.pair (.int .i64) (.pair (.int .i64) (.pair (.int .u64) (.pair .str .unit))))) :: us 2 ++ .ptr 0 [] :: .ptr 2 [] :: us 92, [.pair (.pair (.sfp 0 [0] 132) (.pair (.vbs 1) (.dat .unit))) (.dat .unit), .vec (.int .u8), .pair (.pair (.sfp 2 [0] 132) (.pair (.vbs 3) (.dat .unit))) (.dat .unit), .vec (.int .u8)]⟩
def bedrocklaw01_NumWrites.p0.os : List Out := [⟨.ret, [.mask [2], .auto 0], ⟨us 2 ++ .dat .bool :: us 94, []⟩⟩, ⟨.normal, [.mask [0, 3, 4], .auto 0], ⟨.dat (.sl (.pair (.int .i64) (.pair (.int .i64) (.pair (.int .u64) (.pair .str .unit))))) :: us 2 ++ .ptr 0 [] :: .ptr 2 [] :: us 92, [.pair (.pair (.sfp 0 [0] 132) (.pair (.vbs 1) (.dat .unit))) (.dat .unit), .vec (.int .u8), .pair (.pair (.sfp 2 [0] 132) (.pair (.vbs 3) (.dat .unit))) (.dat .unit), .vec (.int .u8)]⟩⟩]
abbrev bedrocklaw01_NumWrites.l1.σ : Type := (List (Int × (Int × (Int × (ByteArray × Unit))))) × ByteArray × Int × ((Unit × (Unit × Unit)) × Unit) × (List Int) × ((Unit × (Unit × Unit)) × Unit) × (List Int) × Unit
abbrev bedrocklaw01_NumWrites.l1.τ : Type := (Bool × Unit) ⊕ ((List (Int × (Int × (Int × (ByteArray × Unit))))) × ByteArray × ((Unit × (Unit × Unit)) × Unit) × (List Int) × ((Unit × (Unit × Unit)) × Unit) × (List Int) × Unit)
def bedrocklaw01_NumWrites.l1.r (k : Nat) {ρ : Type} (x : bedrocklaw01_NumWrites.l1.σ) (kn : bedrocklaw01_NumWrites.l1.σ → Option ρ) (ke : bedrocklaw01_NumWrites.l1.τ → Option ρ) : Option ρ :=
  let v6 : Int := (((List.length x.1) : Nat) : Int)
  bif (decide (x.2.2.1 < v6)) then (bif (decide (((0 : Int) ≤ x.2.2.1) ∧ (x.2.2.1 < (((List.length x.1) : Nat) : Int)))) then ((bedrocklaw01_put_2 k ((List.getD x.1 (Int.toNat x.2.2.1) ((0 : Int), ((0 : Int), ((0 : Int), (ByteArray.empty, ()))))).1, ((List.getD x.1 (Int.toNat x.2.2.1) ((0 : Int), ((0 : Int), ((0 : Int), (ByteArray.empty, ()))))).2.1, ((List.getD x.1 (Int.toNat x.2.2.1) ((0 : Int), ((0 : Int), ((0 : Int), (ByteArray.empty, ()))))).2.2.1, ((List.getD x.1 (Int.toNat x.2.2.1) ((0 : Int), ((0 : Int), ((0 : Int), (ByteArray.empty, ()))))).2.2.2.1, ())))) (((), ((), ())), ()) x.2.2.2.2.1).bind fun t7 => bif (Nat.ble ((ByteArray.size x.2.1) + (ByteArray.size t7.1)) 9223372036854775807) then (let v8 : ByteArray := (x.2.1 ++ t7.1)
  (num_Writer_Len_2 k (((), ((), ())), ()) t7.2.2.1).bind fun t9 => bif (t9.1 != (((ByteArray.size v8) : Nat) : Int)) then (ke (.inl (false, ()))) else (let v10 : Int := (IntKind.wrap IntKind.i64 (x.2.2.1 + (1 : Int)))
  kn (x.1, (v8, (v10, ((((), ((), ())), ()), (t9.2.2.1, ((((), ((), ())), ()), (x.2.2.2.2.2.2.1, ()))))))))) else (none)) else (none)) else (ke (.inr (x.1, (x.2.1, ((((), ((), ())), ()), (x.2.2.2.2.1, ((((), ((), ())), ()), (x.2.2.2.2.2.2.1, ()))))))))
def bedrocklaw01_NumWrites.l1 (k : Nat) : Nat → bedrocklaw01_NumWrites.l1.σ → Option bedrocklaw01_NumWrites.l1.τ := loopJ (bedrocklaw01_NumWrites.l1.r k)
def bedrocklaw01_NumWrites.l1.T : StT := ⟨.dat (.sl (.pair (.int .i64) (.pair (.int .i64) (.pair (.int .u64) (.pair .str .unit))))) :: us 2 ++ .ptr 0 [] :: .ptr 2 [] :: .dat .str :: .dat (.int .i64) :: us 90, [.pair (.pair (.sfp 0 [0] 132) (.pair (.vbs 1) (.dat .unit))) (.dat .unit), .vec (.int .u8), .pair (.pair (.sfp 2 [0] 132) (.pair (.vbs 3) (.dat .unit))) (.dat .unit), .vec (.int .u8)]⟩
def bedrocklaw01_NumWrites.l1.os : List Out := [⟨.ret, [.mask [2], .auto 0], ⟨us 2 ++ .dat .bool :: us 94, []⟩⟩, ⟨(.exit 0), [.mask [0, 3, 4, 5], .auto 0], ⟨.dat (.sl (.pair (.int .i64) (.pair (.int .i64) (.pair (.int .u64) (.pair .str .unit))))) :: us 2 ++ .ptr 0 [] :: .ptr 2 [] :: .dat .str :: us 91, [.pair (.pair (.sfp 0 [0] 132) (.pair (.vbs 1) (.dat .unit))) (.dat .unit), .vec (.int .u8), .pair (.pair (.sfp 2 [0] 132) (.pair (.vbs 3) (.dat .unit))) (.dat .unit), .vec (.int .u8)]⟩⟩]
abbrev bedrocklaw01_NumWrites.p2.σ : Type := (List (Int × (Int × (Int × (ByteArray × Unit))))) × ByteArray × ((Unit × (Unit × Unit)) × Unit) × (List Int) × ((Unit × (Unit × Unit)) × Unit) × (List Int) × Unit
abbrev bedrocklaw01_NumWrites.p2.τ : Type := (Bool × Unit) ⊕ ((List (Int × (Int × (Int × (ByteArray × Unit))))) × ByteArray × Unit)
def bedrocklaw01_NumWrites.p2.r (k : Nat) {ρ : Type} (x : bedrocklaw01_NumWrites.p2.σ) (K : bedrocklaw01_NumWrites.p2.τ → Option ρ) : Option ρ :=
  (num_Writer_Text_2 k (((), ((), ())), ()) x.2.2.2.1).bind fun t14 => bif (!(strEq t14.1 x.2.1)) then (K (.inl (false, ()))) else ((num_Writer_Len_2 k (((), ((), ())), ()) x.2.2.2.2.2.1).bind fun t15 => bif (t15.1 != (0 : Int)) then (K (.inl (false, ()))) else ((num_Writer_Text_2 k (((), ((), ())), ()) t15.2.2.1).bind fun t16 => bif (!(strEq t16.1 (⟨(List.toArray [])⟩ : ByteArray))) then (K (.inl (false, ()))) else (K (.inr (x.1, (x.2.1, ()))))))
def bedrocklaw01_NumWrites.p2 (k : Nat) (x : bedrocklaw01_NumWrites.p2.σ) : Option bedrocklaw01_NumWrites.p2.τ := bedrocklaw01_NumWrites.p2.r k x some
def bedrocklaw01_NumWrites.p2.T : StT := ⟨.dat (.sl (.pair (.int .i64) (.pair (.int .i64) (.pair (.int .u64) (.pair .str .unit))))) :: us 2 ++ .ptr 0 [] :: .ptr 2 [] :: .dat .str :: us 91, [.pair (.pair (.sfp 0 [0] 132) (.pair (.vbs 1) (.dat .unit))) (.dat .unit), .vec (.int .u8), .pair (.pair (.sfp 2 [0] 132) (.pair (.vbs 3) (.dat .unit))) (.dat .unit), .vec (.int .u8)]⟩
def bedrocklaw01_NumWrites.p2.os : List Out := [⟨.ret, [.mask [2], .auto 0], ⟨us 2 ++ .dat .bool :: us 94, []⟩⟩, ⟨.normal, [.mask [0, 5], .auto 0], ⟨.dat (.sl (.pair (.int .i64) (.pair (.int .i64) (.pair (.int .u64) (.pair .str .unit))))) :: us 4 ++ .dat .str :: us 91, []⟩⟩]
abbrev bedrocklaw01_NumWrites.p4.σ : Type := (List (Int × (Int × (Int × (ByteArray × Unit))))) × Int × (ByteArray × (Int × (Int × Unit))) × (ByteArray × (Int × (Int × Unit))) × (Int × (Int × (Int × (ByteArray × Unit)))) × Unit
abbrev bedrocklaw01_NumWrites.p4.τ : Type := ((List (Int × (Int × (Int × (ByteArray × Unit))))) × Int × (ByteArray × (Int × (Int × Unit))) × (ByteArray × (Int × (Int × Unit))) × (Int × (Int × (Int × (ByteArray × Unit)))) × Unit)
def bedrocklaw01_NumWrites.p4.r (k : Nat) {ρ : Type} (x : bedrocklaw01_NumWrites.p4.σ) (K : bedrocklaw01_NumWrites.p4.τ → Option ρ) : Option ρ :=
  let v22 : Int := x.2.2.2.2.1.1
  bif (decide (v22 < (0 : Int))) then (K (x.1, (x.2.1, ((x.2.2.1.1, (x.2.2.1.2.1, (x.2.2.1.2.2.1, ()))), ((x.2.2.2.1.1, (x.2.2.2.1.2.1, (x.2.2.2.1.2.2.1, ()))), (((9 : Int), (x.2.2.2.2.1.2.1, (x.2.2.2.2.1.2.2.1, (x.2.2.2.2.1.2.2.2.1, ())))), ())))))) else (let v23 : Int := x.2.2.2.2.1.1
  bif (decide (v23 > (9 : Int))) then (K (x.1, (x.2.1, ((x.2.2.1.1, (x.2.2.1.2.1, (x.2.2.1.2.2.1, ()))), ((x.2.2.2.1.1, (x.2.2.2.1.2.1, (x.2.2.2.1.2.2.1, ()))), (((9 : Int), (x.2.2.2.2.1.2.1, (x.2.2.2.2.1.2.2.1, (x.2.2.2.2.1.2.2.2.1, ())))), ())))))) else (K (x.1, (x.2.1, ((x.2.2.1.1, (x.2.2.1.2.1, (x.2.2.1.2.2.1, ()))), ((x.2.2.2.1.1, (x.2.2.2.1.2.1, (x.2.2.2.1.2.2.1, ()))), ((x.2.2.2.2.1.1, (x.2.2.2.2.1.2.1, (x.2.2.2.2.1.2.2.1, (x.2.2.2.2.1.2.2.2.1, ())))), ())))))))
def bedrocklaw01_NumWrites.p4 (k : Nat) (x : bedrocklaw01_NumWrites.p4.σ) : Option bedrocklaw01_NumWrites.p4.τ := bedrocklaw01_NumWrites.p4.r k x some
def bedrocklaw01_NumWrites.p4.T : StT := ⟨.dat (.sl (.pair (.int .i64) (.pair (.int .i64) (.pair (.int .u64) (.pair .str .unit))))) :: us 6 ++ .ptr 0 [] :: .ptr 1 [] :: .dat (.int .i64) :: .ptr 2 [] :: us 86, [.dat (.pair .str (.pair (.int .i64) (.pair (.int .i64) .unit))), .dat (.pair .str (.pair (.int .i64) (.pair (.int .i64) .unit))), .dat (.pair (.int .i64) (.pair (.int .i64) (.pair (.int .u64) (.pair .str .unit))))]⟩
def bedrocklaw01_NumWrites.p4.os : List Out := [⟨.normal, [.mask [0, 7, 8, 9, 10], .auto 0], ⟨.dat (.sl (.pair (.int .i64) (.pair (.int .i64) (.pair (.int .u64) (.pair .str .unit))))) :: us 6 ++ .ptr 0 [] :: .ptr 1 [] :: .dat (.int .i64) :: .ptr 2 [] :: us 86, [.dat (.pair .str (.pair (.int .i64) (.pair (.int .i64) .unit))), .dat (.pair .str (.pair (.int .i64) (.pair (.int .i64) .unit))), .dat (.pair (.int .i64) (.pair (.int .i64) (.pair (.int .u64) (.pair .str .unit))))]⟩⟩]
abbrev bedrocklaw01_NumWrites.l3.σ : Type := (List (Int × (Int × (Int × (ByteArray × Unit))))) × Int × (ByteArray × (Int × (Int × Unit))) × (ByteArray × (Int × (Int × Unit))) × Unit
abbrev bedrocklaw01_NumWrites.l3.τ : Type := (Bool × Unit) ⊕ ((ByteArray × (Int × (Int × Unit))) × Unit)
def bedrocklaw01_NumWrites.l3.r (k : Nat) {ρ : Type} (x : bedrocklaw01_NumWrites.l3.σ) (kn : bedrocklaw01_NumWrites.l3.σ → Option ρ) (ke : bedrocklaw01_NumWrites.l3.τ → Option ρ) : Option ρ :=
  let v21 : Int := (((List.length x.1) : Nat) : Int)
  bif (decide (x.2.1 < v21)) then (bif (decide (((0 : Int) ≤ x.2.1) ∧ (x.2.1 < (((List.length x.1) : Nat) : Int)))) then ((bedrocklaw01_NumWrites.p4 k (x.1, (x.2.1, ((x.2.2.1.1, (x.2.2.1.2.1, (x.2.2.1.2.2.1, ()))), ((x.2.2.2.1.1, (x.2.2.2.1.2.1, (x.2.2.2.1.2.2.1, ()))), (((List.getD x.1 (Int.toNat x.2.1) ((0 : Int), ((0 : Int), ((0 : Int), (ByteArray.empty, ()))))).1, ((List.getD x.1 (Int.toNat x.2.1) ((0 : Int), ((0 : Int), ((0 : Int), (ByteArray.empty, ()))))).2.1, ((List.getD x.1 (Int.toNat x.2.1) ((0 : Int), ((0 : Int), ((0 : Int), (ByteArray.empty, ()))))).2.2.1, ((List.getD x.1 (Int.toNat x.2.1) ((0 : Int), ((0 : Int), ((0 : Int), (ByteArray.empty, ()))))).2.2.2.1, ())))), ())))))).bind fun t24 => let v25 : ByteArray := t24.2.2.2.2.1.2.2.2.1
  (bedrocklaw01_one k (t24.2.2.2.1.1, (t24.2.2.2.1.2.1, (t24.2.2.2.1.2.2.1, ()))) (t24.2.2.2.2.1.1, ((((ByteArray.size v25) : Nat) : Int), ((18446744073709551615 : Int), (t24.2.2.2.2.1.2.2.2.1, ())))) (t24.2.2.1.1, (t24.2.2.1.2.1, (t24.2.2.1.2.2.1, ())))).bind fun t26 => bif (!t26.2.1) then (ke (.inl (false, ()))) else (let v27 : Int := (IntKind.wrap IntKind.i64 (t24.2.1 + (1 : Int)))
  kn (t24.1, (v27, ((t26.2.2.1.1, (t26.2.2.1.2.1, (t26.2.2.1.2.2.1, ()))), ((t26.1.1, (t26.1.2.1, (t26.1.2.2.1, ()))), ())))))) else (none)) else (ke (.inr ((x.2.2.1.1, (x.2.2.1.2.1, (x.2.2.1.2.2.1, ()))), ())))
def bedrocklaw01_NumWrites.l3 (k : Nat) : Nat → bedrocklaw01_NumWrites.l3.σ → Option bedrocklaw01_NumWrites.l3.τ := loopJ (bedrocklaw01_NumWrites.l3.r k)
def bedrocklaw01_NumWrites.l3.T : StT := ⟨.dat (.sl (.pair (.int .i64) (.pair (.int .i64) (.pair (.int .u64) (.pair .str .unit))))) :: us 6 ++ .ptr 0 [] :: .ptr 1 [] :: .dat (.int .i64) :: us 87, [.dat (.pair .str (.pair (.int .i64) (.pair (.int .i64) .unit))), .dat (.pair .str (.pair (.int .i64) (.pair (.int .i64) .unit)))]⟩
def bedrocklaw01_NumWrites.l3.os : List Out := [⟨.ret, [.mask [2], .auto 0], ⟨us 2 ++ .dat .bool :: us 94, []⟩⟩, ⟨(.exit 2), [.mask [7], .auto 0], ⟨us 7 ++ .ptr 0 [] :: us 89, [.dat (.pair .str (.pair (.int .i64) (.pair (.int .i64) .unit)))]⟩⟩]
def bedrocklaw01_NumWrites.c (k : Nat) {ρ : Type} (l : (List (Int × (Int × (Int × (ByteArray × Unit)))))) (K : Bool × Unit → Option ρ) : Option ρ :=
  (num_NewWriter k ).bind fun t0 => (num_NewWriter k ).bind fun t1 => (bedrocklaw01_NumWrites.p0 k (l, ((((), ((), ())), ()), (t0.2.1, ((((), ((), ())), ()), (t1.2.1, ())))))).bind fun t3 => (match t3 with | .inl t4 => (K (t4.1, ())) | .inr (t5) => ((bedrocklaw01_NumWrites.l1 k k (t5.1, ((⟨(List.toArray [])⟩ : ByteArray), ((0 : Int), ((((), ((), ())), ()), (t5.2.2.1, ((((), ((), ())), ()), (t5.2.2.2.2.1, ())))))))).bind fun t11 => (match t11 with | .inl t12 => (K (t12.1, ())) | .inr (t13) => ((bedrocklaw01_NumWrites.p2 k (t13.1, (t13.2.1, ((((), ((), ())), ()), (t13.2.2.2.1, ((((), ((), ())), ()), (t13.2.2.2.2.2.1, ()))))))).bind fun t17 => (match t17 with | .inl t18 => (K (t18.1, ())) | .inr (t19) => ((num_NewReader k t19.2.1).bind fun t20 => (bedrocklaw01_NumWrites.l3 k k (t19.1, ((0 : Int), ((t20.1.1, (t20.1.2.1, (t20.1.2.2.1, ()))), ((t19.2.1, ((0 : Int), ((0 : Int), ()))), ()))))).bind fun t28 => (match t28 with | .inl t29 => (K (t29.1, ())) | .inr (t30) => ((num_Reader_End k (t30.1.1, (t30.1.2.1, (t30.1.2.2.1, ())))).bind fun t31 => K ((t31.1 == (0 : Int)), ())))))))))
def bedrocklaw01_NumWrites (k : Nat) (l : (List (Int × (Int × (Int × (ByteArray × Unit)))))) : Option (Bool × Unit) := bedrocklaw01_NumWrites.c k l some
def bedrocklaw01_NumWrites.tin : List Ty := [(.sl (.pair (.int .i64) (.pair (.int .i64) (.pair (.int .u64) (.pair .str .unit)))))]
def bedrocklaw01_NumWrites.tout : List Ty := [.bool]
def bedrocklaw01_NumWrites.sem (k : Nat) : CallSem := callPure bedrocklaw01_NumWrites.tin bedrocklaw01_NumWrites.tout fun x => bedrocklaw01_NumWrites k x.1
noncomputable def bedrocklaw01_NumWrites.ctx (k : Nat) : Ctx := ⟨Try.prog, gam [(60, (num_NewWriter.sem k)), (18, (bedrocklaw01_awake.sem k)), (61, (bedrocklaw01_put_2.sem k)), (62, (num_Writer_Len_2.sem k)), (63, (num_Writer_Text_2.sem k)), (48, (num_NewReader.sem k)), (49, (bedrocklaw01_one.sem k)), (64, (num_Reader_End.sem k))]⟩
theorem bedrocklaw01_NumWrites.gok (k : Nat) : ∀ f, SemOK Try.prog f ((bedrocklaw01_NumWrites.ctx k).Γ f) := (gam_cons (num_NewWriter.sem_ok k) (gam_cons (bedrocklaw01_awake.sem_ok k) (gam_cons (bedrocklaw01_put_2.sem_ok k) (gam_cons (num_Writer_Len_2.sem_ok k) (gam_cons (num_Writer_Text_2.sem_ok k) (gam_cons (num_NewReader.sem_ok k) (gam_cons (bedrocklaw01_one.sem_ok k) (gam_cons (num_Reader_End.sem_ok k) gam_nil))))))))
theorem bedrocklaw01_NumWrites.p0.is (k : Nat) : PieceIs (bedrocklaw01_NumWrites.ctx k) (codeAt (Func.code Try.f12) [1, 1, 0]) (.nil) bedrocklaw01_NumWrites.p0.T bedrocklaw01_NumWrites.p0.os (bedrocklaw01_NumWrites.p0.r k) := by
  intro ρ x K; kernel_rfl
theorem bedrocklaw01_NumWrites.p0.ok (k : Nat) : StOK 0 Try.prog (codeAt (Func.code Try.f12) [1, 1, 0]) (pieceSem bedrocklaw01_NumWrites.p0.T bedrocklaw01_NumWrites.p0.os (bedrocklaw01_NumWrites.p0 k)) :=
  piece_ok (C := bedrocklaw01_NumWrites.ctx k) (T := bedrocklaw01_NumWrites.p0.T) (os := bedrocklaw01_NumWrites.p0.os) (bedrocklaw01_NumWrites.gok k) Try.mix (fun x K => bedrocklaw01_NumWrites.p0.r k x K) AnnOK.nil (by kernel_rfl) (by kernel_rfl) (bedrocklaw01_NumWrites.p0.is k)
theorem bedrocklaw01_NumWrites.l1.round (k : Nat) : RoundIs (bedrocklaw01_NumWrites.ctx k) (codeAt (Func.code Try.f12) [1, 1, 1, 1, 0, 1, 0, 0]) (.nil) bedrocklaw01_NumWrites.l1.T [.mask [0, 3, 4, 5, 6], .auto 0] bedrocklaw01_NumWrites.l1.os (bedrocklaw01_NumWrites.l1.r k) := by
  intro ρ x kn ke; kernel_rfl
theorem bedrocklaw01_NumWrites.l1.ok (k : Nat) : StOK 0 Try.prog (.loop (codeAt (Func.code Try.f12) [1, 1, 1, 1, 0, 1, 0, 0])) (pieceSem bedrocklaw01_NumWrites.l1.T bedrocklaw01_NumWrites.l1.os (bedrocklaw01_NumWrites.l1 k k)) :=
  loop_ok (C := bedrocklaw01_NumWrites.ctx k) (bedrocklaw01_NumWrites.gok k) Try.mix AnnOK.nil (by kernel_rfl) (by kernel_rfl) (by kernel_rfl) (bedrocklaw01_NumWrites.l1.round k) k
theorem bedrocklaw01_NumWrites.p2.is (k : Nat) : PieceIs (bedrocklaw01_NumWrites.ctx k) (codeAt (Func.code Try.f12) [1, 1, 1, 1, 1, 0]) (.nil) bedrocklaw01_NumWrites.p2.T bedrocklaw01_NumWrites.p2.os (bedrocklaw01_NumWrites.p2.r k) := by
  intro ρ x K; kernel_rfl
theorem bedrocklaw01_NumWrites.p2.ok (k : Nat) : StOK 0 Try.prog (codeAt (Func.code Try.f12) [1, 1, 1, 1, 1, 0]) (pieceSem bedrocklaw01_NumWrites.p2.T bedrocklaw01_NumWrites.p2.os (bedrocklaw01_NumWrites.p2 k)) :=
  piece_ok (C := bedrocklaw01_NumWrites.ctx k) (T := bedrocklaw01_NumWrites.p2.T) (os := bedrocklaw01_NumWrites.p2.os) (bedrocklaw01_NumWrites.gok k) Try.mix (fun x K => bedrocklaw01_NumWrites.p2.r k x K) AnnOK.nil (by kernel_rfl) (by kernel_rfl) (bedrocklaw01_NumWrites.p2.is k)
theorem bedrocklaw01_NumWrites.p4.is (k : Nat) : PieceIs (bedrocklaw01_NumWrites.ctx k) (codeAt (Func.code Try.f12) [1, 1, 1, 1, 1, 1, 1, 1, 0, 1, 0, 0, 1, 0, 0, 1, 0]) (.nil) bedrocklaw01_NumWrites.p4.T bedrocklaw01_NumWrites.p4.os (bedrocklaw01_NumWrites.p4.r k) := by
  intro ρ x K; kernel_rfl
theorem bedrocklaw01_NumWrites.p4.ok (k : Nat) : StOK 0 Try.prog (codeAt (Func.code Try.f12) [1, 1, 1, 1, 1, 1, 1, 1, 0, 1, 0, 0, 1, 0, 0, 1, 0]) (pieceSem bedrocklaw01_NumWrites.p4.T bedrocklaw01_NumWrites.p4.os (bedrocklaw01_NumWrites.p4 k)) :=
  piece_ok (C := bedrocklaw01_NumWrites.ctx k) (T := bedrocklaw01_NumWrites.p4.T) (os := bedrocklaw01_NumWrites.p4.os) (bedrocklaw01_NumWrites.gok k) Try.mix (fun x K => bedrocklaw01_NumWrites.p4.r k x K) AnnOK.nil (by kernel_rfl) (by kernel_rfl) (bedrocklaw01_NumWrites.p4.is k)
theorem bedrocklaw01_NumWrites.l3.round (k : Nat) : RoundIs (bedrocklaw01_NumWrites.ctx k) (codeAt (Func.code Try.f12) [1, 1, 1, 1, 1, 1, 1, 1, 0, 1, 0, 0]) (.node [] none (.nil) (.node [] none (.node [] none (.node [] none (.nil) (.node [] none (.node [.mask [0, 7, 8, 9, 10], .auto 0] (some (pieceSem bedrocklaw01_NumWrites.p4.T bedrocklaw01_NumWrites.p4.os (bedrocklaw01_NumWrites.p4 k))) .nil .nil) (.nil))) (.nil)) (.nil))) bedrocklaw01_NumWrites.l3.T [.mask [0, 7, 8, 9], .auto 0] bedrocklaw01_NumWrites.l3.os (bedrocklaw01_NumWrites.l3.r k) := by
  intro ρ x kn ke; kernel_rfl
theorem bedrocklaw01_NumWrites.l3.ok (k : Nat) : StOK 0 Try.prog (.loop (codeAt (Func.code Try.f12) [1, 1, 1, 1, 1, 1, 1, 1, 0, 1, 0, 0])) (pieceSem bedrocklaw01_NumWrites.l3.T bedrocklaw01_NumWrites.l3.os (bedrocklaw01_NumWrites.l3 k k)) :=
  loop_ok (C := bedrocklaw01_NumWrites.ctx k) (bedrocklaw01_NumWrites.gok k) Try.mix (AnnOK.seq AnnOK.nil (AnnOK.seq (AnnOK.block (AnnOK.seq AnnOK.nil (AnnOK.seq (AnnOK.loop (by kernel_rfl) (bedrocklaw01_NumWrites.p4.ok k)) AnnOK.nil))) AnnOK.nil)) (by kernel_rfl) (by kernel_rfl) (by kernel_rfl) (bedrocklaw01_NumWrites.l3.round k) k
def bedrocklaw01_NumWrites.ann (k : Nat) : Ann := .node [] none (.nil) (.node [] none (.nil) (.node [] none (.node [.mask [0, 3, 4], .auto 0] (some (pieceSem bedrocklaw01_NumWrites.p0.T bedrocklaw01_NumWrites.p0.os (bedrocklaw01_NumWrites.p0 k))) .nil .nil) (.node [] none (.nil) (.node [] none (.node [] none (.nil) (.node [] none (.node [.mask [0, 3, 4, 5, 6], .auto 0] (some (pieceSem bedrocklaw01_NumWrites.l1.T bedrocklaw01_NumWrites.l1.os (bedrocklaw01_NumWrites.l1 k k))) .nil .nil) (.nil))) (.node [] none (.node [.mask [0, 3, 4, 5], .auto 0] (some (pieceSem bedrocklaw01_NumWrites.p2.T bedrocklaw01_NumWrites.p2.os (bedrocklaw01_NumWrites.p2 k))) .nil .nil) (.node [] none (.nil) (.node [] none (.nil) (.node [] none (.node [] none (.nil) (.node [] none (.node [.mask [0, 7, 8, 9], .auto 0] (some (pieceSem bedrocklaw01_NumWrites.l3.T bedrocklaw01_NumWrites.l3.os (bedrocklaw01_NumWrites.l3 k k))) .nil .nil) (.nil))) (.nil)))))))))
theorem bedrocklaw01_NumWrites.body (k : Nat) : BodyIs (bedrocklaw01_NumWrites.ctx k) Try.f12 (Func.code Try.f12) (bedrocklaw01_NumWrites.ann k) bedrocklaw01_NumWrites.tin bedrocklaw01_NumWrites.tout (fun x K => bedrocklaw01_NumWrites.c k x.1 K) := by
  intro ρ x K; kernel_rfl
theorem bedrocklaw01_NumWrites.sem_ok (k : Nat) : SemOK Try.prog 12 (bedrocklaw01_NumWrites.sem k) :=
  callPure_ok (C := bedrocklaw01_NumWrites.ctx k) (bedrocklaw01_NumWrites.gok k) Try.mix (c := Func.code Try.f12) (ann := bedrocklaw01_NumWrites.ann k) (tin := bedrocklaw01_NumWrites.tin) (tout := bedrocklaw01_NumWrites.tout) (fun x K => bedrocklaw01_NumWrites.c k x.1 K) Try.func12 (by kernel_rfl) (by kernel_rfl) (AnnOK.seq AnnOK.nil (AnnOK.seq AnnOK.nil (AnnOK.seq (AnnOK.loop (by kernel_rfl) (bedrocklaw01_NumWrites.p0.ok k)) (AnnOK.seq AnnOK.nil (AnnOK.seq (AnnOK.seq AnnOK.nil (AnnOK.block (AnnOK.loop (by kernel_rfl) (bedrocklaw01_NumWrites.l1.ok k)))) (AnnOK.seq (AnnOK.loop (by kernel_rfl) (bedrocklaw01_NumWrites.p2.ok k)) (AnnOK.seq AnnOK.nil (AnnOK.seq AnnOK.nil (AnnOK.seq (AnnOK.seq AnnOK.nil (AnnOK.block (AnnOK.loop (by kernel_rfl) (bedrocklaw01_NumWrites.l3.ok k)))) AnnOK.nil))))))))) (bedrocklaw01_NumWrites.body k)

end Go.Am
/- NumWrites: what is written. -/
namespace Go.Am
open Go

theorem lowI_mod : ∀ (b : Nat) (n : Int), lowI (n % 256 ^ b) b = lowI n b
  | 0, _ => rfl
  | b + 1, n => by
    simp only [lowI]
    have h1 : n % 256 ^ (b + 1) % 256 = n % 256 := by
      rw [Int.pow_succ, Int.mul_comm]
      exact Int.emod_emod_of_dvd _ (Int.dvd_mul_right _ _)
    have h2 : n % 256 ^ (b + 1) / 256 = n / 256 % 256 ^ b := by
      have e := Int.mul_ediv_add_emod n 256
      have hp : (0 : Int) < 256 ^ b := Int.pow_pos (by decide)
      have e2 := Int.mul_ediv_add_emod (n / 256) (256 ^ b)
      have r1 := Int.emod_nonneg n (show (256 : Int) ≠ 0 by decide)
      have r2 := Int.emod_lt_of_pos n (show (0 : Int) < 256 by decide)
      have r3 := Int.emod_nonneg (n / 256) (Int.ne_of_gt hp)
      have r4 := Int.emod_lt_of_pos (n / 256) hp
      have key : n % 256 ^ (b + 1) = 256 * (n / 256 % 256 ^ b) + n % 256 := by
        rw [Int.pow_succ]
        have hn : n = (256 * (n / 256 % 256 ^ b) + n % 256) + 256 ^ b * 256 * (n / 256 / 256 ^ b) := by
          have e3 : 256 ^ b * 256 * (n / 256 / 256 ^ b) = 256 * (256 ^ b * (n / 256 / 256 ^ b)) := by
            rw [Int.mul_comm (256 ^ b) 256, Int.mul_assoc]
          rw [e3]; omega
        conv => lhs; rw [hn]
        rw [Int.add_mul_emod_self_left]
        exact Int.emod_eq_of_lt (by omega) (by omega)
      rw [key]
      omega
    rw [h1, h2, lowI_mod b]

theorem wb {k : Nat} {s : ByteArray} {u} {b1 : List Int} (h : b1.length + s.size ≤ 140737488355328) : num_Writer_Bytes_2 k s u b1 = some (u, b1 ++ ofBytes s, ()) := by
  unfold num_Writer_Bytes_2 num_Writer_Bytes_2.c strings_Builder_WriteString strings_Builder_WriteString.c
  rw [cond_true' (ble_of (by rw [ofBytes_length]; omega))]
  rfl

/-- The bytes that an action puts. -/
def hashL (n : Int) : List Int := List.set (List.set (List.replicate 32 (0 : Int)) 0 (IntKind.u8.wrap n)) 1 7
def putL (a : Act1) : List Int :=
  if a.1 = 0 then lowI a.2.2.1 1 else if a.1 = 1 then lowI a.2.2.1 2 else if a.1 = 2 then lowI a.2.2.1 4 else if a.1 = 3 then lowI a.2.2.1 8 else
  if a.1 = 4 then (lowI a.2.2.1 2).reverse else if a.1 = 5 then cBytes a.2.2.1 else if a.1 = 6 then ofBytes a.2.2.2.1 else
  if a.1 = 7 then cBytes (a.2.2.2.1.size : Int) ++ ofBytes a.2.2.2.1 else if a.1 = 8 then hashL a.2.1 else lowI (Int.tmod a.2.2.1 2) 1

theorem hashL_in (n : Int) : bytesIn (hashL n) := by
  intro x hx
  unfold hashL at hx
  rcases List.mem_or_eq_of_mem_set hx with h | h
  · rcases List.mem_or_eq_of_mem_set h with h | h
    · have := List.eq_of_mem_replicate h; omega
    · rw [h, u8_mod]; omega
  · omega
theorem hashL_length (n : Int) : (hashL n).length = 32 := by simp [hashL]

theorem putL_in (a : Act1) : bytesIn (putL a) := by
  have key : ∀ {c : Prop} [Decidable c] {x y : List Int}, bytesIn x → bytesIn y → bytesIn (if c then x else y) := by
    intro c _ x y hx hy
    split
    · exact hx
    · exact hy
  have app : ∀ {x y : List Int}, bytesIn x → bytesIn y → bytesIn (x ++ y) := fun hx hy z hz => (List.mem_append.1 hz).elim (hx z) (hy z)
  exact key (lowI_in _ _) (key (lowI_in _ _) (key (lowI_in _ _) (key (lowI_in _ _) (key (bytesIn_reverse (lowI_in _ _)) (key (cBytes_in _) (key (ofBytes_in' _) (key (app (cBytes_in _) (ofBytes_in' _)) (key (hashL_in _) (lowI_in _ _)))))))))

theorem putL_length (a : Act1) : (putL a).length ≤ 32 + a.2.2.2.1.size := by
  have key : ∀ {c : Prop} [Decidable c] {x y : List Int} {m : Nat}, x.length ≤ m → y.length ≤ m → (if c then x else y).length ≤ m := by
    intro c _ x y m hx hy
    split
    · exact hx
    · exact hy
  have c1 := cBytes_le a.2.2.1
  have c2 := cBytes_le (a.2.2.2.1.size : Int)
  exact key (by rw [lowI_length]; omega) (key (by rw [lowI_length]; omega) (key (by rw [lowI_length]; omega) (key (by rw [lowI_length]; omega) (key (by rw [List.length_reverse, lowI_length]; omega)
    (key (by omega) (key (by rw [ofBytes_length]; omega) (key (by rw [List.length_append, ofBytes_length]; omega) (key (by rw [hashL_length]; omega) (by rw [lowI_length]; omega)))))))))

theorem wl {k : Nat} {l : List Int} (hl : bytesIn l) {u} {b1 : List Int} (h : b1.length + l.length ≤ 140737488355328) : num_Writer_Bytes_2 k (bytesOf l) u b1 = some (u, b1 ++ l, ()) := by
  rw [wb (by rw [bytesOf_size]; exact h), ofBytes_bytesOf hl]

theorem wbyte {k : Nat} (hk : 9 ≤ k) (n : Int) {u} {b1 : List Int} (h : b1.length ≤ 140737488350000) : num_Writer_Byte_2 k (IntKind.u8.wrap n) u b1 = some (u, b1 ++ lowI n 1, ()) := by
  unfold num_Writer_Byte_2 num_Writer_Byte_2.c
  rw [u8_mod, u64_in (by omega), show (1 : Int) = ((1 : Nat) : Int) from rfl, num_lay_eq hk _ 1 (by omega), show n % 256 = n % 256 ^ 1 from rfl, lowI_mod]
  simp only [Option.bind_some]
  rw [wl (lowI_in _ _) (by rw [lowI_length]; omega)]
  rfl
theorem wu16 {k : Nat} (hk : 9 ≤ k) (n : Int) {u} {b1 : List Int} (h : b1.length ≤ 140737488350000) : num_Writer_U16_2 k (IntKind.u16.wrap n) u b1 = some (u, b1 ++ lowI n 2, ()) := by
  unfold num_Writer_U16_2 num_Writer_U16_2.c
  rw [u16_mod, u64_in (by omega), show (2 : Int) = ((2 : Nat) : Int) from rfl, num_lay_eq hk _ 2 (by omega), show n % 65536 = n % 256 ^ 2 from rfl, lowI_mod]
  simp only [Option.bind_some]
  rw [wl (lowI_in _ _) (by rw [lowI_length]; omega)]
  rfl
theorem wu32 {k : Nat} (hk : 9 ≤ k) (n : Int) {u} {b1 : List Int} (h : b1.length ≤ 140737488350000) : num_Writer_U32_2 k (IntKind.u32.wrap n) u b1 = some (u, b1 ++ lowI n 4, ()) := by
  unfold num_Writer_U32_2 num_Writer_U32_2.c
  rw [u32_mod, u64_in (by omega), show (4 : Int) = ((4 : Nat) : Int) from rfl, num_lay_eq hk _ 4 (by omega), show n % 4294967296 = n % 256 ^ 4 from rfl, lowI_mod]
  simp only [Option.bind_some]
  rw [wl (lowI_in _ _) (by rw [lowI_length]; omega)]
  rfl
theorem wu64 {k : Nat} (hk : 9 ≤ k) (n : Int) {u} {b1 : List Int} (h : b1.length ≤ 140737488350000) : num_Writer_U64_2 k n u b1 = some (u, b1 ++ lowI n 8, ()) := by
  unfold num_Writer_U64_2 num_Writer_U64_2.c
  rw [show (8 : Int) = ((8 : Nat) : Int) from rfl, num_lay_eq hk _ 8 (by omega)]
  simp only [Option.bind_some]
  rw [wl (lowI_in _ _) (by rw [lowI_length]; omega)]
  rfl
theorem wbig {k : Nat} (hk : 9 ≤ k) (n : Int) {u} {b1 : List Int} (h : b1.length ≤ 140737488350000) : num_Writer_Big16_2 k (IntKind.u16.wrap n) u b1 = some (u, b1 ++ (lowI n 2).reverse, ()) := by
  unfold num_Writer_Big16_2 num_Writer_Big16_2.c
  dsimp only
  have e : bitsOp .or .u16 (shlOp .u16 (IntKind.u16.wrap n) 8) (shrOp .u16 (IntKind.u16.wrap n) 8) = IntKind.u16.wrap (leI (lowI n 2).reverse) := by
    have hw : IntKind.u16.wrap n = n % 256 + 256 * (n / 256 % 256) := by rw [u16_mod]; omega
    rw [hw, big16_val (by omega) (by omega), u16_mod]
    simp only [lowI, List.reverse_cons, List.reverse_nil, List.nil_append, List.cons_append, leI]
    omega
  rw [e, wu16 hk _ h]
  have e2 : lowI (leI (lowI n 2).reverse) 2 = (lowI n 2).reverse := by
    have := lowI_leI (bytesIn_reverse (lowI_in n 2))
    rw [List.length_reverse, lowI_length] at this
    exact this
  rw [e2]
  rfl
theorem wcnt {k : Nat} (hk : 9 ≤ k) (n : Int) {u} {b1 : List Int} (h : b1.length ≤ 140737488350000) : num_Writer_Count_2 k n u b1 = some (u, b1 ++ cBytes n, ()) := by
  unfold num_Writer_Count_2 num_Writer_Count_2.c
  rw [num_Count_eq hk]
  simp only [Option.bind_some]
  have := cBytes_le n
  rw [wl (cBytes_in _) (by omega)]
  rfl
theorem wstr {k : Nat} (hk : 9 ≤ k) (s : ByteArray) {u} {b1 : List Int} (h : b1.length + s.size ≤ 140737488350000) : num_Writer_String_2 k s u b1 = some (u, b1 ++ (cBytes (s.size : Int) ++ ofBytes s), ()) := by
  unfold num_Writer_String_2 num_Writer_String_2.c
  have := cBytes_le (s.size : Int)
  rw [u64_in (by omega), wcnt hk _ (by omega)]
  simp only [Option.bind_some]
  rw [wb (by rw [List.length_append]; omega), List.append_assoc]
  rfl

theorem put2_eq {k : Nat} (hk : 9 ≤ k) (a : Act1) (hn : 0 ≤ a.2.2.1 ∧ a.2.2.1 ≤ 18446744073709551615) {u} {b1 : List Int} (h : b1.length + a.2.2.2.1.size ≤ 140737488350000) :
    bedrocklaw01_put_2 k a u b1 = some (bytesOf (putL a), u, b1 ++ putL a, ()) := by
  unfold bedrocklaw01_put_2 bedrocklaw01_put_2.c putL
  dsimp only
  by_cases h0 : a.1 = 0
  · rw [cond_true' (by simpa using h0), if_pos h0, wbyte hk _ (by omega)]
    simp only [Option.bind_some]
    rw [show (1 : Int) = ((1 : Nat) : Int) from rfl, bedrockref01_Low_eq hk _ hn 1 (by omega)]
    rfl
  rw [cond_false' (by simpa using h0), if_neg h0]
  by_cases h1 : a.1 = 1
  · rw [cond_true' (by simpa using h1), if_pos h1, wu16 hk _ (by omega)]
    simp only [Option.bind_some]
    rw [show (2 : Int) = ((2 : Nat) : Int) from rfl, bedrockref01_Low_eq hk _ hn 2 (by omega)]
    rfl
  rw [cond_false' (by simpa using h1), if_neg h1]
  by_cases h2 : a.1 = 2
  · rw [cond_true' (by simpa using h2), if_pos h2, wu32 hk _ (by omega)]
    simp only [Option.bind_some]
    rw [show (4 : Int) = ((4 : Nat) : Int) from rfl, bedrockref01_Low_eq hk _ hn 4 (by omega)]
    rfl
  rw [cond_false' (by simpa using h2), if_neg h2]
  by_cases h3 : a.1 = 3
  · rw [cond_true' (by simpa using h3), if_pos h3, wu64 hk _ (by omega)]
    simp only [Option.bind_some]
    rw [show (8 : Int) = ((8 : Nat) : Int) from rfl, bedrockref01_Low_eq hk _ hn 8 (by omega)]
    rfl
  rw [cond_false' (by simpa using h3), if_neg h3]
  by_cases h4 : a.1 = 4
  · rw [cond_true' (by simpa using h4), if_pos h4, wbig hk _ (by omega)]
    simp only [Option.bind_some]
    rw [show (2 : Int) = ((2 : Nat) : Int) from rfl, bedrockref01_Low_eq hk _ hn 2 (by omega)]
    simp only [Option.bind_some]
    rw [turned_eq (by rw [bytesOf_size, lowI_length]; omega) (by rw [bytesOf_size, lowI_length]; omega), ofBytes_bytesOf (lowI_in _ _)]
    rfl
  rw [cond_false' (by simpa using h4), if_neg h4]
  by_cases h5 : a.1 = 5
  · rw [cond_true' (by simpa using h5), if_pos h5, wcnt hk _ (by omega)]
    simp only [Option.bind_some]
    rw [bedrockref01_Count_eq hk _ hn]
    rfl
  rw [cond_false' (by simpa using h5), if_neg h5]
  by_cases h6 : a.1 = 6
  · rw [cond_true' (by simpa using h6), if_pos h6, wb (by omega)]
    simp only [Option.bind_some]
    rw [bytesOf_ofBytes]
  rw [cond_false' (by simpa using h6), if_neg h6]
  by_cases h7 : a.1 = 7
  · rw [cond_true' (by simpa using h7), if_pos h7, wstr hk _ (by omega)]
    simp only [Option.bind_some]
    have := cBytes_le (a.2.2.2.1.size : Int)
    rw [u64_in (by omega), bedrockref01_Count_eq hk _ (by omega)]
    simp only [Option.bind_some]
    rw [cond_true' (ble_of (by rw [bytesOf_size]; omega))]
    have e : bytesOf (cBytes (a.2.2.2.1.size : Int)) ++ a.2.2.2.1 = bytesOf (cBytes (a.2.2.2.1.size : Int) ++ ofBytes a.2.2.2.1) := by
      conv => lhs; rhs; rw [← bytesOf_ofBytes a.2.2.2.1]
      rw [bytesOf_append]
    rw [e]
  rw [cond_false' (by simpa using h7), if_neg h7]
  by_cases h8 : a.1 = 8
  · rw [cond_true' (by simpa using h8), if_pos h8]
    have e : List.take 32 (List.drop 0 (hashL a.2.1)) = hashL a.2.1 := by rw [List.drop_zero]; exact List.take_of_length_le (by rw [hashL_length]; omega)
    show (num_Writer_Hash_2 k (hashL a.2.1) _ b1).bind _ = _
    unfold num_Writer_Hash_2 num_Writer_Hash_2.c
    dsimp only
    rw [e, wl (hashL_in _) (by rw [hashL_length]; omega)]
    simp only [Option.bind_some]
    show some (bytesOf (List.take 32 (List.drop 0 (hashL a.2.1))), _) = _
    rw [e]
  rw [cond_false' (by simpa using h8), if_neg h8]
  unfold num_Writer_Bool_2 num_Writer_Bool_2.c
  have ht : Int.tmod a.2.2.1 2 = a.2.2.1 % 2 := Int.tmod_eq_emod_of_nonneg hn.1
  rw [ht]
  have w1 := wbyte hk 1 (u := (((), ((), ())), ())) (b1 := b1) (by omega)
  have w0 := wbyte hk 0 (u := (((), ((), ())), ())) (b1 := b1) (by omega)
  rw [show IntKind.u8.wrap 1 = 1 from rfl] at w1
  rw [show IntKind.u8.wrap 0 = 0 from rfl] at w0
  rw [w1, w0]
  simp only [Option.bind_some]
  by_cases hb : a.2.2.1 % 2 = 1
  · rw [hb, beq_self_eq_true, cond_true]
    simp only [Option.bind_some]
    rw [show (1 : Int) = ((1 : Nat) : Int) from rfl, bedrockref01_Low_eq hk _ (by omega) 1 (by omega)]
    rfl
  · have hz : a.2.2.1 % 2 = 0 := by omega
    rw [hz, show ((0 : Int) == 1) = false from rfl, cond_false]
    simp only [Option.bind_some]
    rw [show (1 : Int) = ((1 : Nat) : Int) from rfl, bedrockref01_Low_eq hk _ (by omega) 1 (by omega)]
    rfl
end Go.Am
/- NumWrites: what was put is read back. -/
namespace Go.Am
open Go

theorem takeS_at {t : ByteArray} {p : Int} {m : Nat} {n : Int} (hn : n = (m : Int)) (h : p + m ≤ (t.size : Int)) : (takeS (t, p, 0, ()) n).1 = (t, p + m, 0, ()) := by
  subst hn
  unfold takeS
  dsimp only
  rw [if_neg (by simp), if_neg (by omega), if_neg (by omega)]
theorem takeS_bytes {t : ByteArray} {p : Nat} {x rest : List Int} {n : Int} (hn : n = (x.length : Int)) (h : (ofBytes t).drop p = x ++ rest) (hp : p ≤ t.size) : ofBytes (takeS (t, (p : Int), 0, ()) n).2 = x := by
  subst hn
  have hl : p + x.length + rest.length = t.size := by
    have := congrArg List.length h
    rw [List.length_drop, ofBytes_length, List.length_append] at this
    omega
  unfold takeS
  dsimp only
  rw [if_neg (by simp), if_neg (by omega), if_neg (by omega)]
  dsimp only
  rw [show ((p : Int)).toNat = p by omega, show ((p : Int) + (x.length : Int)).toNat = p + x.length by omega, ofBytes_extract, h]
  simp

theorem tcSpec_at {t : ByteArray} {p : Nat} {rest : List Int} {n : Int} (hn : 0 ≤ n ∧ n ≤ 18446744073709551615) (h : (ofBytes t).drop p = cBytes n ++ rest) (hp : p ≤ t.size) :
    tcSpec t (p : Int) = (n, (p : Int) + (cBytes n).length, 0, ()) := by
  unfold tcSpec
  rw [if_neg (by omega), show ((p : Int)).toNat = p by omega, h, cBytes_length]
  unfold cBytes
  have hlong : ∀ (x : Int) (m : Nat) (l : List Int), ¬ x < 253 → (if x = 253 then 2 else if x = 254 then 4 else 8) = m → l = lowI n m ++ rest → n < 256 ^ m → cLong n = 1 + m →
      (if x < 253 then (x, (p : Int) + 1, (0 : Int), ()) else
        let m : Nat := if x = 253 then 2 else if x = 254 then 4 else 8
        if l.length < m then ((0 : Int), (0 : Int), (4 : Int), ()) else
          let n := leI (l.take m)
          if cLong n = 1 + m then (n, (p : Int) + (1 + m), 0, ()) else (0, 0, 6, ())) = (n, (p : Int) + cLong n, (0 : Int), ()) := by
    intro x m l hx hm hl hlt hc
    rw [if_neg hx]
    simp only [hm, hl]
    have : (lowI n m ++ rest).take m = lowI n m := by
      rw [List.take_append_of_le_length (by rw [lowI_length]; omega)]
      exact List.take_of_length_le (by rw [lowI_length]; omega)
    rw [if_neg (by rw [List.length_append, lowI_length]; omega), this, leI_lowI, Int.emod_eq_of_lt hn.1 hlt, if_pos hc, hc]
  by_cases h1 : n < 253
  · rw [if_pos h1]
    simp only [lowI, List.cons_append, List.nil_append]
    rw [show n % 256 = n by omega, if_pos h1]
    unfold cLong
    rw [if_pos h1]
  · rw [if_neg h1]
    by_cases h2 : n < 65536
    · rw [if_pos h2]
      exact hlong 253 2 _ (by omega) rfl rfl (by omega) (by unfold cLong; rw [if_neg h1, if_pos h2]; rfl)
    · rw [if_neg h2]
      by_cases h3 : n < 4294967296
      · rw [if_pos h3]
        exact hlong 254 4 _ (by omega) rfl rfl (by omega) (by unfold cLong; rw [if_neg h1, if_neg h2, if_pos h3]; rfl)
      · rw [if_neg h3]
        exact hlong 255 8 _ (by omega) rfl rfl (by omega) (by unfold cLong; rw [if_neg h1, if_neg h2, if_neg h3]; rfl)

theorem countS_at {t : ByteArray} {p : Nat} {rest : List Int} {n most : Int} (hn : 0 ≤ n ∧ n ≤ 18446744073709551615) (h : (ofBytes t).drop p = cBytes n ++ rest) (hp : p ≤ t.size) (hm : n ≤ most) :
    countS (t, (p : Int), 0, ()) most = ((t, (p : Int) + (cBytes n).length, 0, ()), n) := by
  unfold countS
  rw [if_neg (by simp)]
  dsimp only
  rw [tcSpec_at hn h hp]
  dsimp only
  rw [if_neg (by omega)]

/-- The kind that a reader is asked for. -/
def kindN (a : Act1) : Int := if a.1 < 0 then 9 else if a.1 > 9 then 9 else a.1
def askN (a : Act1) : Act1 := (kindN a, (a.2.2.2.1.size : Int), 18446744073709551615, a.2.2.2.1, ())

theorem oneS_put {t : ByteArray} (ht : t.size ≤ 140737488351232) {p : Nat} {a : Act1} {rest : List Int} (hn : 0 ≤ a.2.2.1 ∧ a.2.2.1 ≤ 18446744073709551615) (h : (ofBytes t).drop p = putL a ++ rest) (hp : p ≤ t.size) :
    oneS (t, (p : Int), 0, ()) (askN a) = (t, ((p + (putL a).length : Nat) : Int), 0, ()) := by
  have hl : p + (putL a).length + rest.length = t.size := by
    have := congrArg List.length h
    rw [List.length_drop, ofBytes_length, List.length_append] at this
    omega
  have hpush : ∀ m : Nat, (putL a).length = m → (takeS (t, (p : Int), 0, ()) (m : Int)).1 = (t, ((p + (putL a).length : Nat) : Int), 0, ()) := by
    intro m hm
    rw [takeS_at (m := m) rfl (by omega), hm, Int.natCast_add]
  unfold oneS askN
  dsimp only
  by_cases h0 : a.1 = 0
  · rw [show kindN a = 0 by unfold kindN; omega, if_pos rfl]
    exact hpush 1 (by unfold putL; rw [if_pos h0, lowI_length])
  by_cases h1 : a.1 = 1
  · rw [show kindN a = 1 by unfold kindN; omega, if_neg (by omega), if_pos rfl]
    exact hpush 2 (by unfold putL; rw [if_neg h0, if_pos h1, lowI_length])
  by_cases h2 : a.1 = 2
  · rw [show kindN a = 2 by unfold kindN; omega, if_neg (by omega), if_neg (by omega), if_pos rfl]
    exact hpush 4 (by unfold putL; rw [if_neg h0, if_neg h1, if_pos h2, lowI_length])
  by_cases h3 : a.1 = 3
  · rw [show kindN a = 3 by unfold kindN; omega, if_neg (by omega), if_neg (by omega), if_neg (by omega), if_pos rfl]
    exact hpush 8 (by unfold putL; rw [if_neg h0, if_neg h1, if_neg h2, if_pos h3, lowI_length])
  by_cases h4 : a.1 = 4
  · rw [show kindN a = 4 by unfold kindN; omega, if_neg (by omega), if_neg (by omega), if_neg (by omega), if_neg (by omega), if_pos rfl]
    exact hpush 2 (by unfold putL; rw [if_neg h0, if_neg h1, if_neg h2, if_neg h3, if_pos h4, List.length_reverse, lowI_length])
  by_cases h5 : a.1 = 5
  · rw [show kindN a = 5 by unfold kindN; omega, if_neg (by omega), if_neg (by omega), if_neg (by omega), if_neg (by omega), if_neg (by omega), if_pos rfl]
    have e : putL a = cBytes a.2.2.1 := by unfold putL; rw [if_neg h0, if_neg h1, if_neg h2, if_neg h3, if_neg h4, if_pos h5]
    rw [e] at h ⊢
    rw [countS_at hn h hp (by omega), Int.natCast_add]
  by_cases h6 : a.1 = 6
  · rw [show kindN a = 6 by unfold kindN; omega, if_neg (by omega), if_neg (by omega), if_neg (by omega), if_neg (by omega), if_neg (by omega), if_neg (by omega), if_pos rfl]
    exact hpush _ (by unfold putL; rw [if_neg h0, if_neg h1, if_neg h2, if_neg h3, if_neg h4, if_neg h5, if_pos h6, ofBytes_length])
  by_cases h7 : a.1 = 7
  · rw [show kindN a = 7 by unfold kindN; omega, if_neg (by omega), if_neg (by omega), if_neg (by omega), if_neg (by omega), if_neg (by omega), if_neg (by omega), if_neg (by omega), if_pos rfl]
    have e : putL a = cBytes (a.2.2.2.1.size : Int) ++ ofBytes a.2.2.2.1 := by unfold putL; rw [if_neg h0, if_neg h1, if_neg h2, if_neg h3, if_neg h4, if_neg h5, if_neg h6, if_pos h7]
    have hz : (putL a).length = (cBytes (a.2.2.2.1.size : Int)).length + a.2.2.2.1.size := by rw [e, List.length_append, ofBytes_length]
    rw [e, List.append_assoc] at h
    unfold stringS
    dsimp only
    rw [if_neg (by simp), if_neg (by omega), u64_in (by omega), countS_at (by omega) h hp (by omega)]
    dsimp only
    rw [i64_in (by omega), takeS_at (m := a.2.2.2.1.size) rfl (by omega)]
    dsimp only
    rw [if_neg (by simp), takeS_at (m := a.2.2.2.1.size) rfl (by omega), hz]
    simp only [Int.natCast_add, Int.add_assoc]
  by_cases h8 : a.1 = 8
  · rw [show kindN a = 8 by unfold kindN; omega, if_neg (by omega), if_neg (by omega), if_neg (by omega), if_neg (by omega), if_neg (by omega), if_neg (by omega), if_neg (by omega), if_neg (by omega), if_pos rfl]
    exact hpush 32 (by unfold putL; rw [if_neg h0, if_neg h1, if_neg h2, if_neg h3, if_neg h4, if_neg h5, if_neg h6, if_neg h7, if_pos h8, hashL_length])
  rw [show kindN a = 9 by unfold kindN; (split; · rfl); (split; · rfl); omega, if_neg (by omega), if_neg (by omega), if_neg (by omega), if_neg (by omega), if_neg (by omega), if_neg (by omega), if_neg (by omega), if_neg (by omega), if_neg (by omega), if_pos rfl]
  have e : putL a = lowI (a.2.2.1 % 2) 1 := by unfold putL; rw [if_neg h0, if_neg h1, if_neg h2, if_neg h3, if_neg h4, if_neg h5, if_neg h6, if_neg h7, if_neg h8, Int.tmod_eq_emod_of_nonneg hn.1]
  have hz : (putL a).length = 1 := by rw [e, lowI_length]
  unfold boolS
  rw [if_neg (by simp)]
  have hN : numS (t, (p : Int), 0, ()) 1 = a.2.2.1 % 2 := by
    unfold numS
    rw [takeS_bytes (x := putL a) (by rw [hz]; rfl) h hp, e, leI_lowI]
    omega
  rw [hN, if_neg (by omega)]
  exact hpush 1 hz
end Go.Am
/- NumWrites: the law. -/
namespace Go.Am
open Go

abbrev act0 : Act1 := (0, 0, 0, ByteArray.empty, ())
/-- What i actions put. -/
def puts (l : List Act1) : Nat → List Int
  | 0 => []
  | i + 1 => puts l i ++ putL (l.getD i act0)
theorem puts_in (l : List Act1) : ∀ i, bytesIn (puts l i)
  | 0 => fun x hx => by simp [puts] at hx
  | i + 1 => fun x hx => (List.mem_append.1 hx).elim (puts_in l i x) (putL_in _ x)
theorem puts_more (l : List Act1) : ∀ {i n : Nat}, i ≤ n → ∃ r, puts l n = puts l i ++ r
  | i, 0, h => ⟨[], by rw [show i = 0 by omega]; simp⟩
  | i, n + 1, h => by
    rcases Nat.lt_or_ge i (n + 1) with g | g
    · obtain ⟨r, hr⟩ := puts_more l (i := i) (n := n) (by omega)
      exact ⟨r ++ putL (l.getD n act0), by rw [puts, hr, List.append_assoc]⟩
    · exact ⟨[], by rw [show i = n + 1 by omega]; simp⟩
theorem puts_length {l : List Act1} (hs : ∀ i, i < l.length → (l.getD i act0).2.2.2.1.size ≤ 1048576) : ∀ i, i ≤ l.length → (puts l i).length ≤ i * 1048608
  | 0, _ => by simp [puts]
  | i + 1, h => by
    have ih := puts_length hs i (by omega)
    have := putL_length (l.getD i act0)
    have := hs i (by omega)
    rw [puts, List.length_append]
    omega

abbrev wu : (Unit × (Unit × Unit)) × Unit := (((), ((), ())), ())

theorem end_eq (k : Nat) (s : ByteArray) (h : s.size ≤ 140737488351232) : num_Reader_End k (s, (s.size : Int), 0, ()) = some (0, (s, (s.size : Int), 0, ()), ()) := by
  unfold num_Reader_End num_Reader_End.c
  dsimp only
  have er : ∀ s p e, num_Reader_Err k (s, p, e, ()) = some (e, (s, p, e, ()), ()) := fun _ _ _ => rfl
  have lf : ∀ s p e, num_Reader_Left k (s, p, e, ()) = some (IntKind.i64.wrap ((s.size : Int) - p), (s, p, e, ()), ()) := fun _ _ _ => rfl
  rw [er]
  simp only [Option.bind_some]
  rw [beq_self_eq_true, cond_true, lf]
  simp only [Option.bind_some]
  rw [i64_in (by omega), bif_no (by omega), er]
  rfl

theorem numWrites_true {l : List Act1} (hl : l.length ≤ 1048576) (hs : ∀ i, i < l.length → (l.getD i act0).2.2.2.1.size ≤ 1048576) (hx : ∀ i, i < l.length → 0 ≤ (l.getD i act0).2.2.1 ∧ (l.getD i act0).2.2.1 ≤ 18446744073709551615) :
    bedrocklaw01_NumWrites (l.length + 20) l = some (true, ()) := by
  have hz : ∀ i, i ≤ l.length → (puts l i).length ≤ 1048576 * 1048608 := fun i hi => Nat.le_trans (puts_length hs i hi) (Nat.mul_le_mul_right _ (by omega))
  unfold bedrocklaw01_NumWrites bedrocklaw01_NumWrites.c
  generalize hk : l.length + 20 = k
  rw [show num_NewWriter k = some (wu, [], ()) from rfl]
  simp only [Option.bind_some]
  have hp0 : bedrocklaw01_NumWrites.p0 k (l, wu, [], wu, [], ()) = some (.inr (l, wu, [], wu, [], ())) := by
    unfold bedrocklaw01_NumWrites.p0
    simp only [bedrocklaw01_NumWrites.p0.r]
    rw [awake01 (by omega)]
    rfl
  rw [hp0]
  simp only [Option.bind_some]
  have hl1 : bedrocklaw01_NumWrites.l1 k k (l, bytesOf [], (0 : Int), wu, [], wu, [], ()) = some (.inr (l, bytesOf (puts l l.length), wu, puts l l.length, wu, [], ())) := by
    show bedrocklaw01_NumWrites.l1 k k (l, bytesOf (puts l 0), ((0 : Nat) : Int), wu, puts l 0, wu, [], ()) = _
    refine loop_from0 (r := bedrocklaw01_NumWrites.l1.r k) (fun i => (l, bytesOf (puts l i), (i : Int), wu, puts l i, wu, [], ())) l.length _ ?_ ?_ (by omega)
    · intro i hi kn ke
      simp only [bedrocklaw01_NumWrites.l1.r]
      have z1 := hz i (by omega)
      have z2 := hz (i + 1) (by omega)
      have hput : (puts l (i + 1)).length = (puts l i).length + (putL (l.getD i act0)).length := by rw [puts, List.length_append]
      rw [bif_yes (by omega), bif_yes (by omega), show (i : Int).toNat = i by omega]
      show (bedrocklaw01_put_2 k (l.getD i act0) wu (puts l i)).bind _ = _
      rw [put2_eq (by omega) _ (hx i hi) (by have := hs i hi; omega)]
      simp only [Option.bind_some]
      rw [cond_true' (ble_of (by rw [bytesOf_size, bytesOf_size]; omega)), bytesOf_append, show puts l i ++ putL (l.getD i act0) = puts l (i + 1) from rfl]
      show (num_Writer_Len_2 k wu (puts l (i + 1))).bind _ = _
      rw [show num_Writer_Len_2 k wu (puts l (i + 1)) = some (((puts l (i + 1)).length : Int), wu, puts l (i + 1), ()) from rfl]
      simp only [Option.bind_some]
      rw [bytesOf_size, bne_self_eq_false, cond_false, i64_in (n := (i : Int) + 1) (by omega)]
      rfl
    · intro kn ke
      simp only [bedrocklaw01_NumWrites.l1.r]
      rw [bif_no (by omega)]
  rw [show (⟨List.toArray []⟩ : ByteArray) = bytesOf [] from rfl, hl1]
  simp only [Option.bind_some]
  have hlast := hz l.length (Nat.le_refl _)
  have hp2 : bedrocklaw01_NumWrites.p2 k (l, bytesOf (puts l l.length), wu, puts l l.length, wu, [], ()) = some (.inr (l, bytesOf (puts l l.length), ())) := by
    unfold bedrocklaw01_NumWrites.p2
    simp only [bedrocklaw01_NumWrites.p2.r]
    unfold num_Writer_Text_2 num_Writer_Text_2.c
    rw [cond_true' (ble_of (by omega))]
    simp only [Option.bind_some]
    rw [strEq_self, show num_Writer_Len_2 k (((), ((), ())), ()) [] = some (0, wu, [], ()) from rfl]
    simp only [Option.bind_some, Bool.not_true, cond_false, bne_self_eq_false, List.length_nil]
    rw [cond_true' (ble_of (by omega))]
    simp only [Option.bind_some]
    rw [show (⟨#[]⟩ : ByteArray) = bytesOf [] from rfl, strEq_self]
    rfl
  rw [hp2]
  simp only [Option.bind_some]
  generalize ht : bytesOf (puts l l.length) = t
  have hts : t.size = (puts l l.length).length := by rw [← ht, bytesOf_size]
  have hto : ofBytes t = puts l l.length := by rw [← ht, ofBytes_bytesOf (puts_in l _)]
  rw [show num_NewReader k t = some ((t, 0, 0, ()), ()) from rfl]
  simp only [Option.bind_some]
  have hl3 : bedrocklaw01_NumWrites.l3 k k (l, (0 : Int), (t, 0, 0, ()), (t, 0, 0, ()), ()) = some (.inr ((t, (t.size : Int), 0, ()), ())) := by
    show bedrocklaw01_NumWrites.l3 k k (l, ((0 : Nat) : Int), (t, (((puts l 0).length : Nat) : Int), 0, ()), (t, (((puts l 0).length : Nat) : Int), 0, ()), ()) = _
    refine loop_from0 (r := bedrocklaw01_NumWrites.l3.r k) (fun i => (l, (i : Int), (t, (((puts l i).length : Nat) : Int), 0, ()), (t, (((puts l i).length : Nat) : Int), 0, ()), ())) l.length _ ?_ ?_ (by omega)
    · intro i hi kn ke
      simp only [bedrocklaw01_NumWrites.l3.r]
      obtain ⟨r, hr⟩ := puts_more l (i := i + 1) (n := l.length) (by omega)
      have hlen := congrArg List.length hr
      rw [List.length_append] at hlen
      have hput : (puts l (i + 1)).length = (puts l i).length + (putL (l.getD i act0)).length := by rw [puts, List.length_append]
      rw [puts, List.append_assoc] at hr
      have hdrop : (ofBytes t).drop (puts l i).length = putL (l.getD i act0) ++ r := by
        rw [hto, hr, List.drop_left]
      have hask := oneS_put (t := t) (by omega) (hx i hi) hdrop (by omega)
      rw [bif_yes (by omega), bif_yes (by omega), show (i : Int).toNat = i by omega]
      show (bedrocklaw01_NumWrites.p4 k (l, (i : Int), (t, (((puts l i).length : Nat) : Int), 0, ()), (t, (((puts l i).length : Nat) : Int), 0, ()), l.getD i act0, ())).bind _ = _
      generalize l.getD i act0 = a at *
      have hp4 : bedrocklaw01_NumWrites.p4 k (l, (i : Int), (t, (((puts l i).length : Nat) : Int), 0, ()), (t, (((puts l i).length : Nat) : Int), 0, ()), a, ()) =
          some (l, (i : Int), (t, (((puts l i).length : Nat) : Int), 0, ()), (t, (((puts l i).length : Nat) : Int), 0, ()), (kindN a, a.2.1, a.2.2.1, a.2.2.2.1, ()), ()) := by
        unfold bedrocklaw01_NumWrites.p4 kindN
        simp only [bedrocklaw01_NumWrites.p4.r]
        by_cases h1 : a.1 < 0
        · rw [bif_yes h1, if_pos h1]
        · rw [bif_no h1, if_neg h1]
          by_cases h2 : a.1 > 9
          · rw [bif_yes h2, if_pos h2]
          · rw [bif_no h2, if_neg h2]
      rw [hp4]
      simp only [Option.bind_some]
      show (bedrocklaw01_one k (t, (((puts l i).length : Nat) : Int), 0, ()) (askN a) (t, (((puts l i).length : Nat) : Int), 0, ())).bind _ = _
      rw [one_eq (by omega) ⟨by dsimp only; omega, by dsimp only; omega, by dsimp only; omega⟩, hask, ← hput]
      simp only [Option.bind_some, Bool.not_true, cond_false]
      rw [i64_in (n := (i : Int) + 1) (by omega)]
      rfl
    · intro kn ke
      simp only [bedrocklaw01_NumWrites.l3.r]
      rw [bif_no (by omega), hts]
  rw [hl3]
  simp only [Option.bind_some]
  rw [end_eq k t (by omega)]
  rfl
end Go.Am
