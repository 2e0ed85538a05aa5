/- A part of a proof: a machine of abstract values that tells what functions of the program compute, and the plain facts on them. -/
import Derived.Test.YtegkgkighkpkiaaAm8
import Derived.KernelRfl
import Derived.Test.YtegkgkighkpkiaaAm5
import Derived.Test.YtegkgkighkpkiaaAm7
set_option linter.unusedVariables false
set_option linter.unusedSimpArgs false
set_option linter.unnecessarySimpa false
set_option linter.unusedSectionVars false
namespace Go.Am
open Go Go.Proofs
set_option maxRecDepth 100000
/-! 65 (*bedrock/num.Reader).Fail · with blocks -/
abbrev num_Reader_Fail_2.τ : Type := (Unit)
def num_Reader_Fail_2.c (k : Nat) {ρ : Type} (e : Int) (K : num_Reader_Fail_2.τ → Option ρ) : Option ρ :=
  K ()
def num_Reader_Fail_2 (k : Nat) (e : Int) : Option num_Reader_Fail_2.τ := num_Reader_Fail_2.c k e some
def num_Reader_Fail_2.T : CallT := ⟨[.nilp, .dat (.int .i64)], [], 0⟩
def num_Reader_Fail_2.os : List Out := [⟨.ret, [.auto 0], ⟨[], []⟩⟩]
def num_Reader_Fail_2.sem (k : Nat) : CallSem := callH num_Reader_Fail_2.T num_Reader_Fail_2.os fun x => num_Reader_Fail_2 k x.1
noncomputable def num_Reader_Fail_2.ctx (k : Nat) : Ctx := ⟨Try.prog, gam []⟩
theorem num_Reader_Fail_2.gok (k : Nat) : ∀ f, SemOK Try.prog f ((num_Reader_Fail_2.ctx k).Γ f) := gam_nil
def num_Reader_Fail_2.ann (k : Nat) : Ann := .nil
theorem num_Reader_Fail_2.body (k : Nat) : BodyH (num_Reader_Fail_2.ctx k) Try.f65 (Func.code Try.f65) (num_Reader_Fail_2.ann k) num_Reader_Fail_2.T num_Reader_Fail_2.os (fun x K => num_Reader_Fail_2.c k x.1 K) := by
  intro ρ x K; kernel_rfl
theorem num_Reader_Fail_2.sem_ok (k : Nat) : SemOK Try.prog 65 (num_Reader_Fail_2.sem k) :=
  callH_ok (C := num_Reader_Fail_2.ctx k) (num_Reader_Fail_2.gok k) Try.mix (c := Func.code Try.f65) (ann := num_Reader_Fail_2.ann k) (T := num_Reader_Fail_2.T) (os := num_Reader_Fail_2.os) (fun x K => num_Reader_Fail_2.c k x.1 K) Try.func65 (by kernel_rfl) (by kernel_rfl) AnnOK.nil (num_Reader_Fail_2.body k) (by kernel_rfl) (by kernel_rfl) (by kernel_rfl)

/-! 104 (*bedrock/num.Writer).Bytes · with blocks -/
abbrev num_Writer_Bytes.τ : Type := (Unit)
def num_Writer_Bytes.c (k : Nat) {ρ : Type} (s : ByteArray) (K : num_Writer_Bytes.τ → Option ρ) : Option ρ :=
  K ()
def num_Writer_Bytes (k : Nat) (s : ByteArray) : Option num_Writer_Bytes.τ := num_Writer_Bytes.c k s some
def num_Writer_Bytes.T : CallT := ⟨[.nilp, .dat .str], [], 0⟩
def num_Writer_Bytes.os : List Out := [⟨.ret, [.auto 0], ⟨[], []⟩⟩]
def num_Writer_Bytes.sem (k : Nat) : CallSem := callH num_Writer_Bytes.T num_Writer_Bytes.os fun x => num_Writer_Bytes k x.1
noncomputable def num_Writer_Bytes.ctx (k : Nat) : Ctx := ⟨Try.prog, gam []⟩
theorem num_Writer_Bytes.gok (k : Nat) : ∀ f, SemOK Try.prog f ((num_Writer_Bytes.ctx k).Γ f) := gam_nil
def num_Writer_Bytes.ann (k : Nat) : Ann := .nil
theorem num_Writer_Bytes.body (k : Nat) : BodyH (num_Writer_Bytes.ctx k) Try.f104 (Func.code Try.f104) (num_Writer_Bytes.ann k) num_Writer_Bytes.T num_Writer_Bytes.os (fun x K => num_Writer_Bytes.c k x.1 K) := by
  intro ρ x K; kernel_rfl
theorem num_Writer_Bytes.sem_ok (k : Nat) : SemOK Try.prog 104 (num_Writer_Bytes.sem k) :=
  callH_ok (C := num_Writer_Bytes.ctx k) (num_Writer_Bytes.gok k) Try.mix (c := Func.code Try.f104) (ann := num_Writer_Bytes.ann k) (T := num_Writer_Bytes.T) (os := num_Writer_Bytes.os) (fun x K => num_Writer_Bytes.c k x.1 K) Try.func104 (by kernel_rfl) (by kernel_rfl) AnnOK.nil (num_Writer_Bytes.body k) (by kernel_rfl) (by kernel_rfl) (by kernel_rfl)

/-! 98 (*bedrock/num.Writer).Byte · with blocks -/
abbrev num_Writer_Byte.τ : Type := (Unit)
def num_Writer_Byte.c (k : Nat) {ρ : Type} (b : Int) (K : num_Writer_Byte.τ → Option ρ) : Option ρ :=
  (num_lay k (IntKind.wrap IntKind.u64 b) (1 : Int)).bind fun t0 => (num_Writer_Bytes k t0.1).bind fun t1 => K ()
def num_Writer_Byte (k : Nat) (b : Int) : Option num_Writer_Byte.τ := num_Writer_Byte.c k b some
def num_Writer_Byte.T : CallT := ⟨[.nilp, .dat (.int .u8)], [], 0⟩
def num_Writer_Byte.os : List Out := [⟨.ret, [.auto 0], ⟨[], []⟩⟩]
def num_Writer_Byte.sem (k : Nat) : CallSem := callH num_Writer_Byte.T num_Writer_Byte.os fun x => num_Writer_Byte k x.1
noncomputable def num_Writer_Byte.ctx (k : Nat) : Ctx := ⟨Try.prog, gam [(81, (num_lay.sem k)), (104, (num_Writer_Bytes.sem k))]⟩
theorem num_Writer_Byte.gok (k : Nat) : ∀ f, SemOK Try.prog f ((num_Writer_Byte.ctx k).Γ f) := (gam_cons (num_lay.sem_ok k) (gam_cons (num_Writer_Bytes.sem_ok k) gam_nil))
def num_Writer_Byte.ann (k : Nat) : Ann := .nil
theorem num_Writer_Byte.body (k : Nat) : BodyH (num_Writer_Byte.ctx k) Try.f98 (Func.code Try.f98) (num_Writer_Byte.ann k) num_Writer_Byte.T num_Writer_Byte.os (fun x K => num_Writer_Byte.c k x.1 K) := by
  intro ρ x K; kernel_rfl
theorem num_Writer_Byte.sem_ok (k : Nat) : SemOK Try.prog 98 (num_Writer_Byte.sem k) :=
  callH_ok (C := num_Writer_Byte.ctx k) (num_Writer_Byte.gok k) Try.mix (c := Func.code Try.f98) (ann := num_Writer_Byte.ann k) (T := num_Writer_Byte.T) (os := num_Writer_Byte.os) (fun x K => num_Writer_Byte.c k x.1 K) Try.func98 (by kernel_rfl) (by kernel_rfl) AnnOK.nil (num_Writer_Byte.body k) (by kernel_rfl) (by kernel_rfl) (by kernel_rfl)

/-! 99 (*bedrock/num.Writer).U16 · with blocks -/
abbrev num_Writer_U16.τ : Type := (Unit)
def num_Writer_U16.c (k : Nat) {ρ : Type} (n : Int) (K : num_Writer_U16.τ → Option ρ) : Option ρ :=
  (num_lay k (IntKind.wrap IntKind.u64 n) (2 : Int)).bind fun t0 => (num_Writer_Bytes k t0.1).bind fun t1 => K ()
def num_Writer_U16 (k : Nat) (n : Int) : Option num_Writer_U16.τ := num_Writer_U16.c k n some
def num_Writer_U16.T : CallT := ⟨[.nilp, .dat (.int .u16)], [], 0⟩
def num_Writer_U16.os : List Out := [⟨.ret, [.auto 0], ⟨[], []⟩⟩]
def num_Writer_U16.sem (k : Nat) : CallSem := callH num_Writer_U16.T num_Writer_U16.os fun x => num_Writer_U16 k x.1
noncomputable def num_Writer_U16.ctx (k : Nat) : Ctx := ⟨Try.prog, gam [(81, (num_lay.sem k)), (104, (num_Writer_Bytes.sem k))]⟩
theorem num_Writer_U16.gok (k : Nat) : ∀ f, SemOK Try.prog f ((num_Writer_U16.ctx k).Γ f) := (gam_cons (num_lay.sem_ok k) (gam_cons (num_Writer_Bytes.sem_ok k) gam_nil))
def num_Writer_U16.ann (k : Nat) : Ann := .nil
theorem num_Writer_U16.body (k : Nat) : BodyH (num_Writer_U16.ctx k) Try.f99 (Func.code Try.f99) (num_Writer_U16.ann k) num_Writer_U16.T num_Writer_U16.os (fun x K => num_Writer_U16.c k x.1 K) := by
  intro ρ x K; kernel_rfl
theorem num_Writer_U16.sem_ok (k : Nat) : SemOK Try.prog 99 (num_Writer_U16.sem k) :=
  callH_ok (C := num_Writer_U16.ctx k) (num_Writer_U16.gok k) Try.mix (c := Func.code Try.f99) (ann := num_Writer_U16.ann k) (T := num_Writer_U16.T) (os := num_Writer_U16.os) (fun x K => num_Writer_U16.c k x.1 K) Try.func99 (by kernel_rfl) (by kernel_rfl) AnnOK.nil (num_Writer_U16.body k) (by kernel_rfl) (by kernel_rfl) (by kernel_rfl)

/-! 100 (*bedrock/num.Writer).U32 · with blocks -/
abbrev num_Writer_U32.τ : Type := (Unit)
def num_Writer_U32.c (k : Nat) {ρ : Type} (n : Int) (K : num_Writer_U32.τ → Option ρ) : Option ρ :=
  (num_lay k (IntKind.wrap IntKind.u64 n) (4 : Int)).bind fun t0 => (num_Writer_Bytes k t0.1).bind fun t1 => K ()
def num_Writer_U32 (k : Nat) (n : Int) : Option num_Writer_U32.τ := num_Writer_U32.c k n some
def num_Writer_U32.T : CallT := ⟨[.nilp, .dat (.int .u32)], [], 0⟩
def num_Writer_U32.os : List Out := [⟨.ret, [.auto 0], ⟨[], []⟩⟩]
def num_Writer_U32.sem (k : Nat) : CallSem := callH num_Writer_U32.T num_Writer_U32.os fun x => num_Writer_U32 k x.1
noncomputable def num_Writer_U32.ctx (k : Nat) : Ctx := ⟨Try.prog, gam [(81, (num_lay.sem k)), (104, (num_Writer_Bytes.sem k))]⟩
theorem num_Writer_U32.gok (k : Nat) : ∀ f, SemOK Try.prog f ((num_Writer_U32.ctx k).Γ f) := (gam_cons (num_lay.sem_ok k) (gam_cons (num_Writer_Bytes.sem_ok k) gam_nil))
def num_Writer_U32.ann (k : Nat) : Ann := .nil
theorem num_Writer_U32.body (k : Nat) : BodyH (num_Writer_U32.ctx k) Try.f100 (Func.code Try.f100) (num_Writer_U32.ann k) num_Writer_U32.T num_Writer_U32.os (fun x K => num_Writer_U32.c k x.1 K) := by
  intro ρ x K; kernel_rfl
theorem num_Writer_U32.sem_ok (k : Nat) : SemOK Try.prog 100 (num_Writer_U32.sem k) :=
  callH_ok (C := num_Writer_U32.ctx k) (num_Writer_U32.gok k) Try.mix (c := Func.code Try.f100) (ann := num_Writer_U32.ann k) (T := num_Writer_U32.T) (os := num_Writer_U32.os) (fun x K => num_Writer_U32.c k x.1 K) Try.func100 (by kernel_rfl) (by kernel_rfl) AnnOK.nil (num_Writer_U32.body k) (by kernel_rfl) (by kernel_rfl) (by kernel_rfl)

/-! 101 (*bedrock/num.Writer).U64 · with blocks -/
abbrev num_Writer_U64.τ : Type := (Unit)
def num_Writer_U64.c (k : Nat) {ρ : Type} (n : Int) (K : num_Writer_U64.τ → Option ρ) : Option ρ :=
  (num_lay k n (8 : Int)).bind fun t0 => (num_Writer_Bytes k t0.1).bind fun t1 => K ()
def num_Writer_U64 (k : Nat) (n : Int) : Option num_Writer_U64.τ := num_Writer_U64.c k n some
def num_Writer_U64.T : CallT := ⟨[.nilp, .dat (.int .u64)], [], 0⟩
def num_Writer_U64.os : List Out := [⟨.ret, [.auto 0], ⟨[], []⟩⟩]
def num_Writer_U64.sem (k : Nat) : CallSem := callH num_Writer_U64.T num_Writer_U64.os fun x => num_Writer_U64 k x.1
noncomputable def num_Writer_U64.ctx (k : Nat) : Ctx := ⟨Try.prog, gam [(81, (num_lay.sem k)), (104, (num_Writer_Bytes.sem k))]⟩
theorem num_Writer_U64.gok (k : Nat) : ∀ f, SemOK Try.prog f ((num_Writer_U64.ctx k).Γ f) := (gam_cons (num_lay.sem_ok k) (gam_cons (num_Writer_Bytes.sem_ok k) gam_nil))
def num_Writer_U64.ann (k : Nat) : Ann := .nil
theorem num_Writer_U64.body (k : Nat) : BodyH (num_Writer_U64.ctx k) Try.f101 (Func.code Try.f101) (num_Writer_U64.ann k) num_Writer_U64.T num_Writer_U64.os (fun x K => num_Writer_U64.c k x.1 K) := by
  intro ρ x K; kernel_rfl
theorem num_Writer_U64.sem_ok (k : Nat) : SemOK Try.prog 101 (num_Writer_U64.sem k) :=
  callH_ok (C := num_Writer_U64.ctx k) (num_Writer_U64.gok k) Try.mix (c := Func.code Try.f101) (ann := num_Writer_U64.ann k) (T := num_Writer_U64.T) (os := num_Writer_U64.os) (fun x K => num_Writer_U64.c k x.1 K) Try.func101 (by kernel_rfl) (by kernel_rfl) AnnOK.nil (num_Writer_U64.body k) (by kernel_rfl) (by kernel_rfl) (by kernel_rfl)

/-! 102 (*bedrock/num.Writer).Big16 · with blocks -/
abbrev num_Writer_Big16.τ : Type := (Unit)
def num_Writer_Big16.c (k : Nat) {ρ : Type} (n : Int) (K : num_Writer_Big16.τ → Option ρ) : Option ρ :=
  let v0 : Int := (shlOp IntKind.u16 n (8 : Int))
  let v1 : Int := (shrOp IntKind.u16 n (8 : Int))
  (num_Writer_U16 k (bitsOp BinOp.or IntKind.u16 v0 v1)).bind fun t2 => K ()
def num_Writer_Big16 (k : Nat) (n : Int) : Option num_Writer_Big16.τ := num_Writer_Big16.c k n some
def num_Writer_Big16.T : CallT := ⟨[.nilp, .dat (.int .u16)], [], 0⟩
def num_Writer_Big16.os : List Out := [⟨.ret, [.auto 0], ⟨[], []⟩⟩]
def num_Writer_Big16.sem (k : Nat) : CallSem := callH num_Writer_Big16.T num_Writer_Big16.os fun x => num_Writer_Big16 k x.1
noncomputable def num_Writer_Big16.ctx (k : Nat) : Ctx := ⟨Try.prog, gam [(99, (num_Writer_U16.sem k))]⟩
theorem num_Writer_Big16.gok (k : Nat) : ∀ f, SemOK Try.prog f ((num_Writer_Big16.ctx k).Γ f) := (gam_cons (num_Writer_U16.sem_ok k) gam_nil)
def num_Writer_Big16.ann (k : Nat) : Ann := .nil
theorem num_Writer_Big16.body (k : Nat) : BodyH (num_Writer_Big16.ctx k) Try.f102 (Func.code Try.f102) (num_Writer_Big16.ann k) num_Writer_Big16.T num_Writer_Big16.os (fun x K => num_Writer_Big16.c k x.1 K) := by
  intro ρ x K; kernel_rfl
theorem num_Writer_Big16.sem_ok (k : Nat) : SemOK Try.prog 102 (num_Writer_Big16.sem k) :=
  callH_ok (C := num_Writer_Big16.ctx k) (num_Writer_Big16.gok k) Try.mix (c := Func.code Try.f102) (ann := num_Writer_Big16.ann k) (T := num_Writer_Big16.T) (os := num_Writer_Big16.os) (fun x K => num_Writer_Big16.c k x.1 K) Try.func102 (by kernel_rfl) (by kernel_rfl) AnnOK.nil (num_Writer_Big16.body k) (by kernel_rfl) (by kernel_rfl) (by kernel_rfl)

/-! 103 (*bedrock/num.Writer).Count · with blocks -/
abbrev num_Writer_Count.τ : Type := (Unit)
def num_Writer_Count.c (k : Nat) {ρ : Type} (n : Int) (K : num_Writer_Count.τ → Option ρ) : Option ρ :=
  (num_Count k n).bind fun t0 => (num_Writer_Bytes k t0.1).bind fun t1 => K ()
def num_Writer_Count (k : Nat) (n : Int) : Option num_Writer_Count.τ := num_Writer_Count.c k n some
def num_Writer_Count.T : CallT := ⟨[.nilp, .dat (.int .u64)], [], 0⟩
def num_Writer_Count.os : List Out := [⟨.ret, [.auto 0], ⟨[], []⟩⟩]
def num_Writer_Count.sem (k : Nat) : CallSem := callH num_Writer_Count.T num_Writer_Count.os fun x => num_Writer_Count k x.1
noncomputable def num_Writer_Count.ctx (k : Nat) : Ctx := ⟨Try.prog, gam [(19, (num_Count.sem k)), (104, (num_Writer_Bytes.sem k))]⟩
theorem num_Writer_Count.gok (k : Nat) : ∀ f, SemOK Try.prog f ((num_Writer_Count.ctx k).Γ f) := (gam_cons (num_Count.sem_ok k) (gam_cons (num_Writer_Bytes.sem_ok k) gam_nil))
def num_Writer_Count.ann (k : Nat) : Ann := .nil
theorem num_Writer_Count.body (k : Nat) : BodyH (num_Writer_Count.ctx k) Try.f103 (Func.code Try.f103) (num_Writer_Count.ann k) num_Writer_Count.T num_Writer_Count.os (fun x K => num_Writer_Count.c k x.1 K) := by
  intro ρ x K; kernel_rfl
theorem num_Writer_Count.sem_ok (k : Nat) : SemOK Try.prog 103 (num_Writer_Count.sem k) :=
  callH_ok (C := num_Writer_Count.ctx k) (num_Writer_Count.gok k) Try.mix (c := Func.code Try.f103) (ann := num_Writer_Count.ann k) (T := num_Writer_Count.T) (os := num_Writer_Count.os) (fun x K => num_Writer_Count.c k x.1 K) Try.func103 (by kernel_rfl) (by kernel_rfl) AnnOK.nil (num_Writer_Count.body k) (by kernel_rfl) (by kernel_rfl) (by kernel_rfl)

/-! 105 (*bedrock/num.Writer).String · with blocks -/
abbrev num_Writer_String.τ : Type := (Unit)
def num_Writer_String.c (k : Nat) {ρ : Type} (s : ByteArray) (K : num_Writer_String.τ → Option ρ) : Option ρ :=
  (num_Writer_Count k (IntKind.wrap IntKind.u64 (((ByteArray.size s) : Nat) : Int))).bind fun t0 => (num_Writer_Bytes k s).bind fun t1 => K ()
def num_Writer_String (k : Nat) (s : ByteArray) : Option num_Writer_String.τ := num_Writer_String.c k s some
def num_Writer_String.T : CallT := ⟨[.nilp, .dat .str], [], 0⟩
def num_Writer_String.os : List Out := [⟨.ret, [.auto 0], ⟨[], []⟩⟩]
def num_Writer_String.sem (k : Nat) : CallSem := callH num_Writer_String.T num_Writer_String.os fun x => num_Writer_String k x.1
noncomputable def num_Writer_String.ctx (k : Nat) : Ctx := ⟨Try.prog, gam [(103, (num_Writer_Count.sem k)), (104, (num_Writer_Bytes.sem k))]⟩
theorem num_Writer_String.gok (k : Nat) : ∀ f, SemOK Try.prog f ((num_Writer_String.ctx k).Γ f) := (gam_cons (num_Writer_Count.sem_ok k) (gam_cons (num_Writer_Bytes.sem_ok k) gam_nil))
def num_Writer_String.ann (k : Nat) : Ann := .nil
theorem num_Writer_String.body (k : Nat) : BodyH (num_Writer_String.ctx k) Try.f105 (Func.code Try.f105) (num_Writer_String.ann k) num_Writer_String.T num_Writer_String.os (fun x K => num_Writer_String.c k x.1 K) := by
  intro ρ x K; kernel_rfl
theorem num_Writer_String.sem_ok (k : Nat) : SemOK Try.prog 105 (num_Writer_String.sem k) :=
  callH_ok (C := num_Writer_String.ctx k) (num_Writer_String.gok k) Try.mix (c := Func.code Try.f105) (ann := num_Writer_String.ann k) (T := num_Writer_String.T) (os := num_Writer_String.os) (fun x K => num_Writer_String.c k x.1 K) Try.func105 (by kernel_rfl) (by kernel_rfl) AnnOK.nil (num_Writer_String.body k) (by kernel_rfl) (by kernel_rfl) (by kernel_rfl)

/-! 106 (*bedrock/num.Writer).Hash · with blocks -/
abbrev num_Writer_Hash.τ : Type := (Unit)
def num_Writer_Hash.c (k : Nat) {ρ : Type} (h : (List Int)) (K : num_Writer_Hash.τ → Option ρ) : Option ρ :=
  let v0 : ByteArray := (bytesOf (List.take 32 (List.drop 0 h)))
  (num_Writer_Bytes k v0).bind fun t1 => K ()
def num_Writer_Hash (k : Nat) (h : (List Int)) : Option num_Writer_Hash.τ := num_Writer_Hash.c k h some
def num_Writer_Hash.T : CallT := ⟨[.nilp, .dat (.arr 32 (.int .u8))], [], 0⟩
def num_Writer_Hash.os : List Out := [⟨.ret, [.auto 0], ⟨[], []⟩⟩]
def num_Writer_Hash.sem (k : Nat) : CallSem := callH num_Writer_Hash.T num_Writer_Hash.os fun x => num_Writer_Hash k x.1
noncomputable def num_Writer_Hash.ctx (k : Nat) : Ctx := ⟨Try.prog, gam [(104, (num_Writer_Bytes.sem k))]⟩
theorem num_Writer_Hash.gok (k : Nat) : ∀ f, SemOK Try.prog f ((num_Writer_Hash.ctx k).Γ f) := (gam_cons (num_Writer_Bytes.sem_ok k) gam_nil)
def num_Writer_Hash.ann (k : Nat) : Ann := .nil
theorem num_Writer_Hash.body (k : Nat) : BodyH (num_Writer_Hash.ctx k) Try.f106 (Func.code Try.f106) (num_Writer_Hash.ann k) num_Writer_Hash.T num_Writer_Hash.os (fun x K => num_Writer_Hash.c k x.1 K) := by
  intro ρ x K; kernel_rfl
theorem num_Writer_Hash.sem_ok (k : Nat) : SemOK Try.prog 106 (num_Writer_Hash.sem k) :=
  callH_ok (C := num_Writer_Hash.ctx k) (num_Writer_Hash.gok k) Try.mix (c := Func.code Try.f106) (ann := num_Writer_Hash.ann k) (T := num_Writer_Hash.T) (os := num_Writer_Hash.os) (fun x K => num_Writer_Hash.c k x.1 K) Try.func106 (by kernel_rfl) (by kernel_rfl) AnnOK.nil (num_Writer_Hash.body k) (by kernel_rfl) (by kernel_rfl) (by kernel_rfl)

/-! 107 (*bedrock/num.Writer).Bool · with blocks -/
abbrev num_Writer_Bool.τ : Type := (Unit)
def num_Writer_Bool.c (k : Nat) {ρ : Type} (b : Bool) (K : num_Writer_Bool.τ → Option ρ) : Option ρ :=
  bif b then ((num_Writer_Byte k (1 : Int)).bind fun t0 => K ()) else ((num_Writer_Byte k (0 : Int)).bind fun t1 => K ())
def num_Writer_Bool (k : Nat) (b : Bool) : Option num_Writer_Bool.τ := num_Writer_Bool.c k b some
def num_Writer_Bool.T : CallT := ⟨[.nilp, .dat .bool], [], 0⟩
def num_Writer_Bool.os : List Out := [⟨.ret, [.auto 0], ⟨[], []⟩⟩]
def num_Writer_Bool.sem (k : Nat) : CallSem := callH num_Writer_Bool.T num_Writer_Bool.os fun x => num_Writer_Bool k x.1
noncomputable def num_Writer_Bool.ctx (k : Nat) : Ctx := ⟨Try.prog, gam [(98, (num_Writer_Byte.sem k))]⟩
theorem num_Writer_Bool.gok (k : Nat) : ∀ f, SemOK Try.prog f ((num_Writer_Bool.ctx k).Γ f) := (gam_cons (num_Writer_Byte.sem_ok k) gam_nil)
def num_Writer_Bool.ann (k : Nat) : Ann := .nil
theorem num_Writer_Bool.body (k : Nat) : BodyH (num_Writer_Bool.ctx k) Try.f107 (Func.code Try.f107) (num_Writer_Bool.ann k) num_Writer_Bool.T num_Writer_Bool.os (fun x K => num_Writer_Bool.c k x.1 K) := by
  intro ρ x K; kernel_rfl
theorem num_Writer_Bool.sem_ok (k : Nat) : SemOK Try.prog 107 (num_Writer_Bool.sem k) :=
  callH_ok (C := num_Writer_Bool.ctx k) (num_Writer_Bool.gok k) Try.mix (c := Func.code Try.f107) (ann := num_Writer_Bool.ann k) (T := num_Writer_Bool.T) (os := num_Writer_Bool.os) (fun x K => num_Writer_Bool.c k x.1 K) Try.func107 (by kernel_rfl) (by kernel_rfl) AnnOK.nil (num_Writer_Bool.body k) (by kernel_rfl) (by kernel_rfl) (by kernel_rfl)

/-! 61 bedrock/bedrocklaw01.put · with blocks -/
abbrev bedrocklaw01_put.τ : Type := (ByteArray × Unit)
def bedrocklaw01_put.c (k : Nat) {ρ : Type} (a : (Int × (Int × (Int × (ByteArray × Unit))))) (K : bedrocklaw01_put.τ → Option ρ) : Option ρ :=
  let v0 : Int := a.2.1
  let v1 : List Int := (List.set (List.set (List.replicate 32 (0 : Int)) 0 (IntKind.wrap IntKind.u8 v0)) 1 (7 : Int))
  let v2 : Int := a.1
  bif (v2 == (0 : Int)) then (let v3 : Int := a.2.2.1
  (num_Writer_Byte k (IntKind.wrap IntKind.u8 v3)).bind fun t4 => let v5 : Int := a.2.2.1
  (bedrockref01_Low k v5 (1 : Int)).bind fun t6 => K (t6.1, ())) else (bif (v2 == (1 : Int)) then (let v7 : Int := a.2.2.1
  (num_Writer_U16 k (IntKind.wrap IntKind.u16 v7)).bind fun t8 => let v9 : Int := a.2.2.1
  (bedrockref01_Low k v9 (2 : Int)).bind fun t10 => K (t10.1, ())) else (bif (v2 == (2 : Int)) then (let v11 : Int := a.2.2.1
  (num_Writer_U32 k (IntKind.wrap IntKind.u32 v11)).bind fun t12 => let v13 : Int := a.2.2.1
  (bedrockref01_Low k v13 (4 : Int)).bind fun t14 => K (t14.1, ())) else (bif (v2 == (3 : Int)) then (let v15 : Int := a.2.2.1
  (num_Writer_U64 k v15).bind fun t16 => let v17 : Int := a.2.2.1
  (bedrockref01_Low k v17 (8 : Int)).bind fun t18 => K (t18.1, ())) else (bif (v2 == (4 : Int)) then (let v19 : Int := a.2.2.1
  (num_Writer_Big16 k (IntKind.wrap IntKind.u16 v19)).bind fun t20 => let v21 : Int := a.2.2.1
  (bedrockref01_Low k v21 (2 : Int)).bind fun t22 => (bedrockref01_Turned k t22.1).bind fun t23 => K (t23.1, ())) else (bif (v2 == (5 : Int)) then (let v24 : Int := a.2.2.1
  (num_Writer_Count k v24).bind fun t25 => let v26 : Int := a.2.2.1
  (bedrockref01_Count k v26).bind fun t27 => K (t27.1, ())) else (bif (v2 == (6 : Int)) then (let v28 : ByteArray := a.2.2.2.1
  (num_Writer_Bytes k v28).bind fun t29 => let v30 : ByteArray := a.2.2.2.1
  K (v30, ())) else (bif (v2 == (7 : Int)) then (let v31 : ByteArray := a.2.2.2.1
  (num_Writer_String k v31).bind fun t32 => let v33 : ByteArray := a.2.2.2.1
  (bedrockref01_Count k (IntKind.wrap IntKind.u64 (((ByteArray.size v33) : Nat) : Int))).bind fun t34 => let v35 : ByteArray := a.2.2.2.1
  bif (Nat.ble ((ByteArray.size t34.1) + (ByteArray.size v35)) 9223372036854775807) then (let v36 : ByteArray := (t34.1 ++ v35)
  K (v36, ())) else (none)) else (bif (v2 == (8 : Int)) then ((num_Writer_Hash k v1).bind fun t37 => let v38 : ByteArray := (bytesOf (List.take 32 (List.drop 0 v1)))
  K (v38, ())) else (let v39 : Int := a.2.2.1
  (num_Writer_Bool k ((Int.tmod v39 (2 : Int)) == (1 : Int))).bind fun t40 => let v41 : Int := a.2.2.1
  (bedrockref01_Low k (Int.tmod v41 (2 : Int)) (1 : Int)).bind fun t42 => K (t42.1, ()))))))))))
def bedrocklaw01_put (k : Nat) (a : (Int × (Int × (Int × (ByteArray × Unit))))) : Option bedrocklaw01_put.τ := bedrocklaw01_put.c k a some
def bedrocklaw01_put.T : CallT := ⟨[.nilp, .dat (.pair (.int .i64) (.pair (.int .i64) (.pair (.int .u64) (.pair .str .unit))))], [], 0⟩
def bedrocklaw01_put.os : List Out := [⟨.ret, [.freeze (.slot 0), .auto 0], ⟨[.dat .str], []⟩⟩]
def bedrocklaw01_put.sem (k : Nat) : CallSem := callH bedrocklaw01_put.T bedrocklaw01_put.os fun x => bedrocklaw01_put k x.1
noncomputable def bedrocklaw01_put.ctx (k : Nat) : Ctx := ⟨Try.prog, gam [(98, (num_Writer_Byte.sem k)), (80, (bedrockref01_Low.sem k)), (99, (num_Writer_U16.sem k)), (100, (num_Writer_U32.sem k)), (101, (num_Writer_U64.sem k)), (102, (num_Writer_Big16.sem k)), (45, (bedrockref01_Turned.sem k)), (103, (num_Writer_Count.sem k)), (17, (bedrockref01_Count.sem k)), (104, (num_Writer_Bytes.sem k)), (105, (num_Writer_String.sem k)), (106, (num_Writer_Hash.sem k)), (107, (num_Writer_Bool.sem k))]⟩
theorem bedrocklaw01_put.gok (k : Nat) : ∀ f, SemOK Try.prog f ((bedrocklaw01_put.ctx k).Γ f) := (gam_cons (num_Writer_Byte.sem_ok k) (gam_cons (bedrockref01_Low.sem_ok k) (gam_cons (num_Writer_U16.sem_ok k) (gam_cons (num_Writer_U32.sem_ok k) (gam_cons (num_Writer_U64.sem_ok k) (gam_cons (num_Writer_Big16.sem_ok k) (gam_cons (bedrockref01_Turned.sem_ok k) (gam_cons (num_Writer_Count.sem_ok k) (gam_cons (bedrockref01_Count.sem_ok k) (gam_cons (num_Writer_Bytes.sem_ok k) (gam_cons (num_Writer_String.sem_ok k) (gam_cons (num_Writer_Hash.sem_ok k) (gam_cons (num_Writer_Bool.sem_ok k) gam_nil)))))))))))))
def bedrocklaw01_put.ann (k : Nat) : Ann := .nil
theorem bedrocklaw01_put.body (k : Nat) : BodyH (bedrocklaw01_put.ctx k) Try.f61 (Func.code Try.f61) (bedrocklaw01_put.ann k) bedrocklaw01_put.T bedrocklaw01_put.os (fun x K => bedrocklaw01_put.c k x.1 K) := by
  intro ρ x K; kernel_rfl
theorem bedrocklaw01_put.sem_ok (k : Nat) : SemOK Try.prog 61 (bedrocklaw01_put.sem k) :=
  callH_ok (C := bedrocklaw01_put.ctx k) (bedrocklaw01_put.gok k) Try.mix (c := Func.code Try.f61) (ann := bedrocklaw01_put.ann k) (T := bedrocklaw01_put.T) (os := bedrocklaw01_put.os) (fun x K => bedrocklaw01_put.c k x.1 K) Try.func61 (by kernel_rfl) (by kernel_rfl) AnnOK.nil (bedrocklaw01_put.body k) (by kernel_rfl) (by kernel_rfl) (by kernel_rfl)

/-! 50 (*bedrock/num.Reader).Err · with blocks -/
abbrev num_Reader_Err_2.τ : Type := (Int × Unit)
def num_Reader_Err_2.c (k : Nat) {ρ : Type}  (K : num_Reader_Err_2.τ → Option ρ) : Option ρ :=
  K ((1 : Int), ())
def num_Reader_Err_2 (k : Nat)  : Option num_Reader_Err_2.τ := num_Reader_Err_2.c k  some
def num_Reader_Err_2.T : CallT := ⟨[.nilp], [], 0⟩
def num_Reader_Err_2.os : List Out := [⟨.ret, [.freeze (.slot 0), .auto 0], ⟨[.dat (.int .i64)], []⟩⟩]
def num_Reader_Err_2.sem (k : Nat) : CallSem := callH num_Reader_Err_2.T num_Reader_Err_2.os fun x => num_Reader_Err_2 k 
noncomputable def num_Reader_Err_2.ctx (k : Nat) : Ctx := ⟨Try.prog, gam []⟩
theorem num_Reader_Err_2.gok (k : Nat) : ∀ f, SemOK Try.prog f ((num_Reader_Err_2.ctx k).Γ f) := gam_nil
def num_Reader_Err_2.ann (k : Nat) : Ann := .nil
theorem num_Reader_Err_2.body (k : Nat) : BodyH (num_Reader_Err_2.ctx k) Try.f50 (Func.code Try.f50) (num_Reader_Err_2.ann k) num_Reader_Err_2.T num_Reader_Err_2.os (fun x K => num_Reader_Err_2.c k  K) := by
  intro ρ x K; kernel_rfl
theorem num_Reader_Err_2.sem_ok (k : Nat) : SemOK Try.prog 50 (num_Reader_Err_2.sem k) :=
  callH_ok (C := num_Reader_Err_2.ctx k) (num_Reader_Err_2.gok k) Try.mix (c := Func.code Try.f50) (ann := num_Reader_Err_2.ann k) (T := num_Reader_Err_2.T) (os := num_Reader_Err_2.os) (fun x K => num_Reader_Err_2.c k  K) Try.func50 (by kernel_rfl) (by kernel_rfl) AnnOK.nil (num_Reader_Err_2.body k) (by kernel_rfl) (by kernel_rfl) (by kernel_rfl)

/-! 52 (*bedrock/num.Reader).Left · with blocks -/
abbrev num_Reader_Left_2.τ : Type := (Int × Unit)
def num_Reader_Left_2.c (k : Nat) {ρ : Type}  (K : num_Reader_Left_2.τ → Option ρ) : Option ρ :=
  K ((0 : Int), ())
def num_Reader_Left_2 (k : Nat)  : Option num_Reader_Left_2.τ := num_Reader_Left_2.c k  some
def num_Reader_Left_2.T : CallT := ⟨[.nilp], [], 0⟩
def num_Reader_Left_2.os : List Out := [⟨.ret, [.freeze (.slot 0), .auto 0], ⟨[.dat (.int .i64)], []⟩⟩]
def num_Reader_Left_2.sem (k : Nat) : CallSem := callH num_Reader_Left_2.T num_Reader_Left_2.os fun x => num_Reader_Left_2 k 
noncomputable def num_Reader_Left_2.ctx (k : Nat) : Ctx := ⟨Try.prog, gam []⟩
theorem num_Reader_Left_2.gok (k : Nat) : ∀ f, SemOK Try.prog f ((num_Reader_Left_2.ctx k).Γ f) := gam_nil
def num_Reader_Left_2.ann (k : Nat) : Ann := .nil
theorem num_Reader_Left_2.body (k : Nat) : BodyH (num_Reader_Left_2.ctx k) Try.f52 (Func.code Try.f52) (num_Reader_Left_2.ann k) num_Reader_Left_2.T num_Reader_Left_2.os (fun x K => num_Reader_Left_2.c k  K) := by
  intro ρ x K; kernel_rfl
theorem num_Reader_Left_2.sem_ok (k : Nat) : SemOK Try.prog 52 (num_Reader_Left_2.sem k) :=
  callH_ok (C := num_Reader_Left_2.ctx k) (num_Reader_Left_2.gok k) Try.mix (c := Func.code Try.f52) (ann := num_Reader_Left_2.ann k) (T := num_Reader_Left_2.T) (os := num_Reader_Left_2.os) (fun x K => num_Reader_Left_2.c k  K) Try.func52 (by kernel_rfl) (by kernel_rfl) AnnOK.nil (num_Reader_Left_2.body k) (by kernel_rfl) (by kernel_rfl) (by kernel_rfl)

/-! 72 (*bedrock/num.Reader).Bytes · with blocks -/
abbrev num_Reader_Bytes_2.τ : Type := (ByteArray × Unit)
def num_Reader_Bytes_2.c (k : Nat) {ρ : Type} (n : Int) (K : num_Reader_Bytes_2.τ → Option ρ) : Option ρ :=
  (num_Reader_Err_2 k ).bind fun t0 => bif (t0.1 != (0 : Int)) then (K ((⟨(List.toArray [])⟩ : ByteArray), ())) else (bif (decide (n < (0 : Int))) then (none) else ((num_Reader_Left_2 k ).bind fun t1 => bif (decide (n > t1.1)) then (none) else (none)))
def num_Reader_Bytes_2 (k : Nat) (n : Int) : Option num_Reader_Bytes_2.τ := num_Reader_Bytes_2.c k n some
def num_Reader_Bytes_2.T : CallT := ⟨[.nilp, .dat (.int .i64)], [], 0⟩
def num_Reader_Bytes_2.os : List Out := [⟨.ret, [.freeze (.slot 0), .auto 0], ⟨[.dat .str], []⟩⟩]
def num_Reader_Bytes_2.sem (k : Nat) : CallSem := callH num_Reader_Bytes_2.T num_Reader_Bytes_2.os fun x => num_Reader_Bytes_2 k x.1
noncomputable def num_Reader_Bytes_2.ctx (k : Nat) : Ctx := ⟨Try.prog, gam [(50, (num_Reader_Err_2.sem k)), (52, (num_Reader_Left_2.sem k))]⟩
theorem num_Reader_Bytes_2.gok (k : Nat) : ∀ f, SemOK Try.prog f ((num_Reader_Bytes_2.ctx k).Γ f) := (gam_cons (num_Reader_Err_2.sem_ok k) (gam_cons (num_Reader_Left_2.sem_ok k) gam_nil))
def num_Reader_Bytes_2.ann (k : Nat) : Ann := .nil
theorem num_Reader_Bytes_2.body (k : Nat) : BodyH (num_Reader_Bytes_2.ctx k) Try.f72 (Func.code Try.f72) (num_Reader_Bytes_2.ann k) num_Reader_Bytes_2.T num_Reader_Bytes_2.os (fun x K => num_Reader_Bytes_2.c k x.1 K) := by
  intro ρ x K; kernel_rfl
theorem num_Reader_Bytes_2.sem_ok (k : Nat) : SemOK Try.prog 72 (num_Reader_Bytes_2.sem k) :=
  callH_ok (C := num_Reader_Bytes_2.ctx k) (num_Reader_Bytes_2.gok k) Try.mix (c := Func.code Try.f72) (ann := num_Reader_Bytes_2.ann k) (T := num_Reader_Bytes_2.T) (os := num_Reader_Bytes_2.os) (fun x K => num_Reader_Bytes_2.c k x.1 K) Try.func72 (by kernel_rfl) (by kernel_rfl) AnnOK.nil (num_Reader_Bytes_2.body k) (by kernel_rfl) (by kernel_rfl) (by kernel_rfl)

/-! 66 (*bedrock/num.Reader).Byte · with blocks -/
abbrev num_Reader_Byte_2.τ : Type := (Int × Unit)
def num_Reader_Byte_2.c (k : Nat) {ρ : Type}  (K : num_Reader_Byte_2.τ → Option ρ) : Option ρ :=
  (num_Reader_Bytes_2 k (1 : Int)).bind fun t0 => (num_take k t0.1).bind fun t1 => let v2 : Int := (IntKind.wrap IntKind.u8 t1.1)
  K (v2, ())
def num_Reader_Byte_2 (k : Nat)  : Option num_Reader_Byte_2.τ := num_Reader_Byte_2.c k  some
def num_Reader_Byte_2.T : CallT := ⟨[.nilp], [], 0⟩
def num_Reader_Byte_2.os : List Out := [⟨.ret, [.freeze (.slot 0), .auto 0], ⟨[.dat (.int .u8)], []⟩⟩]
def num_Reader_Byte_2.sem (k : Nat) : CallSem := callH num_Reader_Byte_2.T num_Reader_Byte_2.os fun x => num_Reader_Byte_2 k 
noncomputable def num_Reader_Byte_2.ctx (k : Nat) : Ctx := ⟨Try.prog, gam [(72, (num_Reader_Bytes_2.sem k)), (78, (num_take.sem k))]⟩
theorem num_Reader_Byte_2.gok (k : Nat) : ∀ f, SemOK Try.prog f ((num_Reader_Byte_2.ctx k).Γ f) := (gam_cons (num_Reader_Bytes_2.sem_ok k) (gam_cons (num_take.sem_ok k) gam_nil))
def num_Reader_Byte_2.ann (k : Nat) : Ann := .nil
theorem num_Reader_Byte_2.body (k : Nat) : BodyH (num_Reader_Byte_2.ctx k) Try.f66 (Func.code Try.f66) (num_Reader_Byte_2.ann k) num_Reader_Byte_2.T num_Reader_Byte_2.os (fun x K => num_Reader_Byte_2.c k  K) := by
  intro ρ x K; kernel_rfl
theorem num_Reader_Byte_2.sem_ok (k : Nat) : SemOK Try.prog 66 (num_Reader_Byte_2.sem k) :=
  callH_ok (C := num_Reader_Byte_2.ctx k) (num_Reader_Byte_2.gok k) Try.mix (c := Func.code Try.f66) (ann := num_Reader_Byte_2.ann k) (T := num_Reader_Byte_2.T) (os := num_Reader_Byte_2.os) (fun x K => num_Reader_Byte_2.c k  K) Try.func66 (by kernel_rfl) (by kernel_rfl) AnnOK.nil (num_Reader_Byte_2.body k) (by kernel_rfl) (by kernel_rfl) (by kernel_rfl)

/-! 67 (*bedrock/num.Reader).U16 · with blocks -/
abbrev num_Reader_U16_2.τ : Type := (Int × Unit)
def num_Reader_U16_2.c (k : Nat) {ρ : Type}  (K : num_Reader_U16_2.τ → Option ρ) : Option ρ :=
  (num_Reader_Bytes_2 k (2 : Int)).bind fun t0 => (num_take k t0.1).bind fun t1 => let v2 : Int := (IntKind.wrap IntKind.u16 t1.1)
  K (v2, ())
def num_Reader_U16_2 (k : Nat)  : Option num_Reader_U16_2.τ := num_Reader_U16_2.c k  some
def num_Reader_U16_2.T : CallT := ⟨[.nilp], [], 0⟩
def num_Reader_U16_2.os : List Out := [⟨.ret, [.freeze (.slot 0), .auto 0], ⟨[.dat (.int .u16)], []⟩⟩]
def num_Reader_U16_2.sem (k : Nat) : CallSem := callH num_Reader_U16_2.T num_Reader_U16_2.os fun x => num_Reader_U16_2 k 
noncomputable def num_Reader_U16_2.ctx (k : Nat) : Ctx := ⟨Try.prog, gam [(72, (num_Reader_Bytes_2.sem k)), (78, (num_take.sem k))]⟩
theorem num_Reader_U16_2.gok (k : Nat) : ∀ f, SemOK Try.prog f ((num_Reader_U16_2.ctx k).Γ f) := (gam_cons (num_Reader_Bytes_2.sem_ok k) (gam_cons (num_take.sem_ok k) gam_nil))
def num_Reader_U16_2.ann (k : Nat) : Ann := .nil
theorem num_Reader_U16_2.body (k : Nat) : BodyH (num_Reader_U16_2.ctx k) Try.f67 (Func.code Try.f67) (num_Reader_U16_2.ann k) num_Reader_U16_2.T num_Reader_U16_2.os (fun x K => num_Reader_U16_2.c k  K) := by
  intro ρ x K; kernel_rfl
theorem num_Reader_U16_2.sem_ok (k : Nat) : SemOK Try.prog 67 (num_Reader_U16_2.sem k) :=
  callH_ok (C := num_Reader_U16_2.ctx k) (num_Reader_U16_2.gok k) Try.mix (c := Func.code Try.f67) (ann := num_Reader_U16_2.ann k) (T := num_Reader_U16_2.T) (os := num_Reader_U16_2.os) (fun x K => num_Reader_U16_2.c k  K) Try.func67 (by kernel_rfl) (by kernel_rfl) AnnOK.nil (num_Reader_U16_2.body k) (by kernel_rfl) (by kernel_rfl) (by kernel_rfl)

/-! 68 (*bedrock/num.Reader).U32 · with blocks -/
abbrev num_Reader_U32_2.τ : Type := (Int × Unit)
def num_Reader_U32_2.c (k : Nat) {ρ : Type}  (K : num_Reader_U32_2.τ → Option ρ) : Option ρ :=
  (num_Reader_Bytes_2 k (4 : Int)).bind fun t0 => (num_take k t0.1).bind fun t1 => let v2 : Int := (IntKind.wrap IntKind.u32 t1.1)
  K (v2, ())
def num_Reader_U32_2 (k : Nat)  : Option num_Reader_U32_2.τ := num_Reader_U32_2.c k  some
def num_Reader_U32_2.T : CallT := ⟨[.nilp], [], 0⟩
def num_Reader_U32_2.os : List Out := [⟨.ret, [.freeze (.slot 0), .auto 0], ⟨[.dat (.int .u32)], []⟩⟩]
def num_Reader_U32_2.sem (k : Nat) : CallSem := callH num_Reader_U32_2.T num_Reader_U32_2.os fun x => num_Reader_U32_2 k 
noncomputable def num_Reader_U32_2.ctx (k : Nat) : Ctx := ⟨Try.prog, gam [(72, (num_Reader_Bytes_2.sem k)), (78, (num_take.sem k))]⟩
theorem num_Reader_U32_2.gok (k : Nat) : ∀ f, SemOK Try.prog f ((num_Reader_U32_2.ctx k).Γ f) := (gam_cons (num_Reader_Bytes_2.sem_ok k) (gam_cons (num_take.sem_ok k) gam_nil))
def num_Reader_U32_2.ann (k : Nat) : Ann := .nil
theorem num_Reader_U32_2.body (k : Nat) : BodyH (num_Reader_U32_2.ctx k) Try.f68 (Func.code Try.f68) (num_Reader_U32_2.ann k) num_Reader_U32_2.T num_Reader_U32_2.os (fun x K => num_Reader_U32_2.c k  K) := by
  intro ρ x K; kernel_rfl
theorem num_Reader_U32_2.sem_ok (k : Nat) : SemOK Try.prog 68 (num_Reader_U32_2.sem k) :=
  callH_ok (C := num_Reader_U32_2.ctx k) (num_Reader_U32_2.gok k) Try.mix (c := Func.code Try.f68) (ann := num_Reader_U32_2.ann k) (T := num_Reader_U32_2.T) (os := num_Reader_U32_2.os) (fun x K => num_Reader_U32_2.c k  K) Try.func68 (by kernel_rfl) (by kernel_rfl) AnnOK.nil (num_Reader_U32_2.body k) (by kernel_rfl) (by kernel_rfl) (by kernel_rfl)

/-! 69 (*bedrock/num.Reader).U64 · with blocks -/
abbrev num_Reader_U64_2.τ : Type := (Int × Unit)
def num_Reader_U64_2.c (k : Nat) {ρ : Type}  (K : num_Reader_U64_2.τ → Option ρ) : Option ρ :=
  (num_Reader_Bytes_2 k (8 : Int)).bind fun t0 => (num_take k t0.1).bind fun t1 => K (t1.1, ())
def num_Reader_U64_2 (k : Nat)  : Option num_Reader_U64_2.τ := num_Reader_U64_2.c k  some
def num_Reader_U64_2.T : CallT := ⟨[.nilp], [], 0⟩
def num_Reader_U64_2.os : List Out := [⟨.ret, [.freeze (.slot 0), .auto 0], ⟨[.dat (.int .u64)], []⟩⟩]
def num_Reader_U64_2.sem (k : Nat) : CallSem := callH num_Reader_U64_2.T num_Reader_U64_2.os fun x => num_Reader_U64_2 k 
noncomputable def num_Reader_U64_2.ctx (k : Nat) : Ctx := ⟨Try.prog, gam [(72, (num_Reader_Bytes_2.sem k)), (78, (num_take.sem k))]⟩
theorem num_Reader_U64_2.gok (k : Nat) : ∀ f, SemOK Try.prog f ((num_Reader_U64_2.ctx k).Γ f) := (gam_cons (num_Reader_Bytes_2.sem_ok k) (gam_cons (num_take.sem_ok k) gam_nil))
def num_Reader_U64_2.ann (k : Nat) : Ann := .nil
theorem num_Reader_U64_2.body (k : Nat) : BodyH (num_Reader_U64_2.ctx k) Try.f69 (Func.code Try.f69) (num_Reader_U64_2.ann k) num_Reader_U64_2.T num_Reader_U64_2.os (fun x K => num_Reader_U64_2.c k  K) := by
  intro ρ x K; kernel_rfl
theorem num_Reader_U64_2.sem_ok (k : Nat) : SemOK Try.prog 69 (num_Reader_U64_2.sem k) :=
  callH_ok (C := num_Reader_U64_2.ctx k) (num_Reader_U64_2.gok k) Try.mix (c := Func.code Try.f69) (ann := num_Reader_U64_2.ann k) (T := num_Reader_U64_2.T) (os := num_Reader_U64_2.os) (fun x K => num_Reader_U64_2.c k  K) Try.func69 (by kernel_rfl) (by kernel_rfl) AnnOK.nil (num_Reader_U64_2.body k) (by kernel_rfl) (by kernel_rfl) (by kernel_rfl)

/-! 70 (*bedrock/num.Reader).Big16 · with blocks -/
abbrev num_Reader_Big16_2.τ : Type := (Int × Unit)
def num_Reader_Big16_2.c (k : Nat) {ρ : Type}  (K : num_Reader_Big16_2.τ → Option ρ) : Option ρ :=
  (num_Reader_U16_2 k ).bind fun t0 => let v1 : Int := (shlOp IntKind.u16 t0.1 (8 : Int))
  let v2 : Int := (shrOp IntKind.u16 t0.1 (8 : Int))
  K ((bitsOp BinOp.or IntKind.u16 v1 v2), ())
def num_Reader_Big16_2 (k : Nat)  : Option num_Reader_Big16_2.τ := num_Reader_Big16_2.c k  some
def num_Reader_Big16_2.T : CallT := ⟨[.nilp], [], 0⟩
def num_Reader_Big16_2.os : List Out := [⟨.ret, [.freeze (.slot 0), .auto 0], ⟨[.dat (.int .u16)], []⟩⟩]
def num_Reader_Big16_2.sem (k : Nat) : CallSem := callH num_Reader_Big16_2.T num_Reader_Big16_2.os fun x => num_Reader_Big16_2 k 
noncomputable def num_Reader_Big16_2.ctx (k : Nat) : Ctx := ⟨Try.prog, gam [(67, (num_Reader_U16_2.sem k))]⟩
theorem num_Reader_Big16_2.gok (k : Nat) : ∀ f, SemOK Try.prog f ((num_Reader_Big16_2.ctx k).Γ f) := (gam_cons (num_Reader_U16_2.sem_ok k) gam_nil)
def num_Reader_Big16_2.ann (k : Nat) : Ann := .nil
theorem num_Reader_Big16_2.body (k : Nat) : BodyH (num_Reader_Big16_2.ctx k) Try.f70 (Func.code Try.f70) (num_Reader_Big16_2.ann k) num_Reader_Big16_2.T num_Reader_Big16_2.os (fun x K => num_Reader_Big16_2.c k  K) := by
  intro ρ x K; kernel_rfl
theorem num_Reader_Big16_2.sem_ok (k : Nat) : SemOK Try.prog 70 (num_Reader_Big16_2.sem k) :=
  callH_ok (C := num_Reader_Big16_2.ctx k) (num_Reader_Big16_2.gok k) Try.mix (c := Func.code Try.f70) (ann := num_Reader_Big16_2.ann k) (T := num_Reader_Big16_2.T) (os := num_Reader_Big16_2.os) (fun x K => num_Reader_Big16_2.c k  K) Try.func70 (by kernel_rfl) (by kernel_rfl) AnnOK.nil (num_Reader_Big16_2.body k) (by kernel_rfl) (by kernel_rfl) (by kernel_rfl)

/-! 71 (*bedrock/num.Reader).Count · with blocks -/
abbrev num_Reader_Count_2.τ : Type := (Int × Unit)
def num_Reader_Count_2.c (k : Nat) {ρ : Type} (most : Int) (K : num_Reader_Count_2.τ → Option ρ) : Option ρ :=
  (num_Reader_Err_2 k ).bind fun t0 => bif (t0.1 != (0 : Int)) then (K ((0 : Int), ())) else (none)
def num_Reader_Count_2 (k : Nat) (most : Int) : Option num_Reader_Count_2.τ := num_Reader_Count_2.c k most some
def num_Reader_Count_2.T : CallT := ⟨[.nilp, .dat (.int .u64)], [], 0⟩
def num_Reader_Count_2.os : List Out := [⟨.ret, [.freeze (.slot 0), .auto 0], ⟨[.dat (.int .u64)], []⟩⟩]
def num_Reader_Count_2.sem (k : Nat) : CallSem := callH num_Reader_Count_2.T num_Reader_Count_2.os fun x => num_Reader_Count_2 k x.1
noncomputable def num_Reader_Count_2.ctx (k : Nat) : Ctx := ⟨Try.prog, gam [(50, (num_Reader_Err_2.sem k))]⟩
theorem num_Reader_Count_2.gok (k : Nat) : ∀ f, SemOK Try.prog f ((num_Reader_Count_2.ctx k).Γ f) := (gam_cons (num_Reader_Err_2.sem_ok k) gam_nil)
def num_Reader_Count_2.ann (k : Nat) : Ann := .nil
theorem num_Reader_Count_2.body (k : Nat) : BodyH (num_Reader_Count_2.ctx k) Try.f71 (Func.code Try.f71) (num_Reader_Count_2.ann k) num_Reader_Count_2.T num_Reader_Count_2.os (fun x K => num_Reader_Count_2.c k x.1 K) := by
  intro ρ x K; kernel_rfl
theorem num_Reader_Count_2.sem_ok (k : Nat) : SemOK Try.prog 71 (num_Reader_Count_2.sem k) :=
  callH_ok (C := num_Reader_Count_2.ctx k) (num_Reader_Count_2.gok k) Try.mix (c := Func.code Try.f71) (ann := num_Reader_Count_2.ann k) (T := num_Reader_Count_2.T) (os := num_Reader_Count_2.os) (fun x K => num_Reader_Count_2.c k x.1 K) Try.func71 (by kernel_rfl) (by kernel_rfl) AnnOK.nil (num_Reader_Count_2.body k) (by kernel_rfl) (by kernel_rfl) (by kernel_rfl)

/-! 73 (*bedrock/num.Reader).String · with blocks -/
abbrev num_Reader_String_2.τ : Type := (ByteArray × Unit)
def num_Reader_String_2.c (k : Nat) {ρ : Type} (most : Int) (K : num_Reader_String_2.τ → Option ρ) : Option ρ :=
  (num_Reader_Err_2 k ).bind fun t0 => bif (t0.1 != (0 : Int)) then (K ((⟨(List.toArray [])⟩ : ByteArray), ())) else (bif (decide (most < (0 : Int))) then (none) else (none))
def num_Reader_String_2 (k : Nat) (most : Int) : Option num_Reader_String_2.τ := num_Reader_String_2.c k most some
def num_Reader_String_2.T : CallT := ⟨[.nilp, .dat (.int .i64)], [], 0⟩
def num_Reader_String_2.os : List Out := [⟨.ret, [.freeze (.slot 0), .auto 0], ⟨[.dat .str], []⟩⟩]
def num_Reader_String_2.sem (k : Nat) : CallSem := callH num_Reader_String_2.T num_Reader_String_2.os fun x => num_Reader_String_2 k x.1
noncomputable def num_Reader_String_2.ctx (k : Nat) : Ctx := ⟨Try.prog, gam [(50, (num_Reader_Err_2.sem k))]⟩
theorem num_Reader_String_2.gok (k : Nat) : ∀ f, SemOK Try.prog f ((num_Reader_String_2.ctx k).Γ f) := (gam_cons (num_Reader_Err_2.sem_ok k) gam_nil)
def num_Reader_String_2.ann (k : Nat) : Ann := .nil
theorem num_Reader_String_2.body (k : Nat) : BodyH (num_Reader_String_2.ctx k) Try.f73 (Func.code Try.f73) (num_Reader_String_2.ann k) num_Reader_String_2.T num_Reader_String_2.os (fun x K => num_Reader_String_2.c k x.1 K) := by
  intro ρ x K; kernel_rfl
theorem num_Reader_String_2.sem_ok (k : Nat) : SemOK Try.prog 73 (num_Reader_String_2.sem k) :=
  callH_ok (C := num_Reader_String_2.ctx k) (num_Reader_String_2.gok k) Try.mix (c := Func.code Try.f73) (ann := num_Reader_String_2.ann k) (T := num_Reader_String_2.T) (os := num_Reader_String_2.os) (fun x K => num_Reader_String_2.c k x.1 K) Try.func73 (by kernel_rfl) (by kernel_rfl) AnnOK.nil (num_Reader_String_2.body k) (by kernel_rfl) (by kernel_rfl) (by kernel_rfl)

/-! 74 (*bedrock/num.Reader).Hash · with blocks -/
abbrev num_Reader_Hash_2.τ : Type := ((List Int) × Unit)
def num_Reader_Hash_2.c (k : Nat) {ρ : Type}  (K : num_Reader_Hash_2.τ → Option ρ) : Option ρ :=
  (num_Reader_Bytes_2 k (32 : Int)).bind fun t0 => let v1 : Int := (((Min.min (List.length (ofBytes t0.1)) 32) : Nat) : Int)
  let v2 : List Int := (copyL (List.replicate 32 (0 : Int)) 0 (ofBytes t0.1) (Min.min (List.length (ofBytes t0.1)) 32))
  K (v2, ())
def num_Reader_Hash_2 (k : Nat)  : Option num_Reader_Hash_2.τ := num_Reader_Hash_2.c k  some
def num_Reader_Hash_2.T : CallT := ⟨[.nilp], [], 0⟩
def num_Reader_Hash_2.os : List Out := [⟨.ret, [.freeze (.slot 0), .auto 0], ⟨[.dat (.arr 32 (.int .u8))], []⟩⟩]
def num_Reader_Hash_2.sem (k : Nat) : CallSem := callH num_Reader_Hash_2.T num_Reader_Hash_2.os fun x => num_Reader_Hash_2 k 
noncomputable def num_Reader_Hash_2.ctx (k : Nat) : Ctx := ⟨Try.prog, gam [(72, (num_Reader_Bytes_2.sem k))]⟩
theorem num_Reader_Hash_2.gok (k : Nat) : ∀ f, SemOK Try.prog f ((num_Reader_Hash_2.ctx k).Γ f) := (gam_cons (num_Reader_Bytes_2.sem_ok k) gam_nil)
def num_Reader_Hash_2.ann (k : Nat) : Ann := .nil
theorem num_Reader_Hash_2.body (k : Nat) : BodyH (num_Reader_Hash_2.ctx k) Try.f74 (Func.code Try.f74) (num_Reader_Hash_2.ann k) num_Reader_Hash_2.T num_Reader_Hash_2.os (fun x K => num_Reader_Hash_2.c k  K) := by
  intro ρ x K; kernel_rfl
theorem num_Reader_Hash_2.sem_ok (k : Nat) : SemOK Try.prog 74 (num_Reader_Hash_2.sem k) :=
  callH_ok (C := num_Reader_Hash_2.ctx k) (num_Reader_Hash_2.gok k) Try.mix (c := Func.code Try.f74) (ann := num_Reader_Hash_2.ann k) (T := num_Reader_Hash_2.T) (os := num_Reader_Hash_2.os) (fun x K => num_Reader_Hash_2.c k  K) Try.func74 (by kernel_rfl) (by kernel_rfl) AnnOK.nil (num_Reader_Hash_2.body k) (by kernel_rfl) (by kernel_rfl) (by kernel_rfl)

/-! 75 (*bedrock/num.Reader).Bool · with blocks -/
abbrev num_Reader_Bool_2.τ : Type := (Bool × Unit)
def num_Reader_Bool_2.c (k : Nat) {ρ : Type}  (K : num_Reader_Bool_2.τ → Option ρ) : Option ρ :=
  (num_Reader_Err_2 k ).bind fun t0 => bif (t0.1 != (0 : Int)) then (K (false, ())) else (none)
def num_Reader_Bool_2 (k : Nat)  : Option num_Reader_Bool_2.τ := num_Reader_Bool_2.c k  some
def num_Reader_Bool_2.T : CallT := ⟨[.nilp], [], 0⟩
def num_Reader_Bool_2.os : List Out := [⟨.ret, [.freeze (.slot 0), .auto 0], ⟨[.dat .bool], []⟩⟩]
def num_Reader_Bool_2.sem (k : Nat) : CallSem := callH num_Reader_Bool_2.T num_Reader_Bool_2.os fun x => num_Reader_Bool_2 k 
noncomputable def num_Reader_Bool_2.ctx (k : Nat) : Ctx := ⟨Try.prog, gam [(50, (num_Reader_Err_2.sem k))]⟩
theorem num_Reader_Bool_2.gok (k : Nat) : ∀ f, SemOK Try.prog f ((num_Reader_Bool_2.ctx k).Γ f) := (gam_cons (num_Reader_Err_2.sem_ok k) gam_nil)
def num_Reader_Bool_2.ann (k : Nat) : Ann := .nil
theorem num_Reader_Bool_2.body (k : Nat) : BodyH (num_Reader_Bool_2.ctx k) Try.f75 (Func.code Try.f75) (num_Reader_Bool_2.ann k) num_Reader_Bool_2.T num_Reader_Bool_2.os (fun x K => num_Reader_Bool_2.c k  K) := by
  intro ρ x K; kernel_rfl
theorem num_Reader_Bool_2.sem_ok (k : Nat) : SemOK Try.prog 75 (num_Reader_Bool_2.sem k) :=
  callH_ok (C := num_Reader_Bool_2.ctx k) (num_Reader_Bool_2.gok k) Try.mix (c := Func.code Try.f75) (ann := num_Reader_Bool_2.ann k) (T := num_Reader_Bool_2.T) (os := num_Reader_Bool_2.os) (fun x K => num_Reader_Bool_2.c k  K) Try.func75 (by kernel_rfl) (by kernel_rfl) AnnOK.nil (num_Reader_Bool_2.body k) (by kernel_rfl) (by kernel_rfl) (by kernel_rfl)

/-! 64 (*bedrock/num.Reader).End · with blocks -/
abbrev num_Reader_End_2.τ : Type := (Int × Unit)
def num_Reader_End_2.c (k : Nat) {ρ : Type}  (K : num_Reader_End_2.τ → Option ρ) : Option ρ :=
  (num_Reader_Err_2 k ).bind fun t0 => bif (t0.1 == (0 : Int)) then ((num_Reader_Left_2 k ).bind fun t1 => bif (decide (t1.1 > (0 : Int))) then (none) else ((num_Reader_Err_2 k ).bind fun t2 => K (t2.1, ()))) else ((num_Reader_Err_2 k ).bind fun t3 => K (t3.1, ()))
def num_Reader_End_2 (k : Nat)  : Option num_Reader_End_2.τ := num_Reader_End_2.c k  some
def num_Reader_End_2.T : CallT := ⟨[.nilp], [], 0⟩
def num_Reader_End_2.os : List Out := [⟨.ret, [.freeze (.slot 0), .auto 0], ⟨[.dat (.int .i64)], []⟩⟩]
def num_Reader_End_2.sem (k : Nat) : CallSem := callH num_Reader_End_2.T num_Reader_End_2.os fun x => num_Reader_End_2 k 
noncomputable def num_Reader_End_2.ctx (k : Nat) : Ctx := ⟨Try.prog, gam [(50, (num_Reader_Err_2.sem k)), (52, (num_Reader_Left_2.sem k))]⟩
theorem num_Reader_End_2.gok (k : Nat) : ∀ f, SemOK Try.prog f ((num_Reader_End_2.ctx k).Γ f) := (gam_cons (num_Reader_Err_2.sem_ok k) (gam_cons (num_Reader_Left_2.sem_ok k) gam_nil))
def num_Reader_End_2.ann (k : Nat) : Ann := .nil
theorem num_Reader_End_2.body (k : Nat) : BodyH (num_Reader_End_2.ctx k) Try.f64 (Func.code Try.f64) (num_Reader_End_2.ann k) num_Reader_End_2.T num_Reader_End_2.os (fun x K => num_Reader_End_2.c k  K) := by
  intro ρ x K; kernel_rfl
theorem num_Reader_End_2.sem_ok (k : Nat) : SemOK Try.prog 64 (num_Reader_End_2.sem k) :=
  callH_ok (C := num_Reader_End_2.ctx k) (num_Reader_End_2.gok k) Try.mix (c := Func.code Try.f64) (ann := num_Reader_End_2.ann k) (T := num_Reader_End_2.T) (os := num_Reader_End_2.os) (fun x K => num_Reader_End_2.c k  K) Try.func64 (by kernel_rfl) (by kernel_rfl) AnnOK.nil (num_Reader_End_2.body k) (by kernel_rfl) (by kernel_rfl) (by kernel_rfl)

/-! 51 (*bedrock/num.Reader).At · with blocks -/
abbrev num_Reader_At_2.τ : Type := (Int × Unit)
def num_Reader_At_2.c (k : Nat) {ρ : Type}  (K : num_Reader_At_2.τ → Option ρ) : Option ρ :=
  K ((0 : Int), ())
def num_Reader_At_2 (k : Nat)  : Option num_Reader_At_2.τ := num_Reader_At_2.c k  some
def num_Reader_At_2.T : CallT := ⟨[.nilp], [], 0⟩
def num_Reader_At_2.os : List Out := [⟨.ret, [.freeze (.slot 0), .auto 0], ⟨[.dat (.int .i64)], []⟩⟩]
def num_Reader_At_2.sem (k : Nat) : CallSem := callH num_Reader_At_2.T num_Reader_At_2.os fun x => num_Reader_At_2 k 
noncomputable def num_Reader_At_2.ctx (k : Nat) : Ctx := ⟨Try.prog, gam []⟩
theorem num_Reader_At_2.gok (k : Nat) : ∀ f, SemOK Try.prog f ((num_Reader_At_2.ctx k).Γ f) := gam_nil
def num_Reader_At_2.ann (k : Nat) : Ann := .nil
theorem num_Reader_At_2.body (k : Nat) : BodyH (num_Reader_At_2.ctx k) Try.f51 (Func.code Try.f51) (num_Reader_At_2.ann k) num_Reader_At_2.T num_Reader_At_2.os (fun x K => num_Reader_At_2.c k  K) := by
  intro ρ x K; kernel_rfl
theorem num_Reader_At_2.sem_ok (k : Nat) : SemOK Try.prog 51 (num_Reader_At_2.sem k) :=
  callH_ok (C := num_Reader_At_2.ctx k) (num_Reader_At_2.gok k) Try.mix (c := Func.code Try.f51) (ann := num_Reader_At_2.ann k) (T := num_Reader_At_2.T) (os := num_Reader_At_2.os) (fun x K => num_Reader_At_2.c k  K) Try.func51 (by kernel_rfl) (by kernel_rfl) AnnOK.nil (num_Reader_At_2.body k) (by kernel_rfl) (by kernel_rfl) (by kernel_rfl)

/-! 62 (*bedrock/num.Writer).Len · with blocks -/
abbrev num_Writer_Len.τ : Type := (Int × Unit)
def num_Writer_Len.c (k : Nat) {ρ : Type}  (K : num_Writer_Len.τ → Option ρ) : Option ρ :=
  K ((0 : Int), ())
def num_Writer_Len (k : Nat)  : Option num_Writer_Len.τ := num_Writer_Len.c k  some
def num_Writer_Len.T : CallT := ⟨[.nilp], [], 0⟩
def num_Writer_Len.os : List Out := [⟨.ret, [.freeze (.slot 0), .auto 0], ⟨[.dat (.int .i64)], []⟩⟩]
def num_Writer_Len.sem (k : Nat) : CallSem := callH num_Writer_Len.T num_Writer_Len.os fun x => num_Writer_Len k 
noncomputable def num_Writer_Len.ctx (k : Nat) : Ctx := ⟨Try.prog, gam []⟩
theorem num_Writer_Len.gok (k : Nat) : ∀ f, SemOK Try.prog f ((num_Writer_Len.ctx k).Γ f) := gam_nil
def num_Writer_Len.ann (k : Nat) : Ann := .nil
theorem num_Writer_Len.body (k : Nat) : BodyH (num_Writer_Len.ctx k) Try.f62 (Func.code Try.f62) (num_Writer_Len.ann k) num_Writer_Len.T num_Writer_Len.os (fun x K => num_Writer_Len.c k  K) := by
  intro ρ x K; kernel_rfl
theorem num_Writer_Len.sem_ok (k : Nat) : SemOK Try.prog 62 (num_Writer_Len.sem k) :=
  callH_ok (C := num_Writer_Len.ctx k) (num_Writer_Len.gok k) Try.mix (c := Func.code Try.f62) (ann := num_Writer_Len.ann k) (T := num_Writer_Len.T) (os := num_Writer_Len.os) (fun x K => num_Writer_Len.c k  K) Try.func62 (by kernel_rfl) (by kernel_rfl) AnnOK.nil (num_Writer_Len.body k) (by kernel_rfl) (by kernel_rfl) (by kernel_rfl)

/-! 63 (*bedrock/num.Writer).Text · with blocks -/
abbrev num_Writer_Text.τ : Type := (ByteArray × Unit)
def num_Writer_Text.c (k : Nat) {ρ : Type}  (K : num_Writer_Text.τ → Option ρ) : Option ρ :=
  K ((⟨(List.toArray [])⟩ : ByteArray), ())
def num_Writer_Text (k : Nat)  : Option num_Writer_Text.τ := num_Writer_Text.c k  some
def num_Writer_Text.T : CallT := ⟨[.nilp], [], 0⟩
def num_Writer_Text.os : List Out := [⟨.ret, [.freeze (.slot 0), .auto 0], ⟨[.dat .str], []⟩⟩]
def num_Writer_Text.sem (k : Nat) : CallSem := callH num_Writer_Text.T num_Writer_Text.os fun x => num_Writer_Text k 
noncomputable def num_Writer_Text.ctx (k : Nat) : Ctx := ⟨Try.prog, gam []⟩
theorem num_Writer_Text.gok (k : Nat) : ∀ f, SemOK Try.prog f ((num_Writer_Text.ctx k).Γ f) := gam_nil
def num_Writer_Text.ann (k : Nat) : Ann := .nil
theorem num_Writer_Text.body (k : Nat) : BodyH (num_Writer_Text.ctx k) Try.f63 (Func.code Try.f63) (num_Writer_Text.ann k) num_Writer_Text.T num_Writer_Text.os (fun x K => num_Writer_Text.c k  K) := by
  intro ρ x K; kernel_rfl
theorem num_Writer_Text.sem_ok (k : Nat) : SemOK Try.prog 63 (num_Writer_Text.sem k) :=
  callH_ok (C := num_Writer_Text.ctx k) (num_Writer_Text.gok k) Try.mix (c := Func.code Try.f63) (ann := num_Writer_Text.ann k) (T := num_Writer_Text.T) (os := num_Writer_Text.os) (fun x K => num_Writer_Text.c k  K) Try.func63 (by kernel_rfl) (by kernel_rfl) AnnOK.nil (num_Writer_Text.body k) (by kernel_rfl) (by kernel_rfl) (by kernel_rfl)

/-! 13 bedrock/bedrocklaw01.NumNil -/
def bedrocklaw01_NumNil.c (k : Nat) {ρ : Type} (a : (Int × (Int × (Int × (ByteArray × Unit))))) (K : Bool × Unit → Option ρ) : Option ρ :=
  let v0 : Int := a.2.1
  (num_Reader_Fail_2 k v0).bind fun t1 => (bedrocklaw01_put k (a.1, (a.2.1, (a.2.2.1, (a.2.2.2.1, ()))))).bind fun t2 => (bedrocklaw01_awake k ).bind fun t3 => bif t3.1 then ((num_Reader_Byte_2 k ).bind fun t4 => bif (t4.1 == (0 : Int)) then ((num_Reader_U16_2 k ).bind fun t5 => bif (t5.1 == (0 : Int)) then ((num_Reader_U32_2 k ).bind fun t6 => bif (t6.1 == (0 : Int)) then ((num_Reader_U64_2 k ).bind fun t7 => bif (t7.1 == (0 : Int)) then ((num_Reader_Big16_2 k ).bind fun t8 => bif (t8.1 == (0 : Int)) then (let v9 : Int := a.2.2.1
  (num_Reader_Count_2 k v9).bind fun t10 => bif (t10.1 == (0 : Int)) then (let v11 : Int := a.2.1
  (num_Reader_Bytes_2 k v11).bind fun t12 => bif (strEq t12.1 (⟨(List.toArray [])⟩ : ByteArray)) then (let v13 : Int := a.2.1
  (num_Reader_String_2 k v13).bind fun t14 => bif (strEq t14.1 (⟨(List.toArray [])⟩ : ByteArray)) then ((num_Reader_Hash_2 k ).bind fun t15 => let v16 : List Int := (List.replicate 32 (0 : Int))
  bif (decide (t15.1 = v16)) then ((num_Reader_Bool_2 k ).bind fun t17 => bif (!t17.1) then ((num_Reader_Err_2 k ).bind fun t18 => bif (t18.1 == (1 : Int)) then ((num_Reader_End_2 k ).bind fun t19 => bif (t19.1 == (1 : Int)) then ((num_Reader_At_2 k ).bind fun t20 => bif (t20.1 == (0 : Int)) then ((num_Reader_Left_2 k ).bind fun t21 => bif (t21.1 == (0 : Int)) then ((num_Writer_Len k ).bind fun t22 => bif (t22.1 == (0 : Int)) then ((num_Writer_Text k ).bind fun t23 => K ((strEq t23.1 (⟨(List.toArray [])⟩ : ByteArray)), ())) else (K (false, ()))) else (K (false, ()))) else (K (false, ()))) else (K (false, ()))) else (K (false, ()))) else (K (false, ()))) else (K (false, ()))) else (K (false, ()))) else (K (false, ()))) else (K (false, ()))) else (K (false, ()))) else (K (false, ()))) else (K (false, ()))) else (K (false, ()))) else (K (false, ()))) else (K (false, ()))
def bedrocklaw01_NumNil (k : Nat) (a : (Int × (Int × (Int × (ByteArray × Unit))))) : Option (Bool × Unit) := bedrocklaw01_NumNil.c k a some
def bedrocklaw01_NumNil.tin : List Ty := [(.pair (.int .i64) (.pair (.int .i64) (.pair (.int .u64) (.pair .str .unit))))]
def bedrocklaw01_NumNil.tout : List Ty := [.bool]
def bedrocklaw01_NumNil.sem (k : Nat) : CallSem := callPure bedrocklaw01_NumNil.tin bedrocklaw01_NumNil.tout fun x => bedrocklaw01_NumNil k x.1
noncomputable def bedrocklaw01_NumNil.ctx (k : Nat) : Ctx := ⟨Try.prog, gam [(65, (num_Reader_Fail_2.sem k)), (61, (bedrocklaw01_put.sem k)), (18, (bedrocklaw01_awake.sem k)), (66, (num_Reader_Byte_2.sem k)), (67, (num_Reader_U16_2.sem k)), (68, (num_Reader_U32_2.sem k)), (69, (num_Reader_U64_2.sem k)), (70, (num_Reader_Big16_2.sem k)), (71, (num_Reader_Count_2.sem k)), (72, (num_Reader_Bytes_2.sem k)), (73, (num_Reader_String_2.sem k)), (74, (num_Reader_Hash_2.sem k)), (75, (num_Reader_Bool_2.sem k)), (50, (num_Reader_Err_2.sem k)), (64, (num_Reader_End_2.sem k)), (51, (num_Reader_At_2.sem k)), (52, (num_Reader_Left_2.sem k)), (62, (num_Writer_Len.sem k)), (63, (num_Writer_Text.sem k))]⟩
theorem bedrocklaw01_NumNil.gok (k : Nat) : ∀ f, SemOK Try.prog f ((bedrocklaw01_NumNil.ctx k).Γ f) := (gam_cons (num_Reader_Fail_2.sem_ok k) (gam_cons (bedrocklaw01_put.sem_ok k) (gam_cons (bedrocklaw01_awake.sem_ok k) (gam_cons (num_Reader_Byte_2.sem_ok k) (gam_cons (num_Reader_U16_2.sem_ok k) (gam_cons (num_Reader_U32_2.sem_ok k) (gam_cons (num_Reader_U64_2.sem_ok k) (gam_cons (num_Reader_Big16_2.sem_ok k) (gam_cons (num_Reader_Count_2.sem_ok k) (gam_cons (num_Reader_Bytes_2.sem_ok k) (gam_cons (num_Reader_String_2.sem_ok k) (gam_cons (num_Reader_Hash_2.sem_ok k) (gam_cons (num_Reader_Bool_2.sem_ok k) (gam_cons (num_Reader_Err_2.sem_ok k) (gam_cons (num_Reader_End_2.sem_ok k) (gam_cons (num_Reader_At_2.sem_ok k) (gam_cons (num_Reader_Left_2.sem_ok k) (gam_cons (num_Writer_Len.sem_ok k) (gam_cons (num_Writer_Text.sem_ok k) gam_nil)))))))))))))))))))
def bedrocklaw01_NumNil.ann (k : Nat) : Ann := .nil
theorem bedrocklaw01_NumNil.body (k : Nat) : BodyIs (bedrocklaw01_NumNil.ctx k) Try.f13 (Func.code Try.f13) (bedrocklaw01_NumNil.ann k) bedrocklaw01_NumNil.tin bedrocklaw01_NumNil.tout (fun x K => bedrocklaw01_NumNil.c k x.1 K) := by
  intro ρ x K; kernel_rfl
theorem bedrocklaw01_NumNil.sem_ok (k : Nat) : SemOK Try.prog 13 (bedrocklaw01_NumNil.sem k) :=
  callPure_ok (C := bedrocklaw01_NumNil.ctx k) (bedrocklaw01_NumNil.gok k) Try.mix (c := Func.code Try.f13) (ann := bedrocklaw01_NumNil.ann k) (tin := bedrocklaw01_NumNil.tin) (tout := bedrocklaw01_NumNil.tout) (fun x K => bedrocklaw01_NumNil.c k x.1 K) Try.func13 (by kernel_rfl) (by kernel_rfl) AnnOK.nil (bedrocklaw01_NumNil.body k)

end Go.Am
/- NumNil: the plain law. -/
namespace Go.Am
open Go

theorem ofBytes_in' (s : ByteArray) : bytesIn (ofBytes s) := fun _ h => ofBytes_mem h

theorem bytesIn_mem {l r : List Int} (h : bytesIn l) (hs : ∀ x ∈ r, x ∈ l) : bytesIn r := fun x hx => h x (hs x hx)

theorem empty_bytes : (⟨List.toArray []⟩ : ByteArray) = bytesOf [] := rfl

/-- Turned round. -/
theorem turned_eq {k : Nat} {s : ByteArray} (hs : s.size ≤ 140737488351232) (hk : s.size < k) : bedrockref01_Turned k s = some (bytesOf (ofBytes s).reverse, ()) := by
  unfold bedrockref01_Turned bedrockref01_Turned.c
  have hlen := ofBytes_length s
  dsimp only
  rw [i64_in (by omega), empty_bytes]
  have hl := loop_from0 (r := bedrockref01_Turned.l0.r k) (fun j => (s, bytesOf ((ofBytes s).reverse.take j), (s.size : Int) - 1 - (j : Int), ())) s.size (bytesOf (ofBytes s).reverse, ()) ?_ ?_ hk
  · rw [List.take_zero, show (s.size : Int) - 1 - ((0 : Nat) : Int) = (s.size : Int) - 1 by omega] at hl
    show (bedrockref01_Turned.l0 k k (s, bytesOf [], (s.size : Int) - 1, ())).bind _ = _
    unfold bedrockref01_Turned.l0
    rw [hl]
    rfl
  · intro j hj kn ke
    simp only [bedrockref01_Turned.l0.r]
    rw [bif_yes (by omega), i64_in (by omega), bif_yes (by omega), i64_in (by omega)]
    rw [show ((s.size : Int) - 1 - (j : Int)).toNat = s.size - 1 - j by omega, show ((s.size : Int) - 1 - (j : Int) + 1).toNat = s.size - 1 - j + 1 by omega]
    have e : bytesOf ((ofBytes s).reverse.take j) ++ s.extract (s.size - 1 - j) (s.size - 1 - j + 1) = bytesOf ((ofBytes s).reverse.take (j + 1)) := by
      apply ofBytes_inj
      have b1 : bytesIn ((ofBytes s).reverse.take j) := bytesIn_mem (ofBytes_in' s) fun x hx => List.mem_reverse.1 (List.mem_of_mem_take hx)
      have b2 : bytesIn ((ofBytes s).reverse.take (j + 1)) := bytesIn_mem (ofBytes_in' s) fun x hx => List.mem_reverse.1 (List.mem_of_mem_take hx)
      rw [ofBytes_append, ofBytes_bytesOf b1, ofBytes_bytesOf b2, ofBytes_extract, show s.size - 1 - j + 1 - (s.size - 1 - j) = 1 by omega]
      have h1 : (ofBytes s).reverse.take (j + 1) = (ofBytes s).reverse.take j ++ [(ofBytes s)[s.size - 1 - j]'(by omega)] := by
        rw [List.take_add_one, List.getElem?_reverse (by omega), List.getElem?_eq_getElem (show (ofBytes s).length - 1 - j < (ofBytes s).length by omega)]
        simp only [hlen, Option.toList_some]
      rw [h1, List.drop_eq_getElem_cons (by omega)]
      rfl
    rw [cond_true' (ble_of (by
      rw [bytesOf_size, List.length_take, List.length_reverse, ByteArray.size_extract]; omega)), e, show (s.size : Int) - 1 - (j : Int) - 1 = (s.size : Int) - 1 - ((j + 1 : Nat) : Int) by omega]
  · intro kn ke
    simp only [bedrockref01_Turned.l0.r]
    rw [bif_no (by omega), List.take_of_length_le (by rw [List.length_reverse]; omega)]

theorem wByte {k : Nat} (hk : 9 ≤ k) (b : Int) : num_Writer_Byte k b = some () := by
  unfold num_Writer_Byte num_Writer_Byte.c
  rw [show (1 : Int) = ((1 : Nat) : Int) from rfl, num_lay_eq hk _ 1 (by omega)]; rfl
theorem wU16 {k : Nat} (hk : 9 ≤ k) (b : Int) : num_Writer_U16 k b = some () := by
  unfold num_Writer_U16 num_Writer_U16.c
  rw [show (2 : Int) = ((2 : Nat) : Int) from rfl, num_lay_eq hk _ 2 (by omega)]; rfl
theorem wU32 {k : Nat} (hk : 9 ≤ k) (b : Int) : num_Writer_U32 k b = some () := by
  unfold num_Writer_U32 num_Writer_U32.c
  rw [show (4 : Int) = ((4 : Nat) : Int) from rfl, num_lay_eq hk _ 4 (by omega)]; rfl
theorem wU64 {k : Nat} (hk : 9 ≤ k) (b : Int) : num_Writer_U64 k b = some () := by
  unfold num_Writer_U64 num_Writer_U64.c
  rw [show (8 : Int) = ((8 : Nat) : Int) from rfl, num_lay_eq hk _ 8 (by omega)]; rfl
theorem wBig16 {k : Nat} (hk : 9 ≤ k) (b : Int) : num_Writer_Big16 k b = some () := by
  unfold num_Writer_Big16 num_Writer_Big16.c
  dsimp only
  rw [wU16 hk]; rfl
theorem wCount {k : Nat} (hk : 9 ≤ k) (b : Int) : num_Writer_Count k b = some () := by
  unfold num_Writer_Count num_Writer_Count.c
  rw [num_Count_eq hk]; rfl
theorem wString {k : Nat} (hk : 9 ≤ k) (s : ByteArray) : num_Writer_String k s = some () := by
  unfold num_Writer_String num_Writer_String.c
  rw [wCount hk]; rfl
theorem wBool {k : Nat} (hk : 9 ≤ k) (b : Bool) : num_Writer_Bool k b = some () := by
  unfold num_Writer_Bool num_Writer_Bool.c
  cases b <;> simp only [cond_true, cond_false] <;> rw [wByte hk] <;> rfl

theorem low_some (n : Int) (hn : 0 ≤ n ∧ n ≤ 18446744073709551615) (b : Nat) (hb : b ≤ 8) : bedrockref01_Low 20 n (b : Int) = some (bytesOf (lowI n b), ()) := bedrockref01_Low_eq (by omega) n hn b hb

theorem cBytes_le (n : Int) : (cBytes n).length ≤ 9 := by
  have h := cBytes_length n
  unfold cLong at h
  split at h
  · omega
  · split at h
    · omega
    · split at h <;> omega

theorem put_some (a : Int × Int × Int × ByteArray × Unit) (hn : 0 ≤ a.2.2.1 ∧ a.2.2.1 ≤ 18446744073709551615) (hs : a.2.2.2.1.size ≤ 140737488351232) : ∃ b, bedrocklaw01_put 20 a = some (b, ()) := by
  unfold bedrocklaw01_put bedrocklaw01_put.c
  dsimp only
  cases h0 : (a.1 == (0 : Int))
  case true => 
    simp only [cond_true]
    rw [wByte (by omega), show (1 : Int) = ((1 : Nat) : Int) from rfl]
    simp only [Option.bind_some]
    rw [low_some _ hn 1 (by omega)]
    exact ⟨_, rfl⟩
  simp only [cond_false]
  cases h1 : (a.1 == (1 : Int))
  case true =>
    simp only [cond_true]
    rw [wU16 (by omega)]
    simp only [Option.bind_some]
    rw [show (2 : Int) = ((2 : Nat) : Int) from rfl, low_some _ hn 2 (by omega)]
    exact ⟨_, rfl⟩
  simp only [cond_false]
  cases h2 : (a.1 == (2 : Int))
  case true =>
    simp only [cond_true]
    rw [wU32 (by omega)]
    simp only [Option.bind_some]
    rw [show (4 : Int) = ((4 : Nat) : Int) from rfl, low_some _ hn 4 (by omega)]
    exact ⟨_, rfl⟩
  simp only [cond_false]
  cases h3 : (a.1 == (3 : Int))
  case true =>
    simp only [cond_true]
    rw [wU64 (by omega)]
    simp only [Option.bind_some]
    rw [show (8 : Int) = ((8 : Nat) : Int) from rfl, low_some _ hn 8 (by omega)]
    exact ⟨_, rfl⟩
  simp only [cond_false]
  cases h4 : (a.1 == (4 : Int))
  case true =>
    simp only [cond_true]
    rw [wBig16 (by omega)]
    simp only [Option.bind_some]
    rw [show (2 : Int) = ((2 : Nat) : Int) from rfl, low_some _ hn 2 (by omega)]
    simp only [Option.bind_some]
    rw [turned_eq (by rw [bytesOf_size, lowI_length]; omega) (by rw [bytesOf_size, lowI_length]; omega)]
    exact ⟨_, rfl⟩
  simp only [cond_false]
  cases h5 : (a.1 == (5 : Int))
  case true =>
    simp only [cond_true]
    rw [wCount (by omega)]
    simp only [Option.bind_some]
    rw [bedrockref01_Count_eq (by omega) _ hn]
    exact ⟨_, rfl⟩
  simp only [cond_false]
  cases h6 : (a.1 == (6 : Int))
  case true =>
    simp only [cond_true]
    exact ⟨_, rfl⟩
  simp only [cond_false]
  cases h7 : (a.1 == (7 : Int))
  case true =>
    simp only [cond_true]
    rw [wString (by omega)]
    simp only [Option.bind_some]
    rw [u64_in (by omega), bedrockref01_Count_eq (by omega) _ (by omega)]
    simp only [Option.bind_some]
    rw [cond_true' (ble_of (by rw [bytesOf_size]; have := cBytes_le ((a.2.2.2.1.size : Nat) : Int); omega))]
    exact ⟨_, rfl⟩
  simp only [cond_false]
  cases h8 : (a.1 == (8 : Int))
  case true =>
    simp only [cond_true]
    exact ⟨_, rfl⟩
  simp only [cond_false]
  rw [wBool (by omega)]
  simp only [Option.bind_some]
  rw [show (1 : Int) = ((1 : Nat) : Int) from rfl, low_some _ (by rw [Int.tmod_eq_emod_of_nonneg hn.1]; omega) 1 (by omega)]
  exact ⟨_, rfl⟩

theorem numNil_true (a : Int × Int × Int × ByteArray × Unit) (hn : 0 ≤ a.2.2.1 ∧ a.2.2.1 ≤ 18446744073709551615) (hs : a.2.2.2.1.size ≤ 140737488351232) : bedrocklaw01_NumNil 20 a = some (true, ()) := by
  obtain ⟨b, hb⟩ := put_some a hn hs
  unfold bedrocklaw01_NumNil bedrocklaw01_NumNil.c
  dsimp only
  rw [show num_Reader_Fail_2 20 a.2.1 = some () from rfl]
  simp only [Option.bind_some]
  show (bedrocklaw01_put 20 a).bind _ = _
  rw [hb, awake_eq, show num_Reader_Byte_2 20 = some ((0 : Int), ()) by kernel_rfl, show num_Reader_U16_2 20 = some ((0 : Int), ()) by kernel_rfl, show num_Reader_U32_2 20 = some ((0 : Int), ()) by kernel_rfl, show num_Reader_U64_2 20 = some ((0 : Int), ()) by kernel_rfl, show num_Reader_Big16_2 20 = some ((0 : Int), ()) by kernel_rfl,
    show num_Reader_Count_2 20 a.2.2.1 = some ((0 : Int), ()) from rfl, show num_Reader_Bytes_2 20 a.2.1 = some (⟨List.toArray []⟩, ()) from rfl, show num_Reader_String_2 20 a.2.1 = some (⟨List.toArray []⟩, ()) from rfl,
    show num_Reader_Hash_2 20 = some (List.replicate 32 (0 : Int), ()) by kernel_rfl, show num_Reader_Bool_2 20 = some (false, ()) by kernel_rfl, show num_Reader_Err_2 20 = some ((1 : Int), ()) from rfl, show num_Reader_End_2 20 = some ((1 : Int), ()) by kernel_rfl, show num_Reader_At_2 20 = some ((0 : Int), ()) from rfl, show num_Reader_Left_2 20 = some ((0 : Int), ()) from rfl, show num_Writer_Len 20 = some ((0 : Int), ()) from rfl, show num_Writer_Text 20 = some (⟨List.toArray []⟩, ()) from rfl]
  simp only [Option.bind_some, cond_true, beq_self_eq_true, strEq_self, decide_true, Bool.not_false]
end Go.Am
/- Hexadecimal texts. -/
namespace Go.Am
open Go

abbrev hexS : ByteArray := ⟨(List.toArray [48, 49, 50, 51, 52, 53, 54, 55, 56, 57, 97, 98, 99, 100, 101, 102])⟩

/-- What a letter says as a digit; 16: nothing. -/
def val (c : Int) : Int := if 48 ≤ c ∧ c ≤ 57 then c - 48 else if 97 ≤ c ∧ c ≤ 102 then c - 87 else 16
theorem val_range (c : Int) : 0 ≤ val c ∧ val c ≤ 16 := by
  unfold val
  split
  · omega
  · split <;> omega

theorem idx_all : ∀ c : Fin 256, indexB hexS ((c.val : Nat) : Int) = if val ((c.val : Nat) : Int) = 16 then -1 else val ((c.val : Nat) : Int) := by decide +kernel

theorem strIdx_eq (k : Nat) {c : Int} (h : 0 ≤ c ∧ c < 256) : strings_IndexByte k hexS c = some ((if val c = 16 then -1 else val c), ()) := by
  have := idx_all ⟨c.toNat, by omega⟩
  simp only [show ((c.toNat : Nat) : Int) = c by omega] at this
  rw [← this]
  rfl

theorem value_eq (k : Nat) {c : Int} (h : 0 ≤ c ∧ c < 256) : bedrockref01_value k c = some (val c, ()) := by
  unfold bedrockref01_value bedrockref01_value.c val
  have hp : bedrockref01_value.p0 k (c, ()) = some (if 48 ≤ c ∧ c ≤ 57 then .inl (c - 48, ()) else .inr (c, ())) := by
    unfold bedrockref01_value.p0
    simp only [bedrockref01_value.p0.r]
    by_cases h1 : c ≥ 48
    · rw [bif_yes h1]
      by_cases h2 : c ≤ 57
      · rw [bif_yes h2, u8_in (by omega), if_pos ⟨h1, h2⟩]
      · rw [bif_no h2, if_neg (by omega)]
    · rw [bif_no h1, if_neg (by omega)]
  rw [hp]
  simp only [Option.bind_some]
  by_cases h1 : 48 ≤ c ∧ c ≤ 57
  · rw [if_pos h1, if_pos h1]
  · rw [if_neg h1, if_neg h1]
    dsimp only
    by_cases h2 : c ≥ 97
    · rw [bif_yes h2]
      by_cases h3 : c ≤ 102
      · rw [bif_yes h3, if_pos ⟨h2, h3⟩, u8_in (n := c - 97) (by omega), u8_in (by omega), show c - 97 + 10 = c - 87 by omega]
      · rw [bif_no h3, if_neg (by omega)]
    · rw [bif_no h2, if_neg (by omega)]

/-- Where the first letter stands that says nothing. -/
def fb : List Int → Nat
  | [] => 0
  | c :: l => if val c = 16 then 0 else fb l + 1
theorem fb_le : ∀ l, fb l ≤ l.length
  | [] => Nat.le_refl _
  | c :: l => by
    have := fb_le l
    simp only [fb, List.length_cons]
    split <;> omega
theorem fb_lt : ∀ {l : List Int} {i : Nat}, i < fb l → val (l.getD i 0) ≠ 16
  | c :: l, i, h => by
    simp only [fb] at h
    split at h
    · omega
    · rename_i hc
      cases i with
      | zero => simpa using hc
      | succ i => simpa using fb_lt (l := l) (i := i) (by omega)
theorem fb_at : ∀ {l : List Int}, fb l < l.length → val (l.getD (fb l) 0) = 16
  | c :: l, h => by
    simp only [fb, List.length_cons] at h ⊢
    split at h
    · rename_i hc; rw [if_pos hc]; simpa using hc
    · rename_i hc; rw [if_neg hc]; simpa using fb_at (l := l) (by omega)
theorem fb_take : ∀ (l : List Int) (n : Nat), fb (l.take n) = min n (fb l)
  | [], n => by simp [fb]
  | c :: l, 0 => by simp [fb]
  | c :: l, n + 1 => by
    simp only [List.take_succ_cons, fb]
    split
    · omega
    · rw [fb_take l n]; omega

/-- The bytes that pairs of letters say. -/
def pairAt (l : List Int) (j : Nat) : Int := val (l.getD (2 * j) 0) * 16 + val (l.getD (2 * j + 1) 0)
def pairs (l : List Int) : List Int := (List.range (l.length / 2)).map (pairAt l)
/-- The same, of the first i letters. -/
def pairZ (l : List Int) (i j : Nat) : Int := if 2 * j + 1 < i then pairAt l j else if 2 * j < i then val (l.getD (2 * j) 0) else 0

theorem or_u8_add {A B : Nat} (ha : A < 16) (hb : B < 16) : bitsOp .or .u8 ((B * 2 ^ 4 : Nat) : Int) (A : Int) = ((B * 2 ^ 4 + A : Nat) : Int) := by
  simp only [bitsOp]
  rw [u8_mod]
  show ((((BitVec.ofInt 8 ((B * 2 ^ 4 : Nat) : Int)) ||| (BitVec.ofInt 8 (A : Int))).toNat : Nat) : Int) % 256 = _
  rw [BitVec.toNat_or, toNat_ofInt 8 _ (by omega), toNat_ofInt 8 _ (by omega), Nat.or_comm, or_add (A := A) (B := B) (j := 4) (by omega)]
  omega

theorem shl4_or {x v : Int} (hx : 0 ≤ x ∧ x < 16) (hv : 0 ≤ v ∧ v < 16) : bitsOp .or .u8 (shlOp .u8 x 4) (IntKind.u8.wrap v) = x * 16 + v := by
  rw [u8_in (n := v) (by omega)]
  obtain ⟨A, rfl⟩ := Int.eq_ofNat_of_zero_le hv.1
  obtain ⟨B, rfl⟩ := Int.eq_ofNat_of_zero_le hx.1
  have : shlOp .u8 (B : Int) 4 = ((B * 2 ^ 4 : Nat) : Int) := by
    show IntKind.u8.wrap ((B : Int) * 2 ^ 4) = _
    rw [u8_mod]; omega
  rw [this, or_u8_add (by omega) (by omega)]
  omega

/-- What a hexadecimal text says: bytes; the place of a fault; is there one? -/
def unhexS (l : List Int) : List Int × Int × Bool :=
  if fb l < l.length then ([], (fb l : Int), true) else if l.length % 2 = 1 then ([], (l.length : Int), true) else (pairs l, 0, false)

theorem set_range_map {f g : Nat → Int} {m i : Nat} (hi : i < m) (h : ∀ j, j < m → j ≠ i → g j = f j) : ((List.range m).map f).set i (g i) = (List.range m).map g := by
  apply List.ext_getElem
  · simp
  · intro j h1 h2
    simp only [List.length_map, List.length_range] at h2
    rw [List.getElem_set]
    split
    · rename_i e; subst e; simp
    · rename_i e; simp [h j h2 (Ne.symm e)]

theorem getD_range_map {f : Nat → Int} {m i : Nat} (hi : i < m) : ((List.range m).map f).getD i 0 = f i := by
  rw [List.getD_eq_getElem?_getD, List.getElem?_map, List.getElem?_range hi]; rfl

theorem unhex_eq {k : Nat} {s : ByteArray} (hs : s.size ≤ 140737488351232) (hk : s.size < k) :
    num_Unhex k s = some (bytesOf (unhexS (ofBytes s)).1, (unhexS (ofBytes s)).2.1, (if (unhexS (ofBytes s)).2.2 then 10 else 0), ()) := by
  unfold num_Unhex num_Unhex.c
  have hlen := ofBytes_length s
  have hfb := fb_le (ofBytes s)
  have hm : Int.tdiv ((s.size : Nat) : Int) 2 = ((s.size / 2 : Nat) : Int) := by rw [Int.tdiv_eq_ediv_of_nonneg (by omega)]; omega
  rw [hm, i64_in (by omega)]
  dsimp only
  rw [decide_eq_true (show (0 : Int) ≤ ((s.size / 2 : Nat) : Int) ∧ ((s.size / 2 : Nat) : Int) ≤ ((s.size / 2 : Nat) : Int) by omega), ble_of (show ((s.size / 2 : Nat) : Int).toNat * 1 ≤ 140737488355328 by omega)]
  simp only [Bool.and_self, cond_true]
  have hl := loop_from0 (r := num_Unhex.l0.r k) (fun i => (s, (s.size : Int), (i : Int), (List.range (s.size / 2)).map (pairZ (ofBytes s) i), ())) (fb (ofBytes s))
    (if fb (ofBytes s) < s.size then (.inl (bytesOf [], (fb (ofBytes s) : Int), (10 : Int), ())) else .inr (s, (List.range (s.size / 2)).map (pairZ (ofBytes s) s.size), ())) ?_ ?_ (fuel := k) (by omega)
  · have e0 : (List.range (s.size / 2)).map (pairZ (ofBytes s) 0) = List.replicate (s.size / 2) 0 := by
      apply List.ext_getElem
      · simp
      · intro j h1 h2
        simp [pairZ]
    rw [e0] at hl
    show (num_Unhex.l0 k k (s, (s.size : Int), ((0 : Nat) : Int), List.replicate ((s.size / 2 : Nat) : Int).toNat 0, ())).bind _ = _
    rw [show ((s.size / 2 : Nat) : Int).toNat = s.size / 2 by omega]
    unfold num_Unhex.l0
    rw [hl]
    simp only [Option.bind_some]
    unfold unhexS
    rw [hlen]
    by_cases hb : fb (ofBytes s) < s.size
    · rw [if_pos hb, if_pos hb]
      rfl
    · rw [if_neg hb, if_neg hb]
      dsimp only
      have ht : Int.tmod ((s.size : Nat) : Int) 2 = ((s.size % 2 : Nat) : Int) := by rw [Int.tmod_eq_emod_of_nonneg (by omega)]; omega
      rw [ht]
      by_cases ho : s.size % 2 = 1
      · rw [if_pos ho, ho]
        rfl
      · rw [if_neg ho, show s.size % 2 = 0 by omega]
        have : (List.range (s.size / 2)).map (pairZ (ofBytes s) s.size) = pairs (ofBytes s) := by
          unfold pairs
          rw [hlen]
          apply List.map_congr_left
          intro j hj
          have := List.mem_range.1 hj
          unfold pairZ
          rw [if_pos (by omega)]
        rw [this]
        rfl
  · intro i hi kn ke
    simp only [num_Unhex.l0.r]
    have hr := byteAt_range s i
    have hv := val_range (byteAt s i)
    have hne : val (byteAt s i) ≠ 16 := by rw [byteAt_eq]; exact fb_lt hi
    rw [bif_yes (by omega), bif_yes (by omega), show (i : Int).toNat = i by omega, strIdx_eq k hr]
    simp only [Option.bind_some]
    rw [if_neg hne, bif_no (by omega)]
    have hm2 : Int.tdiv ((i : Nat) : Int) 2 = ((i / 2 : Nat) : Int) := by rw [Int.tdiv_eq_ediv_of_nonneg (by omega)]; omega
    rw [hm2, i64_in (n := ((i / 2 : Nat) : Int)) (by omega), i64_in (n := (i : Int) + 1) (by omega)]
    have hll : ((List.range (s.size / 2)).map (pairZ (ofBytes s) i)).length = s.size / 2 := by simp
    rw [hll]
    have hother : ∀ j, j < s.size / 2 → j ≠ i / 2 → pairZ (ofBytes s) (i + 1) j = pairZ (ofBytes s) i j := by
      intro j _ hj
      unfold pairZ
      by_cases h1 : 2 * j + 1 < i
      · rw [if_pos (by omega), if_pos h1]
      · rw [if_neg (by omega), if_neg h1]
        by_cases h2 : 2 * j < i
        · omega
        · rw [if_neg (by omega), if_neg h2]
    by_cases hi2 : i / 2 < s.size / 2
    · rw [bif_yes (by omega), bif_yes (by omega), bif_yes (by omega), show ((i / 2 : Nat) : Int).toNat = i / 2 by omega, getD_range_map hi2]
      have hval : bitsOp .or .u8 (shlOp .u8 (pairZ (ofBytes s) i (i / 2)) 4) (IntKind.u8.wrap (val (byteAt s i))) = pairZ (ofBytes s) (i + 1) (i / 2) := by
        have hx : 0 ≤ pairZ (ofBytes s) i (i / 2) ∧ pairZ (ofBytes s) i (i / 2) < 16 := by
          unfold pairZ
          rw [if_neg (by omega)]
          split
          · have h1 := fb_lt (l := ofBytes s) (i := 2 * (i / 2)) (by omega)
            have h2 := val_range ((ofBytes s).getD (2 * (i / 2)) 0)
            omega
          · omega
        rw [shl4_or hx (by omega)]
        unfold pairZ
        rw [byteAt_eq, if_neg (by omega)]
        by_cases he : i % 2 = 0
        · rw [if_neg (by omega), if_neg (by omega), if_pos (by omega), show 2 * (i / 2) = i by omega]
          omega
        · rw [if_pos (by omega), if_pos (by omega)]
          unfold pairAt
          rw [show 2 * (i / 2) + 1 = i by omega]
      rw [hval, set_range_map hi2 hother]
      rfl
    · rw [bif_no (by omega)]
      have : (List.range (s.size / 2)).map (pairZ (ofBytes s) i) = (List.range (s.size / 2)).map (pairZ (ofBytes s) (i + 1)) := by
        apply List.map_congr_left
        intro j hj
        have := List.mem_range.1 hj
        exact (hother j this (by omega)).symm
      rw [this]
      rfl
  · intro kn ke
    simp only [num_Unhex.l0.r]
    by_cases hb : fb (ofBytes s) < s.size
    · have hr := byteAt_range s (fb (ofBytes s))
      have h16 : val (byteAt s (fb (ofBytes s))) = 16 := by rw [byteAt_eq]; exact fb_at (by omega)
      rw [bif_yes (by omega), bif_yes (by omega), show ((fb (ofBytes s) : Nat) : Int).toNat = fb (ofBytes s) by omega, strIdx_eq k hr]
      simp only [Option.bind_some]
      rw [if_pos h16, bif_yes (by omega), if_pos hb]
      rfl
    · rw [bif_no (by omega), if_neg hb, show fb (ofBytes s) = s.size by omega]

theorem pairAt_in {l : List Int} {j : Nat} (hf : fb l = l.length) (hj : 2 * j + 1 < l.length) : 0 ≤ pairAt l j ∧ pairAt l j < 256 := by
  have h1 := fb_lt (l := l) (i := 2 * j) (by omega)
  have h2 := fb_lt (l := l) (i := 2 * j + 1) (by omega)
  have h3 := val_range (l.getD (2 * j) 0)
  have h4 := val_range (l.getD (2 * j + 1) 0)
  unfold pairAt
  omega
theorem pairs_in {l : List Int} (hf : fb l = l.length) : bytesIn (pairs l) := by
  intro x hx
  unfold pairs at hx
  obtain ⟨j, hj, rfl⟩ := List.mem_map.1 hx
  have := List.mem_range.1 hj
  exact pairAt_in hf (by omega)
theorem pairs_length (l : List Int) : (pairs l).length = l.length / 2 := by simp [pairs]

theorem refunhex_eq {k : Nat} {s : ByteArray} (hs : s.size ≤ 140737488351232) (hk : s.size < k) :
    bedrockref01_Unhex k s = some (bytesOf (unhexS (ofBytes s)).1, (if (unhexS (ofBytes s)).2.2 then (unhexS (ofBytes s)).2.1 else -1), ()) := by
  unfold bedrockref01_Unhex bedrockref01_Unhex.c
  have hlen := ofBytes_length s
  have hfb := fb_le (ofBytes s)
  have hl := loop_from0 (r := bedrockref01_Unhex.l0.r k) (fun i => (s, (i : Int), ())) (fb (ofBytes s))
    (if fb (ofBytes s) < s.size then (.inl (bytesOf [], (fb (ofBytes s) : Int), ())) else .inr (s, ())) ?_ ?_ (fuel := k) (by omega)
  · show (bedrockref01_Unhex.l0 k k (s, ((0 : Nat) : Int), ())).bind _ = _
    unfold bedrockref01_Unhex.l0
    rw [hl]
    simp only [Option.bind_some]
    unfold unhexS
    rw [hlen]
    by_cases hb : fb (ofBytes s) < s.size
    · rw [if_pos hb, if_pos hb]
      rfl
    · rw [if_neg hb, if_neg hb]
      dsimp only
      have ht : Int.tmod ((s.size : Nat) : Int) 2 = ((s.size % 2 : Nat) : Int) := by rw [Int.tmod_eq_emod_of_nonneg (by omega)]; omega
      rw [ht]
      by_cases ho : s.size % 2 = 1
      · rw [if_pos ho, ho]
        rfl
      · rw [if_neg ho, show s.size % 2 = 0 by omega]
        show (bedrockref01_Unhex.l1 k k (s, bytesOf [], ((2 * 0 : Nat) : Int), ())).bind _ = _
        have hff : fb (ofBytes s) = (ofBytes s).length := by omega
        have hl2 := loop_from0 (r := bedrockref01_Unhex.l1.r k) (fun i => (s, bytesOf ((pairs (ofBytes s)).take i), ((2 * i : Nat) : Int), ())) (s.size / 2) (bytesOf (pairs (ofBytes s)), ()) ?_ ?_ (fuel := k) (by omega)
        · unfold bedrockref01_Unhex.l1
          rw [List.take_zero] at hl2
          rw [hl2]
          rfl
        · intro i hi kn ke
          simp only [bedrockref01_Unhex.l1.r]
          have r1 := byteAt_range s (2 * i)
          have r2 := byteAt_range s (2 * i + 1)
          have n1 : val (byteAt s (2 * i)) ≠ 16 := by rw [byteAt_eq]; exact fb_lt (by omega)
          have n2 : val (byteAt s (2 * i + 1)) ≠ 16 := by rw [byteAt_eq]; exact fb_lt (by omega)
          have v1 := val_range (byteAt s (2 * i))
          have v2 := val_range (byteAt s (2 * i + 1))
          rw [bif_yes (by omega), bif_yes (by omega), show (((2 * i : Nat) : Int)).toNat = 2 * i by omega, value_eq k r1]
          simp only [Option.bind_some]
          rw [i64_in (n := ((2 * i : Nat) : Int) + 1) (by omega), bif_yes (by omega), show (((2 * i : Nat) : Int) + 1).toNat = 2 * i + 1 by omega, value_eq k r2]
          simp only [Option.bind_some]
          rw [u8_in (n := val (byteAt s (2 * i)) * 16) (by omega), u8_in (by omega), i64_in (by omega)]
          have hp : pairAt (ofBytes s) i = val (byteAt s (2 * i)) * 16 + val (byteAt s (2 * i + 1)) := by unfold pairAt; rw [byteAt_eq, byteAt_eq]
          have hset : bytesOf (List.set (List.replicate 1 (0 : Int)) 0 (val (byteAt s (2 * i)) * 16 + val (byteAt s (2 * i + 1)))) = bytesOf [pairAt (ofBytes s) i] := by rw [hp]; rfl
          have htk : (pairs (ofBytes s)).take (i + 1) = (pairs (ofBytes s)).take i ++ [pairAt (ofBytes s) i] := by
            have : (pairs (ofBytes s))[i]? = some (pairAt (ofBytes s) i) := by
              unfold pairs
              rw [List.getElem?_map, List.getElem?_range (by omega)]; rfl
            rw [List.take_add_one, this]; rfl
          rw [hset, cond_true' (ble_of (by rw [bytesOf_size, bytesOf_size, List.length_take, pairs_length]; simp only [List.length_cons, List.length_nil]; omega)), bytesOf_append, ← htk]
          rw [show ((2 * i : Nat) : Int) + 2 = ((2 * (i + 1) : Nat) : Int) by omega]
        · intro kn ke
          simp only [bedrockref01_Unhex.l1.r]
          rw [bif_no (by omega), List.take_of_length_le (by rw [pairs_length]; omega)]
  · intro i hi kn ke
    simp only [bedrockref01_Unhex.l0.r]
    have hr := byteAt_range s i
    have hne : val (byteAt s i) ≠ 16 := by rw [byteAt_eq]; exact fb_lt hi
    rw [bif_yes (by omega), bif_yes (by omega), show (i : Int).toNat = i by omega, value_eq k hr]
    simp only [Option.bind_some]
    rw [cond_false' (by simpa using hne), i64_in (by omega)]
    rfl
  · intro kn ke
    simp only [bedrockref01_Unhex.l0.r]
    by_cases hb : fb (ofBytes s) < s.size
    · have hr := byteAt_range s (fb (ofBytes s))
      have h16 : val (byteAt s (fb (ofBytes s))) = 16 := by rw [byteAt_eq]; exact fb_at (by omega)
      rw [bif_yes (by omega), bif_yes (by omega), show ((fb (ofBytes s) : Nat) : Int).toNat = fb (ofBytes s) by omega, value_eq k hr]
      simp only [Option.bind_some]
      rw [cond_true' (by simpa using h16), if_pos hb]
      rfl
    · rw [bif_no (by omega), if_neg hb]
end Go.Am
/- NumTexts: the plain law. -/
namespace Go.Am
open Go

theorem awake01' {k : Nat} (hk : 9 ≤ k) : bedrocklaw01_awake k = some (true, ()) := by
  obtain ⟨j, rfl⟩ : ∃ j, k = j + 2 := ⟨k - 2, by omega⟩
  unfold bedrocklaw01_awake bedrocklaw01_awake.c
  rw [num_TakeCount_eq (by omega) _ _ (by decide), show tcSpec ⟨List.toArray [253, 0, 1]⟩ 0 = (256, 3, 0, ()) by kernel_rfl, show num_Hex (j + 2) ⟨List.toArray [171]⟩ = some (⟨List.toArray [97, 98]⟩, ()) by kernel_rfl]
  simp only [Option.bind_some, beq_self_eq_true, cond_true, strEq_self]

/-! turned round -/
def turnZ (h : List Int) (i j : Nat) : Int := if 32 ≤ i + j then h.getD (31 - j) 0 else 0
theorem num_turned_eq {k : Nat} (hk : 32 < k) {h : List Int} (hh : h.length = 32) : num_turned k h = some (h.reverse, ()) := by
  unfold num_turned num_turned.c
  have hl := loop_from0 (r := num_turned.l0.r k) (fun i => (h, (i : Int), List.replicate 32 (0 : Int), (List.range 32).map (turnZ h i), ())) 32 (List.replicate 32 (0 : Int), h.reverse, ()) ?_ ?_ (fuel := k) hk
  · have e0 : (List.range 32).map (turnZ h 0) = List.replicate 32 0 := by
      apply List.ext_getElem
      · simp
      · intro j h1 h2
        simp only [List.length_map, List.length_range] at h1
        rw [List.getElem_map, List.getElem_range, List.getElem_replicate]
        unfold turnZ
        rw [if_neg (by omega)]
    rw [e0] at hl
    show (num_turned.l0 k k (h, ((0 : Nat) : Int), List.replicate 32 (0 : Int), List.replicate 32 (0 : Int), ())).bind _ = _
    unfold num_turned.l0
    rw [hl]
    rfl
  · intro i hi kn ke
    simp only [num_turned.l0.r]
    rw [bif_yes (by omega), bif_yes (by omega), i64_in (n := 31 - (i : Int)) (by omega), bif_yes (by omega), i64_in (by omega), show (i : Int).toNat = i by omega, show (31 - (i : Int)).toNat = 31 - i by omega]
    have hv : h.getD i 0 = turnZ h (i + 1) (31 - i) := by
      unfold turnZ
      rw [if_pos (by omega), show 31 - (31 - i) = i by omega]
    rw [hv, set_range_map (f := turnZ h i) (g := turnZ h (i + 1)) (by omega)]
    · rfl
    · intro j hj hne
      unfold turnZ
      by_cases h1 : 32 ≤ i + j
      · rw [if_pos (by omega), if_pos h1]
      · rw [if_neg (by omega), if_neg h1]
  · intro kn ke
    simp only [num_turned.l0.r]
    rw [bif_no (by omega)]
    have : (List.range 32).map (turnZ h 32) = h.reverse := by
      apply List.ext_getElem
      · simp [hh]
      · intro j h1 h2
        simp only [List.length_map, List.length_range] at h1
        rw [List.getElem_map, List.getElem_range, List.getElem_reverse]
        unfold turnZ
        rw [if_pos (by omega), List.getD_eq_getElem?_getD, List.getElem?_eq_getElem (by omega)]
        simp only [hh, Option.getD_some]
    rw [this]

/-! hexadecimal -/
def digit (n : Int) : Int := byteAt hexS n.toNat
theorem digit_val : ∀ n : Fin 16, val (digit ((n.val : Nat) : Int)) = ((n.val : Nat) : Int) ∧ 0 ≤ digit ((n.val : Nat) : Int) ∧ digit ((n.val : Nat) : Int) < 256 := by decide +kernel
theorem digit_all : ∀ n : Fin 16, ByteArray.extract hexS n.val (n.val + 1) = bytesOf [digit ((n.val : Nat) : Int)] := by decide +kernel
theorem digit_spec {n : Int} (h : 0 ≤ n ∧ n < 16) : val (digit n) = n ∧ 0 ≤ digit n ∧ digit n < 256 := by
  have := digit_val ⟨n.toNat, by omega⟩
  simpa only [show ((n.toNat : Nat) : Int) = n by omega] using this
theorem halves : ∀ b : Fin 256, shrOp .u8 ((b.val : Nat) : Int) 4 = ((b.val : Nat) : Int) / 16 ∧ bitsOp .and .u8 ((b.val : Nat) : Int) 15 = ((b.val : Nat) : Int) % 16 := by decide +kernel
theorem halves_of {b : Int} (h : 0 ≤ b ∧ b < 256) : shrOp .u8 b 4 = b / 16 ∧ bitsOp .and .u8 b 15 = b % 16 := by
  have := halves ⟨b.toNat, by omega⟩
  simpa only [show ((b.toNat : Nat) : Int) = b by omega] using this

def hexL : List Int → List Int
  | [] => []
  | b :: l => digit (b / 16) :: digit (b % 16) :: hexL l
theorem hexL_length : ∀ l, (hexL l).length = 2 * l.length
  | [] => rfl
  | b :: l => by simp only [hexL, List.length_cons, hexL_length l]; omega
theorem hexL_append : ∀ l r, hexL (l ++ r) = hexL l ++ hexL r
  | [], r => rfl
  | b :: l, r => by simp only [List.cons_append, hexL, hexL_append l r]
theorem hexL_in : ∀ {l : List Int}, bytesIn l → bytesIn (hexL l)
  | [], _ => fun x hx => by cases hx
  | b :: l, h => by
    have hb := h b (by simp)
    have d1 := digit_spec (n := b / 16) (by omega)
    have d2 := digit_spec (n := b % 16) (by omega)
    intro x hx
    simp only [hexL, List.mem_cons] at hx
    rcases hx with rfl | rfl | hx
    · omega
    · omega
    · exact hexL_in (fun y hy => h y (by simp [hy])) x hx
theorem hexL_fb : ∀ {l : List Int}, bytesIn l → fb (hexL l) = 2 * l.length
  | [], _ => rfl
  | b :: l, h => by
    have hb := h b (by simp)
    have d1 := digit_spec (n := b / 16) (by omega)
    have d2 := digit_spec (n := b % 16) (by omega)
    have ih := hexL_fb (l := l) fun y hy => h y (by simp [hy])
    simp only [hexL, fb, List.length_cons]
    rw [if_neg (by omega), if_neg (by omega), ih]
    omega
theorem hexL_get : ∀ {l : List Int} {j : Nat}, j < l.length → (hexL l).getD (2 * j) 0 = digit (l.getD j 0 / 16) ∧ (hexL l).getD (2 * j + 1) 0 = digit (l.getD j 0 % 16)
  | b :: l, 0, _ => ⟨rfl, rfl⟩
  | b :: l, j + 1, h => by
    have ih := hexL_get (l := l) (j := j) (by simpa using h)
    rw [show 2 * (j + 1) = 2 * j + 1 + 1 by omega, show 2 * j + 1 + 1 + 1 = (2 * j + 1) + 1 + 1 by omega]
    simpa only [hexL, List.getD_cons_succ] using ih
theorem hexL_pairs {l : List Int} (h : bytesIn l) : pairs (hexL l) = l := by
  apply List.ext_getElem
  · rw [pairs_length, hexL_length]; omega
  · intro j h1 h2
    have e0 : (pairs (hexL l))[j] = pairAt (hexL l) j := by simp [pairs]
    rw [e0]
    unfold pairAt
    obtain ⟨g1, g2⟩ := hexL_get h2
    have hb := h _ (List.getElem_mem h2)
    have e : l.getD j 0 = l[j] := by rw [List.getD_eq_getElem?_getD, List.getElem?_eq_getElem h2]; rfl
    rw [g1, g2, e, (digit_spec (n := l[j] / 16) (by omega)).1, (digit_spec (n := l[j] % 16) (by omega)).1]
    omega

theorem take_snoc {l : List Int} {i : Nat} (h : i < l.length) : l.take (i + 1) = l.take i ++ [l.getD i 0] := by
  rw [List.take_add_one, List.getD_eq_getElem?_getD, List.getElem?_eq_getElem h]; rfl

theorem num_Hex_eq {k : Nat} {s : ByteArray} (hs : s.size ≤ 70000000000000) (hk : s.size < k) : num_Hex k s = some (bytesOf (hexL (ofBytes s)), ()) := by
  unfold num_Hex num_Hex.c
  have hlen := ofBytes_length s
  rw [i64_in (by omega)]
  dsimp only
  rw [decide_eq_true (show (0 : Int) ≤ 0 ∧ (0 : Int) ≤ 2 * ((s.size : Nat) : Int) by omega), ble_of (show (2 * ((s.size : Nat) : Int)).toNat * 1 ≤ 140737488355328 by omega)]
  simp only [Bool.and_self, cond_true]
  have hl := loop_from0 (r := num_Hex.l0.r k) (fun i => (s, (s.size : Int), (i : Int), hexL ((ofBytes s).take i), ())) s.size (hexL (ofBytes s), ()) ?_ ?_ (fuel := k) hk
  · show (num_Hex.l0 k k (s, (s.size : Int), ((0 : Nat) : Int), hexL ((ofBytes s).take 0), ())).bind _ = _
    unfold num_Hex.l0
    rw [hl]
    rfl
  · intro i hi kn ke
    simp only [num_Hex.l0.r]
    have hr := byteAt_range s i
    obtain ⟨e1, e2⟩ := halves_of hr
    rw [bif_yes (by omega), bif_yes (by omega), show (i : Int).toNat = i by omega, e1, e2, bif_yes (by omega), bif_yes (by omega), bif_yes (by omega)]
    have e3 : List.set (List.set (List.replicate 2 (0 : Int)) 0 (byteAt hexS (byteAt s i / 16).toNat)) 1 (byteAt hexS (byteAt s i % 16).toNat) = hexL [byteAt s i] := rfl
    rw [e3, cond_true' (ble_of (by rw [hexL_length, List.length_take]; simp only [hexL, List.length_cons, List.length_nil]; omega)), ← hexL_append, byteAt_eq, ← take_snoc (by omega), i64_in (by omega)]
    rfl
  · intro kn ke
    simp only [num_Hex.l0.r]
    rw [bif_no (by omega), List.take_of_length_le (by omega)]

theorem ref_digit_eq (k : Nat) {n : Int} (h : 0 ≤ n ∧ n < 16) : bedrockref01_digit k n = some (bytesOf [digit n], ()) := by
  unfold bedrockref01_digit bedrockref01_digit.c
  have := digit_all ⟨n.toNat, by omega⟩
  simp only [show ((n.toNat : Nat) : Int) = n by omega] at this
  rw [u8_in (by omega)]
  dsimp only
  rw [bif_yes (by omega), show (n + 1).toNat = n.toNat + 1 by omega, this]

theorem ref_Hex_eq {k : Nat} {s : ByteArray} (hs : s.size ≤ 140737488351232) (hk : s.size < k) : bedrockref01_Hex k s = some (bytesOf (hexL (ofBytes s)), ()) := by
  unfold bedrockref01_Hex bedrockref01_Hex.c
  have hlen := ofBytes_length s
  have hl := loop_from0 (r := bedrockref01_Hex.l0.r k) (fun i => (s, bytesOf (hexL ((ofBytes s).take i)), (i : Int), ())) s.size (bytesOf (hexL (ofBytes s)), ()) ?_ ?_ (fuel := k) hk
  · show (bedrockref01_Hex.l0 k k (s, bytesOf (hexL ((ofBytes s).take 0)), ((0 : Nat) : Int), ())).bind _ = _
    unfold bedrockref01_Hex.l0
    rw [hl]
    rfl
  · intro i hi kn ke
    simp only [bedrockref01_Hex.l0.r]
    have hr := byteAt_range s i
    rw [bif_yes (by omega), bif_yes (by omega), show (i : Int).toNat = i by omega, Int.tdiv_eq_ediv_of_nonneg hr.1, u8_in (by omega), ref_digit_eq k (by omega)]
    simp only [Option.bind_some]
    rw [bif_yes (by omega), Int.tmod_eq_emod_of_nonneg hr.1, ref_digit_eq k (by omega)]
    simp only [Option.bind_some]
    rw [cond_true' (ble_of (by rw [bytesOf_size, bytesOf_size]; simp only [List.length_cons, List.length_nil]; omega)), bytesOf_append]
    rw [cond_true' (ble_of (by rw [bytesOf_size, bytesOf_size, hexL_length, List.length_take]; simp only [List.cons_append, List.nil_append, List.length_cons, List.length_nil]; omega)), bytesOf_append]
    have e3 : ([digit (byteAt s i / 16)] ++ [digit (byteAt s i % 16)] : List Int) = hexL [byteAt s i] := rfl
    rw [e3, ← hexL_append, byteAt_eq, ← take_snoc (by omega), i64_in (by omega)]
    rfl
  · intro kn ke
    simp only [bedrockref01_Hex.l0.r]
    rw [bif_no (by omega), List.take_of_length_le (by omega)]

theorem bytes32 {h : List Int} (hh : h.length = 32) : (h.drop 0).take 32 = h := by rw [List.drop_zero, List.take_of_length_le (by omega)]

theorem num_Text_eq {k : Nat} (hk : 64 < k) {h : List Int} (hh : h.length = 32) (hb : bytesIn h) : num_Text k h = some (bytesOf (hexL h.reverse), ()) := by
  unfold num_Text num_Text.c
  rw [num_turned_eq (by omega) hh]
  simp only [Option.bind_some]
  rw [bytes32 (by rw [List.length_reverse]; exact hh), num_Hex_eq (by rw [bytesOf_size, List.length_reverse]; omega) (by rw [bytesOf_size, List.length_reverse]; omega), ofBytes_bytesOf (fun x hx => hb x (List.mem_reverse.1 hx))]
  rfl

/-! read back -/
def zeros32 : List Int := List.replicate 32 0
def parseS (l : List Int) : List Int × Int × Bool :=
  if fb l < min l.length 64 then (zeros32, (fb l : Int), true) else if l.length ≠ 64 then (zeros32, ((min l.length 64 : Nat) : Int), true) else ((pairs l).reverse, 0, false)

theorem num_Parse_eq {k : Nat} (hk : 64 < k) {s : ByteArray} (hs : s.size ≤ 140737488351232) :
    num_Parse k s = some ((parseS (ofBytes s)).1, (parseS (ofBytes s)).2.1, (if (parseS (ofBytes s)).2.2 then 10 else 0), ()) := by
  unfold num_Parse num_Parse.c parseS
  have hlen := ofBytes_length s
  have hm : (if ((s.size : Nat) : Int) < 64 then ((s.size : Nat) : Int) else 64) = ((min s.size 64 : Nat) : Int) := by split <;> omega
  rw [hm]
  dsimp only
  rw [bif_yes (by omega), show (((min s.size 64 : Nat) : Int)).toNat = min s.size 64 by omega]
  have hz : (s.extract 0 (min s.size 64)).size = min s.size 64 := by rw [ByteArray.size_extract]; omega
  have hb : ofBytes (s.extract 0 (min s.size 64)) = (ofBytes s).take (min s.size 64) := by rw [ofBytes_extract, List.drop_zero, Nat.sub_zero]
  rw [unhex_eq (by omega) (by omega), hb]
  simp only [Option.bind_some]
  unfold unhexS
  have hfb := fb_le (ofBytes s)
  rw [fb_take, List.length_take, hlen, show min (min s.size 64) s.size = min s.size 64 by omega]
  by_cases h1 : fb (ofBytes s) < min s.size 64
  · rw [show min (min s.size 64) (fb (ofBytes s)) = fb (ofBytes s) by omega]
    simp only [if_pos h1]
    rfl
  · rw [show min (min s.size 64) (fb (ofBytes s)) = min s.size 64 by omega]
    simp only [if_neg h1, if_neg (Nat.lt_irrefl _)]
    by_cases h2 : s.size = 64
    · have hlt : (ofBytes s).take (min s.size 64) = ofBytes s := List.take_of_length_le (by omega)
      have hpb := pairs_in (l := ofBytes s) (by omega)
      have hpl := pairs_length (ofBytes s)
      simp only [if_neg (show ¬ min s.size 64 % 2 = 1 by omega), if_neg (show ¬ s.size ≠ 64 by omega), hlt, Bool.false_eq_true, if_false]
      rw [bne_self_eq_false, cond_false, h2, show ((((64 : Nat) : Int)) != 64) = false from rfl, cond_false, ofBytes_bytesOf hpb]
      have hc : copyL (List.replicate 32 (0 : Int)) 0 (pairs (ofBytes s)) (Min.min (pairs (ofBytes s)).length 32) = pairs (ofBytes s) := by
        unfold copyL
        rw [List.take_zero, List.nil_append, hpl, hlen, h2, List.take_of_length_le (by omega), List.drop_eq_nil_of_le (by simp), List.append_nil]
      rw [hc, num_turned_eq (by omega) (by omega)]
      rfl
    · have hne : ((((s.size : Nat) : Int)) != 64) = true := by
        rw [bne_iff_ne]; omega
      simp only [if_pos (show s.size ≠ 64 from h2)]
      by_cases h3 : min s.size 64 % 2 = 1
      · simp only [if_pos h3]
        rfl
      · simp only [if_neg h3, Bool.false_eq_true, if_false, if_true]
        rw [bne_self_eq_false, cond_false, hne, cond_true]
        rfl

theorem ref_Parse_eq {k : Nat} (hk : 64 < k) {s : ByteArray} (hs : s.size ≤ 140737488351232) :
    bedrockref01_Parse k s = some ((if (parseS (ofBytes s)).2.2 then bytesOf [] else bytesOf (parseS (ofBytes s)).1), (if (parseS (ofBytes s)).2.2 then (parseS (ofBytes s)).2.1 else -1), ()) := by
  unfold bedrockref01_Parse bedrockref01_Parse.c parseS
  have hlen := ofBytes_length s
  have hfb := fb_le (ofBytes s)
  have hl := loop_from0 (r := bedrockref01_Parse.l0.r k) (fun i => (s, (i : Int), ())) (min (fb (ofBytes s)) 64)
    (if min (fb (ofBytes s)) 64 < s.size then (.inl (bytesOf [], ((min (fb (ofBytes s)) 64 : Nat) : Int), ())) else .inr (s, ())) ?_ ?_ (fuel := k) (by omega)
  · show (bedrockref01_Parse.l0 k k (s, ((0 : Nat) : Int), ())).bind _ = _
    unfold bedrockref01_Parse.l0
    rw [hl, hlen]
    simp only [Option.bind_some]
    by_cases h1 : fb (ofBytes s) < min s.size 64
    · rw [if_pos h1, if_pos (by omega)]
      simp only [if_true]
      rw [show min (fb (ofBytes s)) 64 = fb (ofBytes s) by omega]
    · rw [if_neg h1]
      by_cases h2 : s.size = 64
      · simp only [if_neg (show ¬ min (fb (ofBytes s)) 64 < s.size by omega), if_neg (show ¬ s.size ≠ 64 by omega), Bool.false_eq_true, if_false]
        rw [bif_no (by omega), refunhex_eq hs (by omega)]
        simp only [Option.bind_some]
        have hpb := pairs_in (l := ofBytes s) (by omega)
        have hpl := pairs_length (ofBytes s)
        have hu : unhexS (ofBytes s) = (pairs (ofBytes s), 0, false) := by
          unfold unhexS
          rw [if_neg (by omega), if_neg (by omega)]
        rw [hu]
        dsimp only
        rw [turned_eq (by rw [bytesOf_size]; omega) (by rw [bytesOf_size]; omega), ofBytes_bytesOf hpb]
        rfl
      · rw [if_pos h2]
        simp only [if_true]
        by_cases h3 : min (fb (ofBytes s)) 64 < s.size
        · rw [if_pos h3]
          rw [show min (fb (ofBytes s)) 64 = min s.size 64 by omega]
        · rw [if_neg h3]
          dsimp only
          rw [bif_yes (by omega), show min s.size 64 = s.size by omega]
          rfl
  · intro i hi kn ke
    simp only [bedrockref01_Parse.l0.r]
    have hr := byteAt_range s i
    have hne : val (byteAt s i) ≠ 16 := by rw [byteAt_eq]; exact fb_lt (by omega)
    rw [bif_yes (by omega), cond_false' (beq_false_of_ne (by omega)), bif_yes (by omega), show (i : Int).toNat = i by omega, value_eq k hr]
    simp only [Option.bind_some]
    rw [cond_false' (by simpa using hne), i64_in (by omega)]
    rfl
  · intro kn ke
    simp only [bedrockref01_Parse.l0.r]
    by_cases h3 : min (fb (ofBytes s)) 64 < s.size
    · rw [bif_yes (by omega), if_pos h3]
      by_cases h4 : min (fb (ofBytes s)) 64 = 64
      · rw [h4]
        rfl
      · have hr := byteAt_range s (min (fb (ofBytes s)) 64)
        have e : min (fb (ofBytes s)) 64 = fb (ofBytes s) := by omega
        have h16 : val (byteAt s (min (fb (ofBytes s)) 64)) = 16 := by rw [byteAt_eq, e]; exact fb_at (by omega)
        rw [cond_false' (beq_false_of_ne (by omega)), bif_yes (by omega), show ((min (fb (ofBytes s)) 64 : Nat) : Int).toNat = min (fb (ofBytes s)) 64 by omega, value_eq k hr]
        simp only [Option.bind_some]
        rw [h16]
        rfl
    · rw [bif_no (by omega), if_neg h3]

/-! compared -/
def cmpD (a b : List Int) : Nat → Int
  | 0 => 0
  | i + 1 => if a.getD i 0 < b.getD i 0 then -1 else if a.getD i 0 > b.getD i 0 then 1 else cmpD a b i

theorem cmp_byte (k : Nat) (x y : Int) : cmp_Compare_byte k x y = some ((if x < y then -1 else if x > y then 1 else 0), ()) := by
  unfold cmp_Compare_byte cmp_Compare_byte.c
  rw [show ∀ x, cmp_isNaN_byte k x = some ((x != x), ()) from fun _ => rfl, show ∀ x, cmp_isNaN_byte k x = some ((x != x), ()) from fun _ => rfl]
  simp only [Option.bind_some, bne_self_eq_false, cond_false]
  by_cases h1 : x < y
  · rw [bif_yes h1, if_pos h1]
  · rw [bif_no h1, if_neg h1]
    by_cases h2 : x > y
    · rw [bif_yes h2, if_pos h2]
    · rw [bif_no h2, if_neg h2]

theorem cmp_loop (k : Nat) (a b : List Int) : ∀ (i fuel : Nat), i ≤ 32 → i < fuel → num_Compare.l0 k fuel ((i : Int) - 1, a, b, ()) = some (if cmpD a b i = 0 then .inr () else .inl (cmpD a b i, ()))
  | 0, fuel + 1, _, _ => by
    have e : num_Compare.l0 k (fuel + 1) (((0 : Nat) : Int) - 1, a, b, ()) = num_Compare.l0.r k (((0 : Nat) : Int) - 1, a, b, ()) (loopJ (num_Compare.l0.r k) fuel) some := rfl
    rw [e]
    simp only [num_Compare.l0.r]
    rw [bif_no (by omega)]
    rfl
  | i + 1, fuel + 1, hi, hf => by
    have e : num_Compare.l0 k (fuel + 1) (((i + 1 : Nat) : Int) - 1, a, b, ()) = num_Compare.l0.r k (((i + 1 : Nat) : Int) - 1, a, b, ()) (loopJ (num_Compare.l0.r k) fuel) some := rfl
    rw [e]
    simp only [num_Compare.l0.r]
    rw [bif_yes (by omega), bif_yes (by omega), bif_yes (by omega), show (((i + 1 : Nat) : Int) - 1).toNat = i by omega, cmp_byte]
    simp only [Option.bind_some, cmpD]
    by_cases h1 : a.getD i 0 < b.getD i 0
    · simp only [if_pos h1]; rfl
    · simp only [if_neg h1]
      by_cases h2 : a.getD i 0 > b.getD i 0
      · simp only [if_pos h2]; rfl
      · simp only [if_neg h2]
        rw [bne_self_eq_false, cond_false, i64_in (by omega), show ((i + 1 : Nat) : Int) - 1 - 1 = (i : Int) - 1 by omega]
        exact cmp_loop k a b i fuel (by omega) (by omega)

theorem num_Compare_eq {k : Nat} (hk : 32 < k) (a b : List Int) : num_Compare k a b = some (cmpD a b 32, ()) := by
  unfold num_Compare num_Compare.c
  have := cmp_loop k a b 32 k (by omega) hk
  show (num_Compare.l0 k k (((32 : Nat) : Int) - 1, a, b, ())).bind _ = _
  rw [this]
  simp only [Option.bind_some]
  by_cases h : cmpD a b 32 = 0
  · rw [if_pos h, h]
  · rw [if_neg h]

theorem refcmp_loop (k : Nat) {s t : ByteArray} (hs : s.size = 32) (ht : t.size = 32) : ∀ (i fuel : Nat), i ≤ 32 → i < fuel → bedrockref01_Compare.l0 k fuel (s, t, (i : Int) - 1, ()) = some (if cmpD (ofBytes s) (ofBytes t) i = 0 then .inr () else .inl (cmpD (ofBytes s) (ofBytes t) i, ()))
  | 0, fuel + 1, _, _ => by
    have e : bedrockref01_Compare.l0 k (fuel + 1) (s, t, ((0 : Nat) : Int) - 1, ()) = bedrockref01_Compare.l0.r k (s, t, ((0 : Nat) : Int) - 1, ()) (loopJ (bedrockref01_Compare.l0.r k) fuel) some := rfl
    rw [e]
    simp only [bedrockref01_Compare.l0.r]
    rw [bif_no (by omega)]
    rfl
  | i + 1, fuel + 1, hi, hf => by
    have e : bedrockref01_Compare.l0 k (fuel + 1) (s, t, ((i + 1 : Nat) : Int) - 1, ()) = bedrockref01_Compare.l0.r k (s, t, ((i + 1 : Nat) : Int) - 1, ()) (loopJ (bedrockref01_Compare.l0.r k) fuel) some := rfl
    rw [e]
    simp only [bedrockref01_Compare.l0.r]
    rw [bif_yes (by omega), bif_yes (by omega), bif_yes (by omega), show (((i + 1 : Nat) : Int) - 1).toNat = i by omega, byteAt_eq, byteAt_eq]
    simp only [cmpD]
    by_cases h1 : (ofBytes s).getD i 0 < (ofBytes t).getD i 0
    · simp only [if_pos h1]
      rw [bif_yes h1]; rfl
    · simp only [if_neg h1]
      rw [bif_no h1, bif_yes (by omega), bif_yes (by omega)]
      by_cases h2 : (ofBytes s).getD i 0 > (ofBytes t).getD i 0
      · simp only [if_pos h2]
        rw [bif_yes h2]; rfl
      · simp only [if_neg h2]
        rw [bif_no h2, i64_in (by omega), show ((i + 1 : Nat) : Int) - 1 - 1 = (i : Int) - 1 by omega]
        exact refcmp_loop k hs ht i fuel (by omega) (by omega)

theorem ref_Compare_eq {k : Nat} (hk : 32 < k) {s t : ByteArray} (hs : s.size = 32) (ht : t.size = 32) : bedrockref01_Compare k s t = some (cmpD (ofBytes s) (ofBytes t) 32, ()) := by
  unfold bedrockref01_Compare bedrockref01_Compare.c
  have := refcmp_loop k hs ht 32 k (by omega) hk
  dsimp only
  rw [hs, show IntKind.i64.wrap (((32 : Nat) : Int) - 1) = ((32 : Nat) : Int) - 1 from rfl, this]
  simp only [Option.bind_some]
  by_cases h : cmpD (ofBytes s) (ofBytes t) 32 = 0
  · rw [if_pos h, h]
  · rw [if_neg h]

/-! the law -/
theorem unhexS_at (l : List Int) : 0 ≤ (unhexS l).2.1 ∧ ((unhexS l).2.2 = false → (unhexS l).2.1 = 0) := by
  unfold unhexS
  split
  · exact ⟨by dsimp only; omega, fun h => by cases h⟩
  · split
    · exact ⟨by dsimp only; omega, fun h => by cases h⟩
    · exact ⟨by dsimp only; omega, fun _ => rfl⟩
theorem parseS_at (l : List Int) : 0 ≤ (parseS l).2.1 ∧ ((parseS l).2.2 = false → (parseS l).2.1 = 0) ∧ ((parseS l).2.2 = true → (parseS l).1 = zeros32) ∧ (parseS l).1.length = 32 := by
  unfold parseS
  split
  · exact ⟨by dsimp only; omega, fun h => (by cases h), fun _ => rfl, rfl⟩
  · split
    · exact ⟨by dsimp only; omega, fun h => (by cases h), fun _ => rfl, rfl⟩
    · rename_i h
      refine ⟨by dsimp only; omega, fun _ => rfl, fun h => (by cases h), ?_⟩
      show (pairs l).reverse.length = 32
      rw [List.length_reverse, pairs_length]; omega

theorem numTexts_true {s : ByteArray} (hs : s.size ≤ 70000000000000) {h g : List Int} (hh : h.length = 32) (hg : g.length = 32) (bh : bytesIn h) (bg : bytesIn g) : bedrocklaw01_NumTexts (s.size + 100) s h g = some (true, ()) := by
  unfold bedrocklaw01_NumTexts bedrocklaw01_NumTexts.c
  generalize hk : s.size + 100 = k
  rw [unhex_eq (by omega) (by omega), refunhex_eq (by omega) (by omega), num_Parse_eq (by omega) (by omega), ref_Parse_eq (by omega) (by omega)]
  simp only [Option.bind_some]
  obtain ⟨u1, u2⟩ := unhexS_at (ofBytes s)
  obtain ⟨q1, q2, q3, q4⟩ := parseS_at (ofBytes s)
  have hp0 : ∀ (B : ByteArray) (f : Int) (q : Bool) (a1 a2 : Int) (a3 : ByteArray) (a4 : Int) (a5 : List Int), 0 ≤ f → (q = false → f = 0) →
      bedrocklaw01_NumTexts.p0 k (s, B, f, (if q then 10 else 0), B, (if q then f else -1), a1, a2, a3, a4, h, g, a5, ()) = some (.inr (s, a1, a2, a3, a4, h, g, a5, ())) := by
    intro B f q a1 a2 a3 a4 a5 h1 h2
    unfold bedrocklaw01_NumTexts.p0
    simp only [bedrocklaw01_NumTexts.p0.r]
    rw [awake01' (by omega)]
    simp only [Option.bind_some, Bool.not_true, cond_false, strEq_self]
    cases q with
    | true =>
      simp only [if_true]
      rw [show ((10 : Int) == 0) = false from rfl, show decide (f < 0) = false from decide_eq_false (by omega)]
      simp only [beq_self_eq_true, Bool.not_true, cond_false]
      rw [bif_yes (by omega), show ((10 : Int) != 10) = false from rfl, cond_false, bne_self_eq_false, cond_false]
    | false =>
      simp only [Bool.false_eq_true, if_false, h2 rfl]
      rfl
  have hp1 : ∀ (f : Int) (q : Bool) (v : List Int), 0 ≤ f → (q = false → f = 0) → (q = true → v = zeros32) → v.length = 32 →
      bedrocklaw01_NumTexts.p1 k (s, f, (if q then 10 else 0), (if q then bytesOf [] else bytesOf v), (if q then f else -1), h, g, v, ()) = some (.inr (s, h, g, ())) := by
    intro f q v h1 h2 h3 h4
    unfold bedrocklaw01_NumTexts.p1
    simp only [bedrocklaw01_NumTexts.p1.r]
    cases q with
    | true =>
      simp only [if_true]
      rw [show ((10 : Int) == 0) = false from rfl, show decide (f < 0) = false from decide_eq_false (by omega)]
      simp only [beq_self_eq_true, Bool.not_true, cond_false]
      rw [bif_yes (by omega), show ((10 : Int) != 10) = false from rfl, cond_false, bne_self_eq_false, cond_false, decide_eq_true (show v = List.replicate 32 0 from h3 rfl)]
      rfl
    | false =>
      simp only [Bool.false_eq_true, if_false, h2 rfl]
      rw [bytes32 h4, strEq_self]
      rfl
  rw [hp0 _ _ _ _ _ _ _ _ u1 u2]
  simp only [Option.bind_some]
  rw [hp1 _ _ _ q1 q2 q3 q4]
  simp only [Option.bind_some]
  have brh : bytesIn h.reverse := fun x hx => bh x (List.mem_reverse.1 hx)
  have hrl : h.reverse.length = 32 := by rw [List.length_reverse]; exact hh
  have hxl : (hexL h.reverse).length = 64 := by rw [hexL_length]; omega
  rw [num_Text_eq (by omega) hh bh]
  simp only [Option.bind_some]
  have hps : parseS (ofBytes (bytesOf (hexL h.reverse))) = (h, 0, false) := by
    rw [ofBytes_bytesOf (hexL_in brh)]
    unfold parseS
    rw [hexL_fb brh, hxl, if_neg (by omega), if_neg (by omega), hexL_pairs brh, List.reverse_reverse]
  rw [num_Parse_eq (by omega) (by rw [bytesOf_size]; omega), hps]
  simp only [Option.bind_some]
  rw [num_Hex_eq hs (by omega), ref_Hex_eq (by omega) (by omega)]
  simp only [Option.bind_some, strEq_self, cond_true]
  rw [bytes32 hh, bytes32 hg, turned_eq (by rw [bytesOf_size]; omega) (by rw [bytesOf_size]; omega), ofBytes_bytesOf bh]
  simp only [Option.bind_some]
  rw [ref_Hex_eq (by rw [bytesOf_size]; omega) (by rw [bytesOf_size]; omega), ofBytes_bytesOf brh]
  simp only [Option.bind_some, strEq_self, cond_true, decide_true]
  rw [num_Compare_eq (by omega), ref_Compare_eq (by omega) (by rw [bytesOf_size]; omega) (by rw [bytesOf_size]; omega), ofBytes_bytesOf bh, ofBytes_bytesOf bg]
  simp only [Option.bind_some, beq_self_eq_true]
end Go.Am
