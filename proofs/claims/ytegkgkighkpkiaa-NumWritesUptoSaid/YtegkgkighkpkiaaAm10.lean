/- A part of a proof: a machine of abstract values that tells what functions of the program compute, and the plain facts on them. -/
import Derived.Test.YtegkgkighkpkiaaAm9
import Derived.KernelRfl
import Derived.Test.YtegkgkighkpkiaaAm6
import Derived.Test.YtegkgkighkpkiaaAm5
set_option linter.unusedVariables false
set_option linter.unusedSimpArgs false
set_option linter.unnecessarySimpa false
set_option linter.unusedSectionVars false
namespace Go.Am
open Go Go.Proofs
set_option maxRecDepth 100000
/-! 65 (*bedrock/num.Reader).Fail · with blocks -/
abbrev num_Reader_Fail_2.τ : Type := (Unit)
def num_Reader_Fail_2.c (k : Nat) {ρ : Type} (e : Int) (K : num_Reader_Fail_2.τ → Option ρ) : Option ρ :=
  K ()
def num_Reader_Fail_2 (k : Nat) (e : Int) : Option num_Reader_Fail_2.τ := num_Reader_Fail_2.c k e some
def num_Reader_Fail_2.T : CallT := ⟨[.nilp, .dat (.int .i64)], [], 0⟩
def num_Reader_Fail_2.os : List Out := [⟨.ret, [.auto 0], ⟨[], []⟩⟩]
def num_Reader_Fail_2.sem (k : Nat) : CallSem := callH num_Reader_Fail_2.T num_Reader_Fail_2.os fun x => num_Reader_Fail_2 k x.1
noncomputable def num_Reader_Fail_2.ctx (k : Nat) : Ctx := ⟨Try.prog, gam []⟩
theorem num_Reader_Fail_2.gok (k : Nat) : ∀ f, SemOK Try.prog f ((num_Reader_Fail_2.ctx k).Γ f) := gam_nil
def num_Reader_Fail_2.ann (k : Nat) : Ann := .nil
theorem num_Reader_Fail_2.body (k : Nat) : BodyH (num_Reader_Fail_2.ctx k) Try.f65 (Func.code Try.f65) (num_Reader_Fail_2.ann k) num_Reader_Fail_2.T num_Reader_Fail_2.os (fun x K => num_Reader_Fail_2.c k x.1 K) := by
  intro ρ x K; kernel_rfl
theorem num_Reader_Fail_2.sem_ok (k : Nat) : SemOK Try.prog 65 (num_Reader_Fail_2.sem k) :=
  callH_ok (C := num_Reader_Fail_2.ctx k) (num_Reader_Fail_2.gok k) Try.mix (c := Func.code Try.f65) (ann := num_Reader_Fail_2.ann k) (T := num_Reader_Fail_2.T) (os := num_Reader_Fail_2.os) (fun x K => num_Reader_Fail_2.c k x.1 K) Try.func65 (by kernel_rfl) (by kernel_rfl) AnnOK.nil (num_Reader_Fail_2.body k) (by kernel_rfl) (by kernel_rfl) (by kernel_rfl)

/-! 104 (*bedrock/num.Writer).Bytes · with blocks -/
abbrev num_Writer_Bytes.τ : Type := (Unit)
def num_Writer_Bytes.c (k : Nat) {ρ : Type} (s : ByteArray) (K : num_Writer_Bytes.τ → Option ρ) : Option ρ :=
  K ()
def num_Writer_Bytes (k : Nat) (s : ByteArray) : Option num_Writer_Bytes.τ := num_Writer_Bytes.c k s some
def num_Writer_Bytes.T : CallT := ⟨[.nilp, .dat .str], [], 0⟩
def num_Writer_Bytes.os : List Out := [⟨.ret, [.auto 0], ⟨[], []⟩⟩]
def num_Writer_Bytes.sem (k : Nat) : CallSem := callH num_Writer_Bytes.T num_Writer_Bytes.os fun x => num_Writer_Bytes k x.1
noncomputable def num_Writer_Bytes.ctx (k : Nat) : Ctx := ⟨Try.prog, gam []⟩
theorem num_Writer_Bytes.gok (k : Nat) : ∀ f, SemOK Try.prog f ((num_Writer_Bytes.ctx k).Γ f) := gam_nil
def num_Writer_Bytes.ann (k : Nat) : Ann := .nil
theorem num_Writer_Bytes.body (k : Nat) : BodyH (num_Writer_Bytes.ctx k) Try.f104 (Func.code Try.f104) (num_Writer_Bytes.ann k) num_Writer_Bytes.T num_Writer_Bytes.os (fun x K => num_Writer_Bytes.c k x.1 K) := by
  intro ρ x K; kernel_rfl
theorem num_Writer_Bytes.sem_ok (k : Nat) : SemOK Try.prog 104 (num_Writer_Bytes.sem k) :=
  callH_ok (C := num_Writer_Bytes.ctx k) (num_Writer_Bytes.gok k) Try.mix (c := Func.code Try.f104) (ann := num_Writer_Bytes.ann k) (T := num_Writer_Bytes.T) (os := num_Writer_Bytes.os) (fun x K => num_Writer_Bytes.c k x.1 K) Try.func104 (by kernel_rfl) (by kernel_rfl) AnnOK.nil (num_Writer_Bytes.body k) (by kernel_rfl) (by kernel_rfl) (by kernel_rfl)

/-! 98 (*bedrock/num.Writer).Byte · with blocks -/
abbrev num_Writer_Byte.τ : Type := (Unit)
def num_Writer_Byte.c (k : Nat) {ρ : Type} (b : Int) (K : num_Writer_Byte.τ → Option ρ) : Option ρ :=
  (num_lay k (IntKind.wrap IntKind.u64 b) (1 : Int)).bind fun t0 => (num_Writer_Bytes k t0.1).bind fun t1 => K ()
def num_Writer_Byte (k : Nat) (b : Int) : Option num_Writer_Byte.τ := num_Writer_Byte.c k b some
def num_Writer_Byte.T : CallT := ⟨[.nilp, .dat (.int .u8)], [], 0⟩
def num_Writer_Byte.os : List Out := [⟨.ret, [.auto 0], ⟨[], []⟩⟩]
def num_Writer_Byte.sem (k : Nat) : CallSem := callH num_Writer_Byte.T num_Writer_Byte.os fun x => num_Writer_Byte k x.1
noncomputable def num_Writer_Byte.ctx (k : Nat) : Ctx := ⟨Try.prog, gam [(81, (num_lay.sem k)), (104, (num_Writer_Bytes.sem k))]⟩
theorem num_Writer_Byte.gok (k : Nat) : ∀ f, SemOK Try.prog f ((num_Writer_Byte.ctx k).Γ f) := (gam_cons (num_lay.sem_ok k) (gam_cons (num_Writer_Bytes.sem_ok k) gam_nil))
def num_Writer_Byte.ann (k : Nat) : Ann := .nil
theorem num_Writer_Byte.body (k : Nat) : BodyH (num_Writer_Byte.ctx k) Try.f98 (Func.code Try.f98) (num_Writer_Byte.ann k) num_Writer_Byte.T num_Writer_Byte.os (fun x K => num_Writer_Byte.c k x.1 K) := by
  intro ρ x K; kernel_rfl
theorem num_Writer_Byte.sem_ok (k : Nat) : SemOK Try.prog 98 (num_Writer_Byte.sem k) :=
  callH_ok (C := num_Writer_Byte.ctx k) (num_Writer_Byte.gok k) Try.mix (c := Func.code Try.f98) (ann := num_Writer_Byte.ann k) (T := num_Writer_Byte.T) (os := num_Writer_Byte.os) (fun x K => num_Writer_Byte.c k x.1 K) Try.func98 (by kernel_rfl) (by kernel_rfl) AnnOK.nil (num_Writer_Byte.body k) (by kernel_rfl) (by kernel_rfl) (by kernel_rfl)

/-! 99 (*bedrock/num.Writer).U16 · with blocks -/
abbrev num_Writer_U16.τ : Type := (Unit)
def num_Writer_U16.c (k : Nat) {ρ : Type} (n : Int) (K : num_Writer_U16.τ → Option ρ) : Option ρ :=
  (num_lay k (IntKind.wrap IntKind.u64 n) (2 : Int)).bind fun t0 => (num_Writer_Bytes k t0.1).bind fun t1 => K ()
def num_Writer_U16 (k : Nat) (n : Int) : Option num_Writer_U16.τ := num_Writer_U16.c k n some
def num_Writer_U16.T : CallT := ⟨[.nilp, .dat (.int .u16)], [], 0⟩
def num_Writer_U16.os : List Out := [⟨.ret, [.auto 0], ⟨[], []⟩⟩]
def num_Writer_U16.sem (k : Nat) : CallSem := callH num_Writer_U16.T num_Writer_U16.os fun x => num_Writer_U16 k x.1
noncomputable def num_Writer_U16.ctx (k : Nat) : Ctx := ⟨Try.prog, gam [(81, (num_lay.sem k)), (104, (num_Writer_Bytes.sem k))]⟩
theorem num_Writer_U16.gok (k : Nat) : ∀ f, SemOK Try.prog f ((num_Writer_U16.ctx k).Γ f) := (gam_cons (num_lay.sem_ok k) (gam_cons (num_Writer_Bytes.sem_ok k) gam_nil))
def num_Writer_U16.ann (k : Nat) : Ann := .nil
theorem num_Writer_U16.body (k : Nat) : BodyH (num_Writer_U16.ctx k) Try.f99 (Func.code Try.f99) (num_Writer_U16.ann k) num_Writer_U16.T num_Writer_U16.os (fun x K => num_Writer_U16.c k x.1 K) := by
  intro ρ x K; kernel_rfl
theorem num_Writer_U16.sem_ok (k : Nat) : SemOK Try.prog 99 (num_Writer_U16.sem k) :=
  callH_ok (C := num_Writer_U16.ctx k) (num_Writer_U16.gok k) Try.mix (c := Func.code Try.f99) (ann := num_Writer_U16.ann k) (T := num_Writer_U16.T) (os := num_Writer_U16.os) (fun x K => num_Writer_U16.c k x.1 K) Try.func99 (by kernel_rfl) (by kernel_rfl) AnnOK.nil (num_Writer_U16.body k) (by kernel_rfl) (by kernel_rfl) (by kernel_rfl)

/-! 100 (*bedrock/num.Writer).U32 · with blocks -/
abbrev num_Writer_U32.τ : Type := (Unit)
def num_Writer_U32.c (k : Nat) {ρ : Type} (n : Int) (K : num_Writer_U32.τ → Option ρ) : Option ρ :=
  (num_lay k (IntKind.wrap IntKind.u64 n) (4 : Int)).bind fun t0 => (num_Writer_Bytes k t0.1).bind fun t1 => K ()
def num_Writer_U32 (k : Nat) (n : Int) : Option num_Writer_U32.τ := num_Writer_U32.c k n some
def num_Writer_U32.T : CallT := ⟨[.nilp, .dat (.int .u32)], [], 0⟩
def num_Writer_U32.os : List Out := [⟨.ret, [.auto 0], ⟨[], []⟩⟩]
def num_Writer_U32.sem (k : Nat) : CallSem := callH num_Writer_U32.T num_Writer_U32.os fun x => num_Writer_U32 k x.1
noncomputable def num_Writer_U32.ctx (k : Nat) : Ctx := ⟨Try.prog, gam [(81, (num_lay.sem k)), (104, (num_Writer_Bytes.sem k))]⟩
theorem num_Writer_U32.gok (k : Nat) : ∀ f, SemOK Try.prog f ((num_Writer_U32.ctx k).Γ f) := (gam_cons (num_lay.sem_ok k) (gam_cons (num_Writer_Bytes.sem_ok k) gam_nil))
def num_Writer_U32.ann (k : Nat) : Ann := .nil
theorem num_Writer_U32.body (k : Nat) : BodyH (num_Writer_U32.ctx k) Try.f100 (Func.code Try.f100) (num_Writer_U32.ann k) num_Writer_U32.T num_Writer_U32.os (fun x K => num_Writer_U32.c k x.1 K) := by
  intro ρ x K; kernel_rfl
theorem num_Writer_U32.sem_ok (k : Nat) : SemOK Try.prog 100 (num_Writer_U32.sem k) :=
  callH_ok (C := num_Writer_U32.ctx k) (num_Writer_U32.gok k) Try.mix (c := Func.code Try.f100) (ann := num_Writer_U32.ann k) (T := num_Writer_U32.T) (os := num_Writer_U32.os) (fun x K => num_Writer_U32.c k x.1 K) Try.func100 (by kernel_rfl) (by kernel_rfl) AnnOK.nil (num_Writer_U32.body k) (by kernel_rfl) (by kernel_rfl) (by kernel_rfl)

/-! 101 (*bedrock/num.Writer).U64 · with blocks -/
abbrev num_Writer_U64.τ : Type := (Unit)
def num_Writer_U64.c (k : Nat) {ρ : Type} (n : Int) (K : num_Writer_U64.τ → Option ρ) : Option ρ :=
  (num_lay k n (8 : Int)).bind fun t0 => (num_Writer_Bytes k t0.1).bind fun t1 => K ()
def num_Writer_U64 (k : Nat) (n : Int) : Option num_Writer_U64.τ := num_Writer_U64.c k n some
def num_Writer_U64.T : CallT := ⟨[.nilp, .dat (.int .u64)], [], 0⟩
def num_Writer_U64.os : List Out := [⟨.ret, [.auto 0], ⟨[], []⟩⟩]
def num_Writer_U64.sem (k : Nat) : CallSem := callH num_Writer_U64.T num_Writer_U64.os fun x => num_Writer_U64 k x.1
noncomputable def num_Writer_U64.ctx (k : Nat) : Ctx := ⟨Try.prog, gam [(81, (num_lay.sem k)), (104, (num_Writer_Bytes.sem k))]⟩
theorem num_Writer_U64.gok (k : Nat) : ∀ f, SemOK Try.prog f ((num_Writer_U64.ctx k).Γ f) := (gam_cons (num_lay.sem_ok k) (gam_cons (num_Writer_Bytes.sem_ok k) gam_nil))
def num_Writer_U64.ann (k : Nat) : Ann := .nil
theorem num_Writer_U64.body (k : Nat) : BodyH (num_Writer_U64.ctx k) Try.f101 (Func.code Try.f101) (num_Writer_U64.ann k) num_Writer_U64.T num_Writer_U64.os (fun x K => num_Writer_U64.c k x.1 K) := by
  intro ρ x K; kernel_rfl
theorem num_Writer_U64.sem_ok (k : Nat) : SemOK Try.prog 101 (num_Writer_U64.sem k) :=
  callH_ok (C := num_Writer_U64.ctx k) (num_Writer_U64.gok k) Try.mix (c := Func.code Try.f101) (ann := num_Writer_U64.ann k) (T := num_Writer_U64.T) (os := num_Writer_U64.os) (fun x K => num_Writer_U64.c k x.1 K) Try.func101 (by kernel_rfl) (by kernel_rfl) AnnOK.nil (num_Writer_U64.body k) (by kernel_rfl) (by kernel_rfl) (by kernel_rfl)

/-! 102 (*bedrock/num.Writer).Big16 · with blocks -/
abbrev num_Writer_Big16.τ : Type := (Unit)
def num_Writer_Big16.c (k : Nat) {ρ : Type} (n : Int) (K : num_Writer_Big16.τ → Option ρ) : Option ρ :=
  let v0 : Int := (shlOp IntKind.u16 n (8 : Int))
  let v1 : Int := (shrOp IntKind.u16 n (8 : Int))
  (num_Writer_U16 k (bitsOp BinOp.or IntKind.u16 v0 v1)).bind fun t2 => K ()
def num_Writer_Big16 (k : Nat) (n : Int) : Option num_Writer_Big16.τ := num_Writer_Big16.c k n some
def num_Writer_Big16.T : CallT := ⟨[.nilp, .dat (.int .u16)], [], 0⟩
def num_Writer_Big16.os : List Out := [⟨.ret, [.auto 0], ⟨[], []⟩⟩]
def num_Writer_Big16.sem (k : Nat) : CallSem := callH num_Writer_Big16.T num_Writer_Big16.os fun x => num_Writer_Big16 k x.1
noncomputable def num_Writer_Big16.ctx (k : Nat) : Ctx := ⟨Try.prog, gam [(99, (num_Writer_U16.sem k))]⟩
theorem num_Writer_Big16.gok (k : Nat) : ∀ f, SemOK Try.prog f ((num_Writer_Big16.ctx k).Γ f) := (gam_cons (num_Writer_U16.sem_ok k) gam_nil)
def num_Writer_Big16.ann (k : Nat) : Ann := .nil
theorem num_Writer_Big16.body (k : Nat) : BodyH (num_Writer_Big16.ctx k) Try.f102 (Func.code Try.f102) (num_Writer_Big16.ann k) num_Writer_Big16.T num_Writer_Big16.os (fun x K => num_Writer_Big16.c k x.1 K) := by
  intro ρ x K; kernel_rfl
theorem num_Writer_Big16.sem_ok (k : Nat) : SemOK Try.prog 102 (num_Writer_Big16.sem k) :=
  callH_ok (C := num_Writer_Big16.ctx k) (num_Writer_Big16.gok k) Try.mix (c := Func.code Try.f102) (ann := num_Writer_Big16.ann k) (T := num_Writer_Big16.T) (os := num_Writer_Big16.os) (fun x K => num_Writer_Big16.c k x.1 K) Try.func102 (by kernel_rfl) (by kernel_rfl) AnnOK.nil (num_Writer_Big16.body k) (by kernel_rfl) (by kernel_rfl) (by kernel_rfl)

/-! 103 (*bedrock/num.Writer).Count · with blocks -/
abbrev num_Writer_Count.τ : Type := (Unit)
def num_Writer_Count.c (k : Nat) {ρ : Type} (n : Int) (K : num_Writer_Count.τ → Option ρ) : Option ρ :=
  (num_Count k n).bind fun t0 => (num_Writer_Bytes k t0.1).bind fun t1 => K ()
def num_Writer_Count (k : Nat) (n : Int) : Option num_Writer_Count.τ := num_Writer_Count.c k n some
def num_Writer_Count.T : CallT := ⟨[.nilp, .dat (.int .u64)], [], 0⟩
def num_Writer_Count.os : List Out := [⟨.ret, [.auto 0], ⟨[], []⟩⟩]
def num_Writer_Count.sem (k : Nat) : CallSem := callH num_Writer_Count.T num_Writer_Count.os fun x => num_Writer_Count k x.1
noncomputable def num_Writer_Count.ctx (k : Nat) : Ctx := ⟨Try.prog, gam [(19, (num_Count.sem k)), (104, (num_Writer_Bytes.sem k))]⟩
theorem num_Writer_Count.gok (k : Nat) : ∀ f, SemOK Try.prog f ((num_Writer_Count.ctx k).Γ f) := (gam_cons (num_Count.sem_ok k) (gam_cons (num_Writer_Bytes.sem_ok k) gam_nil))
def num_Writer_Count.ann (k : Nat) : Ann := .nil
theorem num_Writer_Count.body (k : Nat) : BodyH (num_Writer_Count.ctx k) Try.f103 (Func.code Try.f103) (num_Writer_Count.ann k) num_Writer_Count.T num_Writer_Count.os (fun x K => num_Writer_Count.c k x.1 K) := by
  intro ρ x K; kernel_rfl
theorem num_Writer_Count.sem_ok (k : Nat) : SemOK Try.prog 103 (num_Writer_Count.sem k) :=
  callH_ok (C := num_Writer_Count.ctx k) (num_Writer_Count.gok k) Try.mix (c := Func.code Try.f103) (ann := num_Writer_Count.ann k) (T := num_Writer_Count.T) (os := num_Writer_Count.os) (fun x K => num_Writer_Count.c k x.1 K) Try.func103 (by kernel_rfl) (by kernel_rfl) AnnOK.nil (num_Writer_Count.body k) (by kernel_rfl) (by kernel_rfl) (by kernel_rfl)

/-! 105 (*bedrock/num.Writer).String · with blocks -/
abbrev num_Writer_String.τ : Type := (Unit)
def num_Writer_String.c (k : Nat) {ρ : Type} (s : ByteArray) (K : num_Writer_String.τ → Option ρ) : Option ρ :=
  (num_Writer_Count k (IntKind.wrap IntKind.u64 (((ByteArray.size s) : Nat) : Int))).bind fun t0 => (num_Writer_Bytes k s).bind fun t1 => K ()
def num_Writer_String (k : Nat) (s : ByteArray) : Option num_Writer_String.τ := num_Writer_String.c k s some
def num_Writer_String.T : CallT := ⟨[.nilp, .dat .str], [], 0⟩
def num_Writer_String.os : List Out := [⟨.ret, [.auto 0], ⟨[], []⟩⟩]
def num_Writer_String.sem (k : Nat) : CallSem := callH num_Writer_String.T num_Writer_String.os fun x => num_Writer_String k x.1
noncomputable def num_Writer_String.ctx (k : Nat) : Ctx := ⟨Try.prog, gam [(103, (num_Writer_Count.sem k)), (104, (num_Writer_Bytes.sem k))]⟩
theorem num_Writer_String.gok (k : Nat) : ∀ f, SemOK Try.prog f ((num_Writer_String.ctx k).Γ f) := (gam_cons (num_Writer_Count.sem_ok k) (gam_cons (num_Writer_Bytes.sem_ok k) gam_nil))
def num_Writer_String.ann (k : Nat) : Ann := .nil
theorem num_Writer_String.body (k : Nat) : BodyH (num_Writer_String.ctx k) Try.f105 (Func.code Try.f105) (num_Writer_String.ann k) num_Writer_String.T num_Writer_String.os (fun x K => num_Writer_String.c k x.1 K) := by
  intro ρ x K; kernel_rfl
theorem num_Writer_String.sem_ok (k : Nat) : SemOK Try.prog 105 (num_Writer_String.sem k) :=
  callH_ok (C := num_Writer_String.ctx k) (num_Writer_String.gok k) Try.mix (c := Func.code Try.f105) (ann := num_Writer_String.ann k) (T := num_Writer_String.T) (os := num_Writer_String.os) (fun x K => num_Writer_String.c k x.1 K) Try.func105 (by kernel_rfl) (by kernel_rfl) AnnOK.nil (num_Writer_String.body k) (by kernel_rfl) (by kernel_rfl) (by kernel_rfl)

/-! 106 (*bedrock/num.Writer).Hash · with blocks -/
abbrev num_Writer_Hash.τ : Type := (Unit)
def num_Writer_Hash.c (k : Nat) {ρ : Type} (h : (List Int)) (K : num_Writer_Hash.τ → Option ρ) : Option ρ :=
  let v0 : ByteArray := (bytesOf (List.take 32 (List.drop 0 h)))
  (num_Writer_Bytes k v0).bind fun t1 => K ()
def num_Writer_Hash (k : Nat) (h : (List Int)) : Option num_Writer_Hash.τ := num_Writer_Hash.c k h some
def num_Writer_Hash.T : CallT := ⟨[.nilp, .dat (.arr 32 (.int .u8))], [], 0⟩
def num_Writer_Hash.os : List Out := [⟨.ret, [.auto 0], ⟨[], []⟩⟩]
def num_Writer_Hash.sem (k : Nat) : CallSem := callH num_Writer_Hash.T num_Writer_Hash.os fun x => num_Writer_Hash k x.1
noncomputable def num_Writer_Hash.ctx (k : Nat) : Ctx := ⟨Try.prog, gam [(104, (num_Writer_Bytes.sem k))]⟩
theorem num_Writer_Hash.gok (k : Nat) : ∀ f, SemOK Try.prog f ((num_Writer_Hash.ctx k).Γ f) := (gam_cons (num_Writer_Bytes.sem_ok k) gam_nil)
def num_Writer_Hash.ann (k : Nat) : Ann := .nil
theorem num_Writer_Hash.body (k : Nat) : BodyH (num_Writer_Hash.ctx k) Try.f106 (Func.code Try.f106) (num_Writer_Hash.ann k) num_Writer_Hash.T num_Writer_Hash.os (fun x K => num_Writer_Hash.c k x.1 K) := by
  intro ρ x K; kernel_rfl
theorem num_Writer_Hash.sem_ok (k : Nat) : SemOK Try.prog 106 (num_Writer_Hash.sem k) :=
  callH_ok (C := num_Writer_Hash.ctx k) (num_Writer_Hash.gok k) Try.mix (c := Func.code Try.f106) (ann := num_Writer_Hash.ann k) (T := num_Writer_Hash.T) (os := num_Writer_Hash.os) (fun x K => num_Writer_Hash.c k x.1 K) Try.func106 (by kernel_rfl) (by kernel_rfl) AnnOK.nil (num_Writer_Hash.body k) (by kernel_rfl) (by kernel_rfl) (by kernel_rfl)

/-! 107 (*bedrock/num.Writer).Bool · with blocks -/
abbrev num_Writer_Bool.τ : Type := (Unit)
def num_Writer_Bool.c (k : Nat) {ρ : Type} (b : Bool) (K : num_Writer_Bool.τ → Option ρ) : Option ρ :=
  bif b then ((num_Writer_Byte k (1 : Int)).bind fun t0 => K ()) else ((num_Writer_Byte k (0 : Int)).bind fun t1 => K ())
def num_Writer_Bool (k : Nat) (b : Bool) : Option num_Writer_Bool.τ := num_Writer_Bool.c k b some
def num_Writer_Bool.T : CallT := ⟨[.nilp, .dat .bool], [], 0⟩
def num_Writer_Bool.os : List Out := [⟨.ret, [.auto 0], ⟨[], []⟩⟩]
def num_Writer_Bool.sem (k : Nat) : CallSem := callH num_Writer_Bool.T num_Writer_Bool.os fun x => num_Writer_Bool k x.1
noncomputable def num_Writer_Bool.ctx (k : Nat) : Ctx := ⟨Try.prog, gam [(98, (num_Writer_Byte.sem k))]⟩
theorem num_Writer_Bool.gok (k : Nat) : ∀ f, SemOK Try.prog f ((num_Writer_Bool.ctx k).Γ f) := (gam_cons (num_Writer_Byte.sem_ok k) gam_nil)
def num_Writer_Bool.ann (k : Nat) : Ann := .nil
theorem num_Writer_Bool.body (k : Nat) : BodyH (num_Writer_Bool.ctx k) Try.f107 (Func.code Try.f107) (num_Writer_Bool.ann k) num_Writer_Bool.T num_Writer_Bool.os (fun x K => num_Writer_Bool.c k x.1 K) := by
  intro ρ x K; kernel_rfl
theorem num_Writer_Bool.sem_ok (k : Nat) : SemOK Try.prog 107 (num_Writer_Bool.sem k) :=
  callH_ok (C := num_Writer_Bool.ctx k) (num_Writer_Bool.gok k) Try.mix (c := Func.code Try.f107) (ann := num_Writer_Bool.ann k) (T := num_Writer_Bool.T) (os := num_Writer_Bool.os) (fun x K => num_Writer_Bool.c k x.1 K) Try.func107 (by kernel_rfl) (by kernel_rfl) AnnOK.nil (num_Writer_Bool.body k) (by kernel_rfl) (by kernel_rfl) (by kernel_rfl)

/-! 61 bedrock/bedrocklaw01.put · with blocks -/
abbrev bedrocklaw01_put.τ : Type := (ByteArray × Unit)
def bedrocklaw01_put.c (k : Nat) {ρ : Type} (a : (Int × (Int × (Int × (ByteArray × Unit))))) (K : bedrocklaw01_put.τ → Option ρ) : Option ρ :=
  let v0 : Int := a.2.1
  let v1 : List Int := (List.set (List.set (List.replicate 32 (0 : Int)) 0 (IntKind.wrap IntKind.u8 v0)) 1 (7 : Int))
  let v2 : Int := a.1
  bif (v2 == (0 : Int)) then (let v3 : Int := a.2.2.1
  (num_Writer_Byte k (IntKind.wrap IntKind.u8 v3)).bind fun t4 => let v5 : Int := a.2.2.1
  (bedrockref01_Low k v5 (1 : Int)).bind fun t6 => K (t6.1, ())) else (bif (v2 == (1 : Int)) then (let v7 : Int := a.2.2.1
  (num_Writer_U16 k (IntKind.wrap IntKind.u16 v7)).bind fun t8 => let v9 : Int := a.2.2.1
  (bedrockref01_Low k v9 (2 : Int)).bind fun t10 => K (t10.1, ())) else (bif (v2 == (2 : Int)) then (let v11 : Int := a.2.2.1
  (num_Writer_U32 k (IntKind.wrap IntKind.u32 v11)).bind fun t12 => let v13 : Int := a.2.2.1
  (bedrockref01_Low k v13 (4 : Int)).bind fun t14 => K (t14.1, ())) else (bif (v2 == (3 : Int)) then (let v15 : Int := a.2.2.1
  (num_Writer_U64 k v15).bind fun t16 => let v17 : Int := a.2.2.1
  (bedrockref01_Low k v17 (8 : Int)).bind fun t18 => K (t18.1, ())) else (bif (v2 == (4 : Int)) then (let v19 : Int := a.2.2.1
  (num_Writer_Big16 k (IntKind.wrap IntKind.u16 v19)).bind fun t20 => let v21 : Int := a.2.2.1
  (bedrockref01_Low k v21 (2 : Int)).bind fun t22 => (bedrockref01_Turned k t22.1).bind fun t23 => K (t23.1, ())) else (bif (v2 == (5 : Int)) then (let v24 : Int := a.2.2.1
  (num_Writer_Count k v24).bind fun t25 => let v26 : Int := a.2.2.1
  (bedrockref01_Count k v26).bind fun t27 => K (t27.1, ())) else (bif (v2 == (6 : Int)) then (let v28 : ByteArray := a.2.2.2.1
  (num_Writer_Bytes k v28).bind fun t29 => let v30 : ByteArray := a.2.2.2.1
  K (v30, ())) else (bif (v2 == (7 : Int)) then (let v31 : ByteArray := a.2.2.2.1
  (num_Writer_String k v31).bind fun t32 => let v33 : ByteArray := a.2.2.2.1
  (bedrockref01_Count k (IntKind.wrap IntKind.u64 (((ByteArray.size v33) : Nat) : Int))).bind fun t34 => let v35 : ByteArray := a.2.2.2.1
  bif (Nat.ble ((ByteArray.size t34.1) + (ByteArray.size v35)) 9223372036854775807) then (let v36 : ByteArray := (t34.1 ++ v35)
  K (v36, ())) else (none)) else (bif (v2 == (8 : Int)) then ((num_Writer_Hash k v1).bind fun t37 => let v38 : ByteArray := (bytesOf (List.take 32 (List.drop 0 v1)))
  K (v38, ())) else (let v39 : Int := a.2.2.1
  (num_Writer_Bool k ((Int.tmod v39 (2 : Int)) == (1 : Int))).bind fun t40 => let v41 : Int := a.2.2.1
  (bedrockref01_Low k (Int.tmod v41 (2 : Int)) (1 : Int)).bind fun t42 => K (t42.1, ()))))))))))
def bedrocklaw01_put (k : Nat) (a : (Int × (Int × (Int × (ByteArray × Unit))))) : Option bedrocklaw01_put.τ := bedrocklaw01_put.c k a some
def bedrocklaw01_put.T : CallT := ⟨[.nilp, .dat (.pair (.int .i64) (.pair (.int .i64) (.pair (.int .u64) (.pair .str .unit))))], [], 0⟩
def bedrocklaw01_put.os : List Out := [⟨.ret, [.freeze (.slot 0), .auto 0], ⟨[.dat .str], []⟩⟩]
def bedrocklaw01_put.sem (k : Nat) : CallSem := callH bedrocklaw01_put.T bedrocklaw01_put.os fun x => bedrocklaw01_put k x.1
noncomputable def bedrocklaw01_put.ctx (k : Nat) : Ctx := ⟨Try.prog, gam [(98, (num_Writer_Byte.sem k)), (80, (bedrockref01_Low.sem k)), (99, (num_Writer_U16.sem k)), (100, (num_Writer_U32.sem k)), (101, (num_Writer_U64.sem k)), (102, (num_Writer_Big16.sem k)), (45, (bedrockref01_Turned.sem k)), (103, (num_Writer_Count.sem k)), (17, (bedrockref01_Count.sem k)), (104, (num_Writer_Bytes.sem k)), (105, (num_Writer_String.sem k)), (106, (num_Writer_Hash.sem k)), (107, (num_Writer_Bool.sem k))]⟩
theorem bedrocklaw01_put.gok (k : Nat) : ∀ f, SemOK Try.prog f ((bedrocklaw01_put.ctx k).Γ f) := (gam_cons (num_Writer_Byte.sem_ok k) (gam_cons (bedrockref01_Low.sem_ok k) (gam_cons (num_Writer_U16.sem_ok k) (gam_cons (num_Writer_U32.sem_ok k) (gam_cons (num_Writer_U64.sem_ok k) (gam_cons (num_Writer_Big16.sem_ok k) (gam_cons (bedrockref01_Turned.sem_ok k) (gam_cons (num_Writer_Count.sem_ok k) (gam_cons (bedrockref01_Count.sem_ok k) (gam_cons (num_Writer_Bytes.sem_ok k) (gam_cons (num_Writer_String.sem_ok k) (gam_cons (num_Writer_Hash.sem_ok k) (gam_cons (num_Writer_Bool.sem_ok k) gam_nil)))))))))))))
def bedrocklaw01_put.ann (k : Nat) : Ann := .nil
theorem bedrocklaw01_put.body (k : Nat) : BodyH (bedrocklaw01_put.ctx k) Try.f61 (Func.code Try.f61) (bedrocklaw01_put.ann k) bedrocklaw01_put.T bedrocklaw01_put.os (fun x K => bedrocklaw01_put.c k x.1 K) := by
  intro ρ x K; kernel_rfl
theorem bedrocklaw01_put.sem_ok (k : Nat) : SemOK Try.prog 61 (bedrocklaw01_put.sem k) :=
  callH_ok (C := bedrocklaw01_put.ctx k) (bedrocklaw01_put.gok k) Try.mix (c := Func.code Try.f61) (ann := bedrocklaw01_put.ann k) (T := bedrocklaw01_put.T) (os := bedrocklaw01_put.os) (fun x K => bedrocklaw01_put.c k x.1 K) Try.func61 (by kernel_rfl) (by kernel_rfl) AnnOK.nil (bedrocklaw01_put.body k) (by kernel_rfl) (by kernel_rfl) (by kernel_rfl)

/-! 50 (*bedrock/num.Reader).Err · with blocks -/
abbrev num_Reader_Err_2.τ : Type := (Int × Unit)
def num_Reader_Err_2.c (k : Nat) {ρ : Type}  (K : num_Reader_Err_2.τ → Option ρ) : Option ρ :=
  K ((1 : Int), ())
def num_Reader_Err_2 (k : Nat)  : Option num_Reader_Err_2.τ := num_Reader_Err_2.c k  some
def num_Reader_Err_2.T : CallT := ⟨[.nilp], [], 0⟩
def num_Reader_Err_2.os : List Out := [⟨.ret, [.freeze (.slot 0), .auto 0], ⟨[.dat (.int .i64)], []⟩⟩]
def num_Reader_Err_2.sem (k : Nat) : CallSem := callH num_Reader_Err_2.T num_Reader_Err_2.os fun x => num_Reader_Err_2 k 
noncomputable def num_Reader_Err_2.ctx (k : Nat) : Ctx := ⟨Try.prog, gam []⟩
theorem num_Reader_Err_2.gok (k : Nat) : ∀ f, SemOK Try.prog f ((num_Reader_Err_2.ctx k).Γ f) := gam_nil
def num_Reader_Err_2.ann (k : Nat) : Ann := .nil
theorem num_Reader_Err_2.body (k : Nat) : BodyH (num_Reader_Err_2.ctx k) Try.f50 (Func.code Try.f50) (num_Reader_Err_2.ann k) num_Reader_Err_2.T num_Reader_Err_2.os (fun x K => num_Reader_Err_2.c k  K) := by
  intro ρ x K; kernel_rfl
theorem num_Reader_Err_2.sem_ok (k : Nat) : SemOK Try.prog 50 (num_Reader_Err_2.sem k) :=
  callH_ok (C := num_Reader_Err_2.ctx k) (num_Reader_Err_2.gok k) Try.mix (c := Func.code Try.f50) (ann := num_Reader_Err_2.ann k) (T := num_Reader_Err_2.T) (os := num_Reader_Err_2.os) (fun x K => num_Reader_Err_2.c k  K) Try.func50 (by kernel_rfl) (by kernel_rfl) AnnOK.nil (num_Reader_Err_2.body k) (by kernel_rfl) (by kernel_rfl) (by kernel_rfl)

/-! 52 (*bedrock/num.Reader).Left · with blocks -/
abbrev num_Reader_Left_2.τ : Type := (Int × Unit)
def num_Reader_Left_2.c (k : Nat) {ρ : Type}  (K : num_Reader_Left_2.τ → Option ρ) : Option ρ :=
  K ((0 : Int), ())
def num_Reader_Left_2 (k : Nat)  : Option num_Reader_Left_2.τ := num_Reader_Left_2.c k  some
def num_Reader_Left_2.T : CallT := ⟨[.nilp], [], 0⟩
def num_Reader_Left_2.os : List Out := [⟨.ret, [.freeze (.slot 0), .auto 0], ⟨[.dat (.int .i64)], []⟩⟩]
def num_Reader_Left_2.sem (k : Nat) : CallSem := callH num_Reader_Left_2.T num_Reader_Left_2.os fun x => num_Reader_Left_2 k 
noncomputable def num_Reader_Left_2.ctx (k : Nat) : Ctx := ⟨Try.prog, gam []⟩
theorem num_Reader_Left_2.gok (k : Nat) : ∀ f, SemOK Try.prog f ((num_Reader_Left_2.ctx k).Γ f) := gam_nil
def num_Reader_Left_2.ann (k : Nat) : Ann := .nil
theorem num_Reader_Left_2.body (k : Nat) : BodyH (num_Reader_Left_2.ctx k) Try.f52 (Func.code Try.f52) (num_Reader_Left_2.ann k) num_Reader_Left_2.T num_Reader_Left_2.os (fun x K => num_Reader_Left_2.c k  K) := by
  intro ρ x K; kernel_rfl
theorem num_Reader_Left_2.sem_ok (k : Nat) : SemOK Try.prog 52 (num_Reader_Left_2.sem k) :=
  callH_ok (C := num_Reader_Left_2.ctx k) (num_Reader_Left_2.gok k) Try.mix (c := Func.code Try.f52) (ann := num_Reader_Left_2.ann k) (T := num_Reader_Left_2.T) (os := num_Reader_Left_2.os) (fun x K => num_Reader_Left_2.c k  K) Try.func52 (by kernel_rfl) (by kernel_rfl) AnnOK.nil (num_Reader_Left_2.body k) (by kernel_rfl) (by kernel_rfl) (by kernel_rfl)

/-! 72 (*bedrock/num.Reader).Bytes · with blocks -/
abbrev num_Reader_Bytes_2.τ : Type := (ByteArray × Unit)
def num_Reader_Bytes_2.c (k : Nat) {ρ : Type} (n : Int) (K : num_Reader_Bytes_2.τ → Option ρ) : Option ρ :=
  (num_Reader_Err_2 k ).bind fun t0 => bif (t0.1 != (0 : Int)) then (K ((⟨(List.toArray [])⟩ : ByteArray), ())) else (bif (decide (n < (0 : Int))) then (none) else ((num_Reader_Left_2 k ).bind fun t1 => bif (decide (n > t1.1)) then (none) else (none)))
def num_Reader_Bytes_2 (k : Nat) (n : Int) : Option num_Reader_Bytes_2.τ := num_Reader_Bytes_2.c k n some
def num_Reader_Bytes_2.T : CallT := ⟨[.nilp, .dat (.int .i64)], [], 0⟩
def num_Reader_Bytes_2.os : List Out := [⟨.ret, [.freeze (.slot 0), .auto 0], ⟨[.dat .str], []⟩⟩]
def num_Reader_Bytes_2.sem (k : Nat) : CallSem := callH num_Reader_Bytes_2.T num_Reader_Bytes_2.os fun x => num_Reader_Bytes_2 k x.1
noncomputable def num_Reader_Bytes_2.ctx (k : Nat) : Ctx := ⟨Try.prog, gam [(50, (num_Reader_Err_2.sem k)), (52, (num_Reader_Left_2.sem k))]⟩
theorem num_Reader_Bytes_2.gok (k : Nat) : ∀ f, SemOK Try.prog f ((num_Reader_Bytes_2.ctx k).Γ f) := (gam_cons (num_Reader_Err_2.sem_ok k) (gam_cons (num_Reader_Left_2.sem_ok k) gam_nil))
def num_Reader_Bytes_2.ann (k : Nat) : Ann := .nil
theorem num_Reader_Bytes_2.body (k : Nat) : BodyH (num_Reader_Bytes_2.ctx k) Try.f72 (Func.code Try.f72) (num_Reader_Bytes_2.ann k) num_Reader_Bytes_2.T num_Reader_Bytes_2.os (fun x K => num_Reader_Bytes_2.c k x.1 K) := by
  intro ρ x K; kernel_rfl
theorem num_Reader_Bytes_2.sem_ok (k : Nat) : SemOK Try.prog 72 (num_Reader_Bytes_2.sem k) :=
  callH_ok (C := num_Reader_Bytes_2.ctx k) (num_Reader_Bytes_2.gok k) Try.mix (c := Func.code Try.f72) (ann := num_Reader_Bytes_2.ann k) (T := num_Reader_Bytes_2.T) (os := num_Reader_Bytes_2.os) (fun x K => num_Reader_Bytes_2.c k x.1 K) Try.func72 (by kernel_rfl) (by kernel_rfl) AnnOK.nil (num_Reader_Bytes_2.body k) (by kernel_rfl) (by kernel_rfl) (by kernel_rfl)

/-! 66 (*bedrock/num.Reader).Byte · with blocks -/
abbrev num_Reader_Byte_2.τ : Type := (Int × Unit)
def num_Reader_Byte_2.c (k : Nat) {ρ : Type}  (K : num_Reader_Byte_2.τ → Option ρ) : Option ρ :=
  (num_Reader_Bytes_2 k (1 : Int)).bind fun t0 => (num_take k t0.1).bind fun t1 => let v2 : Int := (IntKind.wrap IntKind.u8 t1.1)
  K (v2, ())
def num_Reader_Byte_2 (k : Nat)  : Option num_Reader_Byte_2.τ := num_Reader_Byte_2.c k  some
def num_Reader_Byte_2.T : CallT := ⟨[.nilp], [], 0⟩
def num_Reader_Byte_2.os : List Out := [⟨.ret, [.freeze (.slot 0), .auto 0], ⟨[.dat (.int .u8)], []⟩⟩]
def num_Reader_Byte_2.sem (k : Nat) : CallSem := callH num_Reader_Byte_2.T num_Reader_Byte_2.os fun x => num_Reader_Byte_2 k 
noncomputable def num_Reader_Byte_2.ctx (k : Nat) : Ctx := ⟨Try.prog, gam [(72, (num_Reader_Bytes_2.sem k)), (78, (num_take.sem k))]⟩
theorem num_Reader_Byte_2.gok (k : Nat) : ∀ f, SemOK Try.prog f ((num_Reader_Byte_2.ctx k).Γ f) := (gam_cons (num_Reader_Bytes_2.sem_ok k) (gam_cons (num_take.sem_ok k) gam_nil))
def num_Reader_Byte_2.ann (k : Nat) : Ann := .nil
theorem num_Reader_Byte_2.body (k : Nat) : BodyH (num_Reader_Byte_2.ctx k) Try.f66 (Func.code Try.f66) (num_Reader_Byte_2.ann k) num_Reader_Byte_2.T num_Reader_Byte_2.os (fun x K => num_Reader_Byte_2.c k  K) := by
  intro ρ x K; kernel_rfl
theorem num_Reader_Byte_2.sem_ok (k : Nat) : SemOK Try.prog 66 (num_Reader_Byte_2.sem k) :=
  callH_ok (C := num_Reader_Byte_2.ctx k) (num_Reader_Byte_2.gok k) Try.mix (c := Func.code Try.f66) (ann := num_Reader_Byte_2.ann k) (T := num_Reader_Byte_2.T) (os := num_Reader_Byte_2.os) (fun x K => num_Reader_Byte_2.c k  K) Try.func66 (by kernel_rfl) (by kernel_rfl) AnnOK.nil (num_Reader_Byte_2.body k) (by kernel_rfl) (by kernel_rfl) (by kernel_rfl)

/-! 67 (*bedrock/num.Reader).U16 · with blocks -/
abbrev num_Reader_U16_2.τ : Type := (Int × Unit)
def num_Reader_U16_2.c (k : Nat) {ρ : Type}  (K : num_Reader_U16_2.τ → Option ρ) : Option ρ :=
  (num_Reader_Bytes_2 k (2 : Int)).bind fun t0 => (num_take k t0.1).bind fun t1 => let v2 : Int := (IntKind.wrap IntKind.u16 t1.1)
  K (v2, ())
def num_Reader_U16_2 (k : Nat)  : Option num_Reader_U16_2.τ := num_Reader_U16_2.c k  some
def num_Reader_U16_2.T : CallT := ⟨[.nilp], [], 0⟩
def num_Reader_U16_2.os : List Out := [⟨.ret, [.freeze (.slot 0), .auto 0], ⟨[.dat (.int .u16)], []⟩⟩]
def num_Reader_U16_2.sem (k : Nat) : CallSem := callH num_Reader_U16_2.T num_Reader_U16_2.os fun x => num_Reader_U16_2 k 
noncomputable def num_Reader_U16_2.ctx (k : Nat) : Ctx := ⟨Try.prog, gam [(72, (num_Reader_Bytes_2.sem k)), (78, (num_take.sem k))]⟩
theorem num_Reader_U16_2.gok (k : Nat) : ∀ f, SemOK Try.prog f ((num_Reader_U16_2.ctx k).Γ f) := (gam_cons (num_Reader_Bytes_2.sem_ok k) (gam_cons (num_take.sem_ok k) gam_nil))
def num_Reader_U16_2.ann (k : Nat) : Ann := .nil
theorem num_Reader_U16_2.body (k : Nat) : BodyH (num_Reader_U16_2.ctx k) Try.f67 (Func.code Try.f67) (num_Reader_U16_2.ann k) num_Reader_U16_2.T num_Reader_U16_2.os (fun x K => num_Reader_U16_2.c k  K) := by
  intro ρ x K; kernel_rfl
theorem num_Reader_U16_2.sem_ok (k : Nat) : SemOK Try.prog 67 (num_Reader_U16_2.sem k) :=
  callH_ok (C := num_Reader_U16_2.ctx k) (num_Reader_U16_2.gok k) Try.mix (c := Func.code Try.f67) (ann := num_Reader_U16_2.ann k) (T := num_Reader_U16_2.T) (os := num_Reader_U16_2.os) (fun x K => num_Reader_U16_2.c k  K) Try.func67 (by kernel_rfl) (by kernel_rfl) AnnOK.nil (num_Reader_U16_2.body k) (by kernel_rfl) (by kernel_rfl) (by kernel_rfl)

/-! 68 (*bedrock/num.Reader).U32 · with blocks -/
abbrev num_Reader_U32_2.τ : Type := (Int × Unit)
def num_Reader_U32_2.c (k : Nat) {ρ : Type}  (K : num_Reader_U32_2.τ → Option ρ) : Option ρ :=
  (num_Reader_Bytes_2 k (4 : Int)).bind fun t0 => (num_take k t0.1).bind fun t1 => let v2 : Int := (IntKind.wrap IntKind.u32 t1.1)
  K (v2, ())
def num_Reader_U32_2 (k : Nat)  : Option num_Reader_U32_2.τ := num_Reader_U32_2.c k  some
def num_Reader_U32_2.T : CallT := ⟨[.nilp], [], 0⟩
def num_Reader_U32_2.os : List Out := [⟨.ret, [.freeze (.slot 0), .auto 0], ⟨[.dat (.int .u32)], []⟩⟩]
def num_Reader_U32_2.sem (k : Nat) : CallSem := callH num_Reader_U32_2.T num_Reader_U32_2.os fun x => num_Reader_U32_2 k 
noncomputable def num_Reader_U32_2.ctx (k : Nat) : Ctx := ⟨Try.prog, gam [(72, (num_Reader_Bytes_2.sem k)), (78, (num_take.sem k))]⟩
theorem num_Reader_U32_2.gok (k : Nat) : ∀ f, SemOK Try.prog f ((num_Reader_U32_2.ctx k).Γ f) := (gam_cons (num_Reader_Bytes_2.sem_ok k) (gam_cons (num_take.sem_ok k) gam_nil))
def num_Reader_U32_2.ann (k : Nat) : Ann := .nil
theorem num_Reader_U32_2.body (k : Nat) : BodyH (num_Reader_U32_2.ctx k) Try.f68 (Func.code Try.f68) (num_Reader_U32_2.ann k) num_Reader_U32_2.T num_Reader_U32_2.os (fun x K => num_Reader_U32_2.c k  K) := by
  intro ρ x K; kernel_rfl
theorem num_Reader_U32_2.sem_ok (k : Nat) : SemOK Try.prog 68 (num_Reader_U32_2.sem k) :=
  callH_ok (C := num_Reader_U32_2.ctx k) (num_Reader_U32_2.gok k) Try.mix (c := Func.code Try.f68) (ann := num_Reader_U32_2.ann k) (T := num_Reader_U32_2.T) (os := num_Reader_U32_2.os) (fun x K => num_Reader_U32_2.c k  K) Try.func68 (by kernel_rfl) (by kernel_rfl) AnnOK.nil (num_Reader_U32_2.body k) (by kernel_rfl) (by kernel_rfl) (by kernel_rfl)

/-! 69 (*bedrock/num.Reader).U64 · with blocks -/
abbrev num_Reader_U64_2.τ : Type := (Int × Unit)
def num_Reader_U64_2.c (k : Nat) {ρ : Type}  (K : num_Reader_U64_2.τ → Option ρ) : Option ρ :=
  (num_Reader_Bytes_2 k (8 : Int)).bind fun t0 => (num_take k t0.1).bind fun t1 => K (t1.1, ())
def num_Reader_U64_2 (k : Nat)  : Option num_Reader_U64_2.τ := num_Reader_U64_2.c k  some
def num_Reader_U64_2.T : CallT := ⟨[.nilp], [], 0⟩
def num_Reader_U64_2.os : List Out := [⟨.ret, [.freeze (.slot 0), .auto 0], ⟨[.dat (.int .u64)], []⟩⟩]
def num_Reader_U64_2.sem (k : Nat) : CallSem := callH num_Reader_U64_2.T num_Reader_U64_2.os fun x => num_Reader_U64_2 k 
noncomputable def num_Reader_U64_2.ctx (k : Nat) : Ctx := ⟨Try.prog, gam [(72, (num_Reader_Bytes_2.sem k)), (78, (num_take.sem k))]⟩
theorem num_Reader_U64_2.gok (k : Nat) : ∀ f, SemOK Try.prog f ((num_Reader_U64_2.ctx k).Γ f) := (gam_cons (num_Reader_Bytes_2.sem_ok k) (gam_cons (num_take.sem_ok k) gam_nil))
def num_Reader_U64_2.ann (k : Nat) : Ann := .nil
theorem num_Reader_U64_2.body (k : Nat) : BodyH (num_Reader_U64_2.ctx k) Try.f69 (Func.code Try.f69) (num_Reader_U64_2.ann k) num_Reader_U64_2.T num_Reader_U64_2.os (fun x K => num_Reader_U64_2.c k  K) := by
  intro ρ x K; kernel_rfl
theorem num_Reader_U64_2.sem_ok (k : Nat) : SemOK Try.prog 69 (num_Reader_U64_2.sem k) :=
  callH_ok (C := num_Reader_U64_2.ctx k) (num_Reader_U64_2.gok k) Try.mix (c := Func.code Try.f69) (ann := num_Reader_U64_2.ann k) (T := num_Reader_U64_2.T) (os := num_Reader_U64_2.os) (fun x K => num_Reader_U64_2.c k  K) Try.func69 (by kernel_rfl) (by kernel_rfl) AnnOK.nil (num_Reader_U64_2.body k) (by kernel_rfl) (by kernel_rfl) (by kernel_rfl)

/-! 70 (*bedrock/num.Reader).Big16 · with blocks -/
abbrev num_Reader_Big16_2.τ : Type := (Int × Unit)
def num_Reader_Big16_2.c (k : Nat) {ρ : Type}  (K : num_Reader_Big16_2.τ → Option ρ) : Option ρ :=
  (num_Reader_U16_2 k ).bind fun t0 => let v1 : Int := (shlOp IntKind.u16 t0.1 (8 : Int))
  let v2 : Int := (shrOp IntKind.u16 t0.1 (8 : Int))
  K ((bitsOp BinOp.or IntKind.u16 v1 v2), ())
def num_Reader_Big16_2 (k : Nat)  : Option num_Reader_Big16_2.τ := num_Reader_Big16_2.c k  some
def num_Reader_Big16_2.T : CallT := ⟨[.nilp], [], 0⟩
def num_Reader_Big16_2.os : List Out := [⟨.ret, [.freeze (.slot 0), .auto 0], ⟨[.dat (.int .u16)], []⟩⟩]
def num_Reader_Big16_2.sem (k : Nat) : CallSem := callH num_Reader_Big16_2.T num_Reader_Big16_2.os fun x => num_Reader_Big16_2 k 
noncomputable def num_Reader_Big16_2.ctx (k : Nat) : Ctx := ⟨Try.prog, gam [(67, (num_Reader_U16_2.sem k))]⟩
theorem num_Reader_Big16_2.gok (k : Nat) : ∀ f, SemOK Try.prog f ((num_Reader_Big16_2.ctx k).Γ f) := (gam_cons (num_Reader_U16_2.sem_ok k) gam_nil)
def num_Reader_Big16_2.ann (k : Nat) : Ann := .nil
theorem num_Reader_Big16_2.body (k : Nat) : BodyH (num_Reader_Big16_2.ctx k) Try.f70 (Func.code Try.f70) (num_Reader_Big16_2.ann k) num_Reader_Big16_2.T num_Reader_Big16_2.os (fun x K => num_Reader_Big16_2.c k  K) := by
  intro ρ x K; kernel_rfl
theorem num_Reader_Big16_2.sem_ok (k : Nat) : SemOK Try.prog 70 (num_Reader_Big16_2.sem k) :=
  callH_ok (C := num_Reader_Big16_2.ctx k) (num_Reader_Big16_2.gok k) Try.mix (c := Func.code Try.f70) (ann := num_Reader_Big16_2.ann k) (T := num_Reader_Big16_2.T) (os := num_Reader_Big16_2.os) (fun x K => num_Reader_Big16_2.c k  K) Try.func70 (by kernel_rfl) (by kernel_rfl) AnnOK.nil (num_Reader_Big16_2.body k) (by kernel_rfl) (by kernel_rfl) (by kernel_rfl)

/-! 71 (*bedrock/num.Reader).Count · with blocks -/
abbrev num_Reader_Count_2.τ : Type := (Int × Unit)
def num_Reader_Count_2.c (k : Nat) {ρ : Type} (most : Int) (K : num_Reader_Count_2.τ → Option ρ) : Option ρ :=
  (num_Reader_Err_2 k ).bind fun t0 => bif (t0.1 != (0 : Int)) then (K ((0 : Int), ())) else (none)
def num_Reader_Count_2 (k : Nat) (most : Int) : Option num_Reader_Count_2.τ := num_Reader_Count_2.c k most some
def num_Reader_Count_2.T : CallT := ⟨[.nilp, .dat (.int .u64)], [], 0⟩
def num_Reader_Count_2.os : List Out := [⟨.ret, [.freeze (.slot 0), .auto 0], ⟨[.dat (.int .u64)], []⟩⟩]
def num_Reader_Count_2.sem (k : Nat) : CallSem := callH num_Reader_Count_2.T num_Reader_Count_2.os fun x => num_Reader_Count_2 k x.1
noncomputable def num_Reader_Count_2.ctx (k : Nat) : Ctx := ⟨Try.prog, gam [(50, (num_Reader_Err_2.sem k))]⟩
theorem num_Reader_Count_2.gok (k : Nat) : ∀ f, SemOK Try.prog f ((num_Reader_Count_2.ctx k).Γ f) := (gam_cons (num_Reader_Err_2.sem_ok k) gam_nil)
def num_Reader_Count_2.ann (k : Nat) : Ann := .nil
theorem num_Reader_Count_2.body (k : Nat) : BodyH (num_Reader_Count_2.ctx k) Try.f71 (Func.code Try.f71) (num_Reader_Count_2.ann k) num_Reader_Count_2.T num_Reader_Count_2.os (fun x K => num_Reader_Count_2.c k x.1 K) := by
  intro ρ x K; kernel_rfl
theorem num_Reader_Count_2.sem_ok (k : Nat) : SemOK Try.prog 71 (num_Reader_Count_2.sem k) :=
  callH_ok (C := num_Reader_Count_2.ctx k) (num_Reader_Count_2.gok k) Try.mix (c := Func.code Try.f71) (ann := num_Reader_Count_2.ann k) (T := num_Reader_Count_2.T) (os := num_Reader_Count_2.os) (fun x K => num_Reader_Count_2.c k x.1 K) Try.func71 (by kernel_rfl) (by kernel_rfl) AnnOK.nil (num_Reader_Count_2.body k) (by kernel_rfl) (by kernel_rfl) (by kernel_rfl)

/-! 73 (*bedrock/num.Reader).String · with blocks -/
abbrev num_Reader_String_2.τ : Type := (ByteArray × Unit)
def num_Reader_String_2.c (k : Nat) {ρ : Type} (most : Int) (K : num_Reader_String_2.τ → Option ρ) : Option ρ :=
  (num_Reader_Err_2 k ).bind fun t0 => bif (t0.1 != (0 : Int)) then (K ((⟨(List.toArray [])⟩ : ByteArray), ())) else (bif (decide (most < (0 : Int))) then (none) else (none))
def num_Reader_String_2 (k : Nat) (most : Int) : Option num_Reader_String_2.τ := num_Reader_String_2.c k most some
def num_Reader_String_2.T : CallT := ⟨[.nilp, .dat (.int .i64)], [], 0⟩
def num_Reader_String_2.os : List Out := [⟨.ret, [.freeze (.slot 0), .auto 0], ⟨[.dat .str], []⟩⟩]
def num_Reader_String_2.sem (k : Nat) : CallSem := callH num_Reader_String_2.T num_Reader_String_2.os fun x => num_Reader_String_2 k x.1
noncomputable def num_Reader_String_2.ctx (k : Nat) : Ctx := ⟨Try.prog, gam [(50, (num_Reader_Err_2.sem k))]⟩
theorem num_Reader_String_2.gok (k : Nat) : ∀ f, SemOK Try.prog f ((num_Reader_String_2.ctx k).Γ f) := (gam_cons (num_Reader_Err_2.sem_ok k) gam_nil)
def num_Reader_String_2.ann (k : Nat) : Ann := .nil
theorem num_Reader_String_2.body (k : Nat) : BodyH (num_Reader_String_2.ctx k) Try.f73 (Func.code Try.f73) (num_Reader_String_2.ann k) num_Reader_String_2.T num_Reader_String_2.os (fun x K => num_Reader_String_2.c k x.1 K) := by
  intro ρ x K; kernel_rfl
theorem num_Reader_String_2.sem_ok (k : Nat) : SemOK Try.prog 73 (num_Reader_String_2.sem k) :=
  callH_ok (C := num_Reader_String_2.ctx k) (num_Reader_String_2.gok k) Try.mix (c := Func.code Try.f73) (ann := num_Reader_String_2.ann k) (T := num_Reader_String_2.T) (os := num_Reader_String_2.os) (fun x K => num_Reader_String_2.c k x.1 K) Try.func73 (by kernel_rfl) (by kernel_rfl) AnnOK.nil (num_Reader_String_2.body k) (by kernel_rfl) (by kernel_rfl) (by kernel_rfl)

/-! 74 (*bedrock/num.Reader).Hash · with blocks -/
abbrev num_Reader_Hash_2.τ : Type := ((List Int) × Unit)
def num_Reader_Hash_2.c (k : Nat) {ρ : Type}  (K : num_Reader_Hash_2.τ → Option ρ) : Option ρ :=
  (num_Reader_Bytes_2 k (32 : Int)).bind fun t0 => let v1 : Int := (((Min.min (List.length (ofBytes t0.1)) 32) : Nat) : Int)
  let v2 : List Int := (copyL (List.replicate 32 (0 : Int)) 0 (ofBytes t0.1) (Min.min (List.length (ofBytes t0.1)) 32))
  K (v2, ())
def num_Reader_Hash_2 (k : Nat)  : Option num_Reader_Hash_2.τ := num_Reader_Hash_2.c k  some
def num_Reader_Hash_2.T : CallT := ⟨[.nilp], [], 0⟩
def num_Reader_Hash_2.os : List Out := [⟨.ret, [.freeze (.slot 0), .auto 0], ⟨[.dat (.arr 32 (.int .u8))], []⟩⟩]
def num_Reader_Hash_2.sem (k : Nat) : CallSem := callH num_Reader_Hash_2.T num_Reader_Hash_2.os fun x => num_Reader_Hash_2 k 
noncomputable def num_Reader_Hash_2.ctx (k : Nat) : Ctx := ⟨Try.prog, gam [(72, (num_Reader_Bytes_2.sem k))]⟩
theorem num_Reader_Hash_2.gok (k : Nat) : ∀ f, SemOK Try.prog f ((num_Reader_Hash_2.ctx k).Γ f) := (gam_cons (num_Reader_Bytes_2.sem_ok k) gam_nil)
def num_Reader_Hash_2.ann (k : Nat) : Ann := .nil
theorem num_Reader_Hash_2.body (k : Nat) : BodyH (num_Reader_Hash_2.ctx k) Try.f74 (Func.code Try.f74) (num_Reader_Hash_2.ann k) num_Reader_Hash_2.T num_Reader_Hash_2.os (fun x K => num_Reader_Hash_2.c k  K) := by
  intro ρ x K; kernel_rfl
theorem num_Reader_Hash_2.sem_ok (k : Nat) : SemOK Try.prog 74 (num_Reader_Hash_2.sem k) :=
  callH_ok (C := num_Reader_Hash_2.ctx k) (num_Reader_Hash_2.gok k) Try.mix (c := Func.code Try.f74) (ann := num_Reader_Hash_2.ann k) (T := num_Reader_Hash_2.T) (os := num_Reader_Hash_2.os) (fun x K => num_Reader_Hash_2.c k  K) Try.func74 (by kernel_rfl) (by kernel_rfl) AnnOK.nil (num_Reader_Hash_2.body k) (by kernel_rfl) (by kernel_rfl) (by kernel_rfl)

/-! 75 (*bedrock/num.Reader).Bool · with blocks -/
abbrev num_Reader_Bool_2.τ : Type := (Bool × Unit)
def num_Reader_Bool_2.c (k : Nat) {ρ : Type}  (K : num_Reader_Bool_2.τ → Option ρ) : Option ρ :=
  (num_Reader_Err_2 k ).bind fun t0 => bif (t0.1 != (0 : Int)) then (K (false, ())) else (none)
def num_Reader_Bool_2 (k : Nat)  : Option num_Reader_Bool_2.τ := num_Reader_Bool_2.c k  some
def num_Reader_Bool_2.T : CallT := ⟨[.nilp], [], 0⟩
def num_Reader_Bool_2.os : List Out := [⟨.ret, [.freeze (.slot 0), .auto 0], ⟨[.dat .bool], []⟩⟩]
def num_Reader_Bool_2.sem (k : Nat) : CallSem := callH num_Reader_Bool_2.T num_Reader_Bool_2.os fun x => num_Reader_Bool_2 k 
noncomputable def num_Reader_Bool_2.ctx (k : Nat) : Ctx := ⟨Try.prog, gam [(50, (num_Reader_Err_2.sem k))]⟩
theorem num_Reader_Bool_2.gok (k : Nat) : ∀ f, SemOK Try.prog f ((num_Reader_Bool_2.ctx k).Γ f) := (gam_cons (num_Reader_Err_2.sem_ok k) gam_nil)
def num_Reader_Bool_2.ann (k : Nat) : Ann := .nil
theorem num_Reader_Bool_2.body (k : Nat) : BodyH (num_Reader_Bool_2.ctx k) Try.f75 (Func.code Try.f75) (num_Reader_Bool_2.ann k) num_Reader_Bool_2.T num_Reader_Bool_2.os (fun x K => num_Reader_Bool_2.c k  K) := by
  intro ρ x K; kernel_rfl
theorem num_Reader_Bool_2.sem_ok (k : Nat) : SemOK Try.prog 75 (num_Reader_Bool_2.sem k) :=
  callH_ok (C := num_Reader_Bool_2.ctx k) (num_Reader_Bool_2.gok k) Try.mix (c := Func.code Try.f75) (ann := num_Reader_Bool_2.ann k) (T := num_Reader_Bool_2.T) (os := num_Reader_Bool_2.os) (fun x K => num_Reader_Bool_2.c k  K) Try.func75 (by kernel_rfl) (by kernel_rfl) AnnOK.nil (num_Reader_Bool_2.body k) (by kernel_rfl) (by kernel_rfl) (by kernel_rfl)

/-! 64 (*bedrock/num.Reader).End · with blocks -/
abbrev num_Reader_End_2.τ : Type := (Int × Unit)
def num_Reader_End_2.c (k : Nat) {ρ : Type}  (K : num_Reader_End_2.τ → Option ρ) : Option ρ :=
  (num_Reader_Err_2 k ).bind fun t0 => bif (t0.1 == (0 : Int)) then ((num_Reader_Left_2 k ).bind fun t1 => bif (decide (t1.1 > (0 : Int))) then (none) else ((num_Reader_Err_2 k ).bind fun t2 => K (t2.1, ()))) else ((num_Reader_Err_2 k ).bind fun t3 => K (t3.1, ()))
def num_Reader_End_2 (k : Nat)  : Option num_Reader_End_2.τ := num_Reader_End_2.c k  some
def num_Reader_End_2.T : CallT := ⟨[.nilp], [], 0⟩
def num_Reader_End_2.os : List Out := [⟨.ret, [.freeze (.slot 0), .auto 0], ⟨[.dat (.int .i64)], []⟩⟩]
def num_Reader_End_2.sem (k : Nat) : CallSem := callH num_Reader_End_2.T num_Reader_End_2.os fun x => num_Reader_End_2 k 
noncomputable def num_Reader_End_2.ctx (k : Nat) : Ctx := ⟨Try.prog, gam [(50, (num_Reader_Err_2.sem k)), (52, (num_Reader_Left_2.sem k))]⟩
theorem num_Reader_End_2.gok (k : Nat) : ∀ f, SemOK Try.prog f ((num_Reader_End_2.ctx k).Γ f) := (gam_cons (num_Reader_Err_2.sem_ok k) (gam_cons (num_Reader_Left_2.sem_ok k) gam_nil))
def num_Reader_End_2.ann (k : Nat) : Ann := .nil
theorem num_Reader_End_2.body (k : Nat) : BodyH (num_Reader_End_2.ctx k) Try.f64 (Func.code Try.f64) (num_Reader_End_2.ann k) num_Reader_End_2.T num_Reader_End_2.os (fun x K => num_Reader_End_2.c k  K) := by
  intro ρ x K; kernel_rfl
theorem num_Reader_End_2.sem_ok (k : Nat) : SemOK Try.prog 64 (num_Reader_End_2.sem k) :=
  callH_ok (C := num_Reader_End_2.ctx k) (num_Reader_End_2.gok k) Try.mix (c := Func.code Try.f64) (ann := num_Reader_End_2.ann k) (T := num_Reader_End_2.T) (os := num_Reader_End_2.os) (fun x K => num_Reader_End_2.c k  K) Try.func64 (by kernel_rfl) (by kernel_rfl) AnnOK.nil (num_Reader_End_2.body k) (by kernel_rfl) (by kernel_rfl) (by kernel_rfl)

/-! 51 (*bedrock/num.Reader).At · with blocks -/
abbrev num_Reader_At_2.τ : Type := (Int × Unit)
def num_Reader_At_2.c (k : Nat) {ρ : Type}  (K : num_Reader_At_2.τ → Option ρ) : Option ρ :=
  K ((0 : Int), ())
def num_Reader_At_2 (k : Nat)  : Option num_Reader_At_2.τ := num_Reader_At_2.c k  some
def num_Reader_At_2.T : CallT := ⟨[.nilp], [], 0⟩
def num_Reader_At_2.os : List Out := [⟨.ret, [.freeze (.slot 0), .auto 0], ⟨[.dat (.int .i64)], []⟩⟩]
def num_Reader_At_2.sem (k : Nat) : CallSem := callH num_Reader_At_2.T num_Reader_At_2.os fun x => num_Reader_At_2 k 
noncomputable def num_Reader_At_2.ctx (k : Nat) : Ctx := ⟨Try.prog, gam []⟩
theorem num_Reader_At_2.gok (k : Nat) : ∀ f, SemOK Try.prog f ((num_Reader_At_2.ctx k).Γ f) := gam_nil
def num_Reader_At_2.ann (k : Nat) : Ann := .nil
theorem num_Reader_At_2.body (k : Nat) : BodyH (num_Reader_At_2.ctx k) Try.f51 (Func.code Try.f51) (num_Reader_At_2.ann k) num_Reader_At_2.T num_Reader_At_2.os (fun x K => num_Reader_At_2.c k  K) := by
  intro ρ x K; kernel_rfl
theorem num_Reader_At_2.sem_ok (k : Nat) : SemOK Try.prog 51 (num_Reader_At_2.sem k) :=
  callH_ok (C := num_Reader_At_2.ctx k) (num_Reader_At_2.gok k) Try.mix (c := Func.code Try.f51) (ann := num_Reader_At_2.ann k) (T := num_Reader_At_2.T) (os := num_Reader_At_2.os) (fun x K => num_Reader_At_2.c k  K) Try.func51 (by kernel_rfl) (by kernel_rfl) AnnOK.nil (num_Reader_At_2.body k) (by kernel_rfl) (by kernel_rfl) (by kernel_rfl)

/-! 62 (*bedrock/num.Writer).Len · with blocks -/
abbrev num_Writer_Len.τ : Type := (Int × Unit)
def num_Writer_Len.c (k : Nat) {ρ : Type}  (K : num_Writer_Len.τ → Option ρ) : Option ρ :=
  K ((0 : Int), ())
def num_Writer_Len (k : Nat)  : Option num_Writer_Len.τ := num_Writer_Len.c k  some
def num_Writer_Len.T : CallT := ⟨[.nilp], [], 0⟩
def num_Writer_Len.os : List Out := [⟨.ret, [.freeze (.slot 0), .auto 0], ⟨[.dat (.int .i64)], []⟩⟩]
def num_Writer_Len.sem (k : Nat) : CallSem := callH num_Writer_Len.T num_Writer_Len.os fun x => num_Writer_Len k 
noncomputable def num_Writer_Len.ctx (k : Nat) : Ctx := ⟨Try.prog, gam []⟩
theorem num_Writer_Len.gok (k : Nat) : ∀ f, SemOK Try.prog f ((num_Writer_Len.ctx k).Γ f) := gam_nil
def num_Writer_Len.ann (k : Nat) : Ann := .nil
theorem num_Writer_Len.body (k : Nat) : BodyH (num_Writer_Len.ctx k) Try.f62 (Func.code Try.f62) (num_Writer_Len.ann k) num_Writer_Len.T num_Writer_Len.os (fun x K => num_Writer_Len.c k  K) := by
  intro ρ x K; kernel_rfl
theorem num_Writer_Len.sem_ok (k : Nat) : SemOK Try.prog 62 (num_Writer_Len.sem k) :=
  callH_ok (C := num_Writer_Len.ctx k) (num_Writer_Len.gok k) Try.mix (c := Func.code Try.f62) (ann := num_Writer_Len.ann k) (T := num_Writer_Len.T) (os := num_Writer_Len.os) (fun x K => num_Writer_Len.c k  K) Try.func62 (by kernel_rfl) (by kernel_rfl) AnnOK.nil (num_Writer_Len.body k) (by kernel_rfl) (by kernel_rfl) (by kernel_rfl)

/-! 63 (*bedrock/num.Writer).Text · with blocks -/
abbrev num_Writer_Text.τ : Type := (ByteArray × Unit)
def num_Writer_Text.c (k : Nat) {ρ : Type}  (K : num_Writer_Text.τ → Option ρ) : Option ρ :=
  K ((⟨(List.toArray [])⟩ : ByteArray), ())
def num_Writer_Text (k : Nat)  : Option num_Writer_Text.τ := num_Writer_Text.c k  some
def num_Writer_Text.T : CallT := ⟨[.nilp], [], 0⟩
def num_Writer_Text.os : List Out := [⟨.ret, [.freeze (.slot 0), .auto 0], ⟨[.dat .str], []⟩⟩]
def num_Writer_Text.sem (k : Nat) : CallSem := callH num_Writer_Text.T num_Writer_Text.os fun x => num_Writer_Text k 
noncomputable def num_Writer_Text.ctx (k : Nat) : Ctx := ⟨Try.prog, gam []⟩
theorem num_Writer_Text.gok (k : Nat) : ∀ f, SemOK Try.prog f ((num_Writer_Text.ctx k).Γ f) := gam_nil
def num_Writer_Text.ann (k : Nat) : Ann := .nil
theorem num_Writer_Text.body (k : Nat) : BodyH (num_Writer_Text.ctx k) Try.f63 (Func.code Try.f63) (num_Writer_Text.ann k) num_Writer_Text.T num_Writer_Text.os (fun x K => num_Writer_Text.c k  K) := by
  intro ρ x K; kernel_rfl
theorem num_Writer_Text.sem_ok (k : Nat) : SemOK Try.prog 63 (num_Writer_Text.sem k) :=
  callH_ok (C := num_Writer_Text.ctx k) (num_Writer_Text.gok k) Try.mix (c := Func.code Try.f63) (ann := num_Writer_Text.ann k) (T := num_Writer_Text.T) (os := num_Writer_Text.os) (fun x K => num_Writer_Text.c k  K) Try.func63 (by kernel_rfl) (by kernel_rfl) AnnOK.nil (num_Writer_Text.body k) (by kernel_rfl) (by kernel_rfl) (by kernel_rfl)

/-! 13 bedrock/bedrocklaw01.NumNil -/
def bedrocklaw01_NumNil.c (k : Nat) {ρ : Type} (a : (Int × (Int × (Int × (ByteArray × Unit))))) (K : Bool × Unit → Option ρ) : Option ρ :=
  let v0 : Int := a.2.1
  (num_Reader_Fail_2 k v0).bind fun t1 => (bedrocklaw01_put k (a.1, (a.2.1, (a.2.2.1, (a.2.2.2.1, ()))))).bind fun t2 => (bedrocklaw01_awake k ).bind fun t3 => bif t3.1 then ((num_Reader_Byte_2 k ).bind fun t4 => bif (t4.1 == (0 : Int)) then ((num_Reader_U16_2 k ).bind fun t5 => bif (t5.1 == (0 : Int)) then ((num_Reader_U32_2 k ).bind fun t6 => bif (t6.1 == (0 : Int)) then ((num_Reader_U64_2 k ).bind fun t7 => bif (t7.1 == (0 : Int)) then ((num_Reader_Big16_2 k ).bind fun t8 => bif (t8.1 == (0 : Int)) then (let v9 : Int := a.2.2.1
  (num_Reader_Count_2 k v9).bind fun t10 => bif (t10.1 == (0 : Int)) then (let v11 : Int := a.2.1
  (num_Reader_Bytes_2 k v11).bind fun t12 => bif (strEq t12.1 (⟨(List.toArray [])⟩ : ByteArray)) then (let v13 : Int := a.2.1
  (num_Reader_String_2 k v13).bind fun t14 => bif (strEq t14.1 (⟨(List.toArray [])⟩ : ByteArray)) then ((num_Reader_Hash_2 k ).bind fun t15 => let v16 : List Int := (List.replicate 32 (0 : Int))
  bif (decide (t15.1 = v16)) then ((num_Reader_Bool_2 k ).bind fun t17 => bif (!t17.1) then ((num_Reader_Err_2 k ).bind fun t18 => bif (t18.1 == (1 : Int)) then ((num_Reader_End_2 k ).bind fun t19 => bif (t19.1 == (1 : Int)) then ((num_Reader_At_2 k ).bind fun t20 => bif (t20.1 == (0 : Int)) then ((num_Reader_Left_2 k ).bind fun t21 => bif (t21.1 == (0 : Int)) then ((num_Writer_Len k ).bind fun t22 => bif (t22.1 == (0 : Int)) then ((num_Writer_Text k ).bind fun t23 => K ((strEq t23.1 (⟨(List.toArray [])⟩ : ByteArray)), ())) else (K (false, ()))) else (K (false, ()))) else (K (false, ()))) else (K (false, ()))) else (K (false, ()))) else (K (false, ()))) else (K (false, ()))) else (K (false, ()))) else (K (false, ()))) else (K (false, ()))) else (K (false, ()))) else (K (false, ()))) else (K (false, ()))) else (K (false, ()))) else (K (false, ()))) else (K (false, ()))
def bedrocklaw01_NumNil (k : Nat) (a : (Int × (Int × (Int × (ByteArray × Unit))))) : Option (Bool × Unit) := bedrocklaw01_NumNil.c k a some
def bedrocklaw01_NumNil.tin : List Ty := [(.pair (.int .i64) (.pair (.int .i64) (.pair (.int .u64) (.pair .str .unit))))]
def bedrocklaw01_NumNil.tout : List Ty := [.bool]
def bedrocklaw01_NumNil.sem (k : Nat) : CallSem := callPure bedrocklaw01_NumNil.tin bedrocklaw01_NumNil.tout fun x => bedrocklaw01_NumNil k x.1
noncomputable def bedrocklaw01_NumNil.ctx (k : Nat) : Ctx := ⟨Try.prog, gam [(65, (num_Reader_Fail_2.sem k)), (61, (bedrocklaw01_put.sem k)), (18, (bedrocklaw01_awake.sem k)), (66, (num_Reader_Byte_2.sem k)), (67, (num_Reader_U16_2.sem k)), (68, (num_Reader_U32_2.sem k)), (69, (num_Reader_U64_2.sem k)), (70, (num_Reader_Big16_2.sem k)), (71, (num_Reader_Count_2.sem k)), (72, (num_Reader_Bytes_2.sem k)), (73, (num_Reader_String_2.sem k)), (74, (num_Reader_Hash_2.sem k)), (75, (num_Reader_Bool_2.sem k)), (50, (num_Reader_Err_2.sem k)), (64, (num_Reader_End_2.sem k)), (51, (num_Reader_At_2.sem k)), (52, (num_Reader_Left_2.sem k)), (62, (num_Writer_Len.sem k)), (63, (num_Writer_Text.sem k))]⟩
theorem bedrocklaw01_NumNil.gok (k : Nat) : ∀ f, SemOK Try.prog f ((bedrocklaw01_NumNil.ctx k).Γ f) := (gam_cons (num_Reader_Fail_2.sem_ok k) (gam_cons (bedrocklaw01_put.sem_ok k) (gam_cons (bedrocklaw01_awake.sem_ok k) (gam_cons (num_Reader_Byte_2.sem_ok k) (gam_cons (num_Reader_U16_2.sem_ok k) (gam_cons (num_Reader_U32_2.sem_ok k) (gam_cons (num_Reader_U64_2.sem_ok k) (gam_cons (num_Reader_Big16_2.sem_ok k) (gam_cons (num_Reader_Count_2.sem_ok k) (gam_cons (num_Reader_Bytes_2.sem_ok k) (gam_cons (num_Reader_String_2.sem_ok k) (gam_cons (num_Reader_Hash_2.sem_ok k) (gam_cons (num_Reader_Bool_2.sem_ok k) (gam_cons (num_Reader_Err_2.sem_ok k) (gam_cons (num_Reader_End_2.sem_ok k) (gam_cons (num_Reader_At_2.sem_ok k) (gam_cons (num_Reader_Left_2.sem_ok k) (gam_cons (num_Writer_Len.sem_ok k) (gam_cons (num_Writer_Text.sem_ok k) gam_nil)))))))))))))))))))
def bedrocklaw01_NumNil.ann (k : Nat) : Ann := .nil
theorem bedrocklaw01_NumNil.body (k : Nat) : BodyIs (bedrocklaw01_NumNil.ctx k) Try.f13 (Func.code Try.f13) (bedrocklaw01_NumNil.ann k) bedrocklaw01_NumNil.tin bedrocklaw01_NumNil.tout (fun x K => bedrocklaw01_NumNil.c k x.1 K) := by
  intro ρ x K; kernel_rfl
theorem bedrocklaw01_NumNil.sem_ok (k : Nat) : SemOK Try.prog 13 (bedrocklaw01_NumNil.sem k) :=
  callPure_ok (C := bedrocklaw01_NumNil.ctx k) (bedrocklaw01_NumNil.gok k) Try.mix (c := Func.code Try.f13) (ann := bedrocklaw01_NumNil.ann k) (tin := bedrocklaw01_NumNil.tin) (tout := bedrocklaw01_NumNil.tout) (fun x K => bedrocklaw01_NumNil.c k x.1 K) Try.func13 (by kernel_rfl) (by kernel_rfl) AnnOK.nil (bedrocklaw01_NumNil.body k)

end Go.Am
/- NumNil: the plain law. -/
namespace Go.Am
open Go

theorem ofBytes_in' (s : ByteArray) : bytesIn (ofBytes s) := fun _ h => ofBytes_mem h

theorem bytesIn_mem {l r : List Int} (h : bytesIn l) (hs : ∀ x ∈ r, x ∈ l) : bytesIn r := fun x hx => h x (hs x hx)

theorem empty_bytes : (⟨List.toArray []⟩ : ByteArray) = bytesOf [] := rfl

/-- Turned round. -/
theorem turned_eq {k : Nat} {s : ByteArray} (hs : s.size ≤ 140737488351232) (hk : s.size < k) : bedrockref01_Turned k s = some (bytesOf (ofBytes s).reverse, ()) := by
  unfold bedrockref01_Turned bedrockref01_Turned.c
  have hlen := ofBytes_length s
  dsimp only
  rw [i64_in (by omega), empty_bytes]
  have hl := loop_from0 (r := bedrockref01_Turned.l0.r k) (fun j => (s, bytesOf ((ofBytes s).reverse.take j), (s.size : Int) - 1 - (j : Int), ())) s.size (bytesOf (ofBytes s).reverse, ()) ?_ ?_ hk
  · rw [List.take_zero, show (s.size : Int) - 1 - ((0 : Nat) : Int) = (s.size : Int) - 1 by omega] at hl
    show (bedrockref01_Turned.l0 k k (s, bytesOf [], (s.size : Int) - 1, ())).bind _ = _
    unfold bedrockref01_Turned.l0
    rw [hl]
    rfl
  · intro j hj kn ke
    simp only [bedrockref01_Turned.l0.r]
    rw [bif_yes (by omega), i64_in (by omega), bif_yes (by omega), i64_in (by omega)]
    rw [show ((s.size : Int) - 1 - (j : Int)).toNat = s.size - 1 - j by omega, show ((s.size : Int) - 1 - (j : Int) + 1).toNat = s.size - 1 - j + 1 by omega]
    have e : bytesOf ((ofBytes s).reverse.take j) ++ s.extract (s.size - 1 - j) (s.size - 1 - j + 1) = bytesOf ((ofBytes s).reverse.take (j + 1)) := by
      apply ofBytes_inj
      have b1 : bytesIn ((ofBytes s).reverse.take j) := bytesIn_mem (ofBytes_in' s) fun x hx => List.mem_reverse.1 (List.mem_of_mem_take hx)
      have b2 : bytesIn ((ofBytes s).reverse.take (j + 1)) := bytesIn_mem (ofBytes_in' s) fun x hx => List.mem_reverse.1 (List.mem_of_mem_take hx)
      rw [ofBytes_append, ofBytes_bytesOf b1, ofBytes_bytesOf b2, ofBytes_extract, show s.size - 1 - j + 1 - (s.size - 1 - j) = 1 by omega]
      have h1 : (ofBytes s).reverse.take (j + 1) = (ofBytes s).reverse.take j ++ [(ofBytes s)[s.size - 1 - j]'(by omega)] := by
        rw [List.take_add_one, List.getElem?_reverse (by omega), List.getElem?_eq_getElem (show (ofBytes s).length - 1 - j < (ofBytes s).length by omega)]
        simp only [hlen, Option.toList_some]
      rw [h1, List.drop_eq_getElem_cons (by omega)]
      rfl
    rw [cond_true' (ble_of (by
      rw [bytesOf_size, List.length_take, List.length_reverse, ByteArray.size_extract]; omega)), e, show (s.size : Int) - 1 - (j : Int) - 1 = (s.size : Int) - 1 - ((j + 1 : Nat) : Int) by omega]
  · intro kn ke
    simp only [bedrockref01_Turned.l0.r]
    rw [bif_no (by omega), List.take_of_length_le (by rw [List.length_reverse]; omega)]

theorem wByte {k : Nat} (hk : 9 ≤ k) (b : Int) : num_Writer_Byte k b = some () := by
  unfold num_Writer_Byte num_Writer_Byte.c
  rw [show (1 : Int) = ((1 : Nat) : Int) from rfl, num_lay_eq hk _ 1 (by omega)]; rfl
theorem wU16 {k : Nat} (hk : 9 ≤ k) (b : Int) : num_Writer_U16 k b = some () := by
  unfold num_Writer_U16 num_Writer_U16.c
  rw [show (2 : Int) = ((2 : Nat) : Int) from rfl, num_lay_eq hk _ 2 (by omega)]; rfl
theorem wU32 {k : Nat} (hk : 9 ≤ k) (b : Int) : num_Writer_U32 k b = some () := by
  unfold num_Writer_U32 num_Writer_U32.c
  rw [show (4 : Int) = ((4 : Nat) : Int) from rfl, num_lay_eq hk _ 4 (by omega)]; rfl
theorem wU64 {k : Nat} (hk : 9 ≤ k) (b : Int) : num_Writer_U64 k b = some () := by
  unfold num_Writer_U64 num_Writer_U64.c
  rw [show (8 : Int) = ((8 : Nat) : Int) from rfl, num_lay_eq hk _ 8 (by omega)]; rfl
theorem wBig16 {k : Nat} (hk : 9 ≤ k) (b : Int) : num_Writer_Big16 k b = some () := by
  unfold num_Writer_Big16 num_Writer_Big16.c
  dsimp only
  rw [wU16 hk]; rfl
theorem wCount {k : Nat} (hk : 9 ≤ k) (b : Int) : num_Writer_Count k b = some () := by
  unfold num_Writer_Count num_Writer_Count.c
  rw [num_Count_eq hk]; rfl
theorem wString {k : Nat} (hk : 9 ≤ k) (s : ByteArray) : num_Writer_String k s = some () := by
  unfold num_Writer_String num_Writer_String.c
  rw [wCount hk]; rfl
theorem wBool {k : Nat} (hk : 9 ≤ k) (b : Bool) : num_Writer_Bool k b = some () := by
  unfold num_Writer_Bool num_Writer_Bool.c
  cases b <;> simp only [cond_true, cond_false] <;> rw [wByte hk] <;> rfl

theorem low_some (n : Int) (hn : 0 ≤ n ∧ n ≤ 18446744073709551615) (b : Nat) (hb : b ≤ 8) : bedrockref01_Low 20 n (b : Int) = some (bytesOf (lowI n b), ()) := bedrockref01_Low_eq (by omega) n hn b hb

theorem cBytes_le (n : Int) : (cBytes n).length ≤ 9 := by
  have h := cBytes_length n
  unfold cLong at h
  split at h
  · omega
  · split at h
    · omega
    · split at h <;> omega

theorem put_some (a : Int × Int × Int × ByteArray × Unit) (hn : 0 ≤ a.2.2.1 ∧ a.2.2.1 ≤ 18446744073709551615) (hs : a.2.2.2.1.size ≤ 140737488351232) : ∃ b, bedrocklaw01_put 20 a = some (b, ()) := by
  unfold bedrocklaw01_put bedrocklaw01_put.c
  dsimp only
  cases h0 : (a.1 == (0 : Int))
  case true => 
    simp only [cond_true]
    rw [wByte (by omega), show (1 : Int) = ((1 : Nat) : Int) from rfl]
    simp only [Option.bind_some]
    rw [low_some _ hn 1 (by omega)]
    exact ⟨_, rfl⟩
  simp only [cond_false]
  cases h1 : (a.1 == (1 : Int))
  case true =>
    simp only [cond_true]
    rw [wU16 (by omega)]
    simp only [Option.bind_some]
    rw [show (2 : Int) = ((2 : Nat) : Int) from rfl, low_some _ hn 2 (by omega)]
    exact ⟨_, rfl⟩
  simp only [cond_false]
  cases h2 : (a.1 == (2 : Int))
  case true =>
    simp only [cond_true]
    rw [wU32 (by omega)]
    simp only [Option.bind_some]
    rw [show (4 : Int) = ((4 : Nat) : Int) from rfl, low_some _ hn 4 (by omega)]
    exact ⟨_, rfl⟩
  simp only [cond_false]
  cases h3 : (a.1 == (3 : Int))
  case true =>
    simp only [cond_true]
    rw [wU64 (by omega)]
    simp only [Option.bind_some]
    rw [show (8 : Int) = ((8 : Nat) : Int) from rfl, low_some _ hn 8 (by omega)]
    exact ⟨_, rfl⟩
  simp only [cond_false]
  cases h4 : (a.1 == (4 : Int))
  case true =>
    simp only [cond_true]
    rw [wBig16 (by omega)]
    simp only [Option.bind_some]
    rw [show (2 : Int) = ((2 : Nat) : Int) from rfl, low_some _ hn 2 (by omega)]
    simp only [Option.bind_some]
    rw [turned_eq (by rw [bytesOf_size, lowI_length]; omega) (by rw [bytesOf_size, lowI_length]; omega)]
    exact ⟨_, rfl⟩
  simp only [cond_false]
  cases h5 : (a.1 == (5 : Int))
  case true =>
    simp only [cond_true]
    rw [wCount (by omega)]
    simp only [Option.bind_some]
    rw [bedrockref01_Count_eq (by omega) _ hn]
    exact ⟨_, rfl⟩
  simp only [cond_false]
  cases h6 : (a.1 == (6 : Int))
  case true =>
    simp only [cond_true]
    exact ⟨_, rfl⟩
  simp only [cond_false]
  cases h7 : (a.1 == (7 : Int))
  case true =>
    simp only [cond_true]
    rw [wString (by omega)]
    simp only [Option.bind_some]
    rw [u64_in (by omega), bedrockref01_Count_eq (by omega) _ (by omega)]
    simp only [Option.bind_some]
    rw [cond_true' (ble_of (by rw [bytesOf_size]; have := cBytes_le ((a.2.2.2.1.size : Nat) : Int); omega))]
    exact ⟨_, rfl⟩
  simp only [cond_false]
  cases h8 : (a.1 == (8 : Int))
  case true =>
    simp only [cond_true]
    exact ⟨_, rfl⟩
  simp only [cond_false]
  rw [wBool (by omega)]
  simp only [Option.bind_some]
  rw [show (1 : Int) = ((1 : Nat) : Int) from rfl, low_some _ (by rw [Int.tmod_eq_emod_of_nonneg hn.1]; omega) 1 (by omega)]
  exact ⟨_, rfl⟩

theorem numNil_true (a : Int × Int × Int × ByteArray × Unit) (hn : 0 ≤ a.2.2.1 ∧ a.2.2.1 ≤ 18446744073709551615) (hs : a.2.2.2.1.size ≤ 140737488351232) : bedrocklaw01_NumNil 20 a = some (true, ()) := by
  obtain ⟨b, hb⟩ := put_some a hn hs
  unfold bedrocklaw01_NumNil bedrocklaw01_NumNil.c
  dsimp only
  rw [show num_Reader_Fail_2 20 a.2.1 = some () from rfl]
  simp only [Option.bind_some]
  show (bedrocklaw01_put 20 a).bind _ = _
  rw [hb, awake_eq, show num_Reader_Byte_2 20 = some ((0 : Int), ()) by kernel_rfl, show num_Reader_U16_2 20 = some ((0 : Int), ()) by kernel_rfl, show num_Reader_U32_2 20 = some ((0 : Int), ()) by kernel_rfl, show num_Reader_U64_2 20 = some ((0 : Int), ()) by kernel_rfl, show num_Reader_Big16_2 20 = some ((0 : Int), ()) by kernel_rfl,
    show num_Reader_Count_2 20 a.2.2.1 = some ((0 : Int), ()) from rfl, show num_Reader_Bytes_2 20 a.2.1 = some (⟨List.toArray []⟩, ()) from rfl, show num_Reader_String_2 20 a.2.1 = some (⟨List.toArray []⟩, ()) from rfl,
    show num_Reader_Hash_2 20 = some (List.replicate 32 (0 : Int), ()) by kernel_rfl, show num_Reader_Bool_2 20 = some (false, ()) by kernel_rfl, show num_Reader_Err_2 20 = some ((1 : Int), ()) from rfl, show num_Reader_End_2 20 = some ((1 : Int), ()) by kernel_rfl, show num_Reader_At_2 20 = some ((0 : Int), ()) from rfl, show num_Reader_Left_2 20 = some ((0 : Int), ()) from rfl, show num_Writer_Len 20 = some ((0 : Int), ()) from rfl, show num_Writer_Text 20 = some (⟨List.toArray []⟩, ()) from rfl]
  simp only [Option.bind_some, cond_true, beq_self_eq_true, strEq_self, decide_true, Bool.not_false]
end Go.Am
/- NumReads: the plain law. -/
namespace Go.Am
open Go

abbrev Rd : Type := ByteArray × Int × Int × Unit
/-- A reader stands within its text. -/
def RdOK (r : Rd) : Prop := r.1.size ≤ 140737488351232 ∧ 0 ≤ r.2.1 ∧ r.2.1 ≤ (r.1.size : Int)

theorem awake01 {k : Nat} (hk : 9 ≤ k) : bedrocklaw01_awake k = some (true, ()) := by
  obtain ⟨j, rfl⟩ : ∃ j, k = j + 2 := ⟨k - 2, by omega⟩
  unfold bedrocklaw01_awake bedrocklaw01_awake.c
  rw [num_TakeCount_eq (by omega) _ _ (by decide), show tcSpec ⟨List.toArray [253, 0, 1]⟩ 0 = (256, 3, 0, ()) by kernel_rfl, show num_Hex (j + 2) ⟨List.toArray [171]⟩ = some (⟨List.toArray [97, 98]⟩, ()) by kernel_rfl]
  simp only [Option.bind_some, beq_self_eq_true, cond_true, strEq_self]

/-- n letters from where the reader stands. -/
def takeS (r : Rd) (n : Int) : Rd × ByteArray :=
  if r.2.2.1 ≠ 0 then (r, ⟨List.toArray []⟩) else
  if n < 0 then ((r.1, r.2.1, 1, ()), ⟨List.toArray []⟩) else
  if n > (r.1.size : Int) - r.2.1 then ((r.1, r.2.1, 4, ()), ⟨List.toArray []⟩) else
  ((r.1, r.2.1 + n, r.2.2.1, ()), r.1.extract r.2.1.toNat (r.2.1 + n).toNat)

theorem takeS_ok {r : Rd} (h : RdOK r) (n : Int) : RdOK (takeS r n).1 ∧ (takeS r n).1.1 = r.1 := by
  obtain ⟨h1, h2, h3⟩ := h
  unfold takeS
  split
  · exact ⟨⟨h1, h2, h3⟩, rfl⟩
  · split
    · exact ⟨⟨h1, h2, h3⟩, rfl⟩
    · split
      · exact ⟨⟨h1, h2, h3⟩, rfl⟩
      · exact ⟨⟨h1, by dsimp only; omega, by dsimp only; omega⟩, rfl⟩

theorem takeS_size {r : Rd} (h : RdOK r) (n : Int) : (takeS r n).2.size = 0 ∨ (takeS r n).2.size = n.toNat := by
  obtain ⟨h1, h2, h3⟩ := h
  unfold takeS
  split
  · exact .inl rfl
  · split
    · exact .inl rfl
    · split
      · exact .inl rfl
      · right
        rw [ByteArray.size_extract]; omega

/-- With a fault nothing is taken. -/
theorem takeS_err {r : Rd} (n : Int) (he : (takeS r n).1.2.2.1 ≠ 0) : (takeS r n).2 = ⟨List.toArray []⟩ := by
  unfold takeS at he ⊢
  split
  · rfl
  · split
    · rfl
    · split
      · rfl
      · rename_i h0 h1 h2
        rw [if_neg h0, if_neg h1, if_neg h2] at he
        exact absurd he h0
theorem takeS_fine {r : Rd} (h : RdOK r) {n : Int} (he : (takeS r n).1.2.2.1 = 0) : (takeS r n).2.size = n.toNat ∧ 0 ≤ n := by
  obtain ⟨h1, h2, h3⟩ := h
  unfold takeS at he ⊢
  split
  · rename_i h0
    rw [if_pos h0] at he
    exact absurd he h0
  · rename_i h0
    rw [if_neg h0] at he
    split
    · rename_i h1
      rw [if_pos h1] at he; cases he
    · rename_i h1
      rw [if_neg h1] at he
      split
      · rename_i h2
        rw [if_pos h2] at he; cases he
      · exact ⟨by rw [ByteArray.size_extract]; omega, by omega⟩

theorem bytes_eq (k : Nat) {r : Rd} (h : RdOK r) {n : Int} : num_Reader_Bytes k n r = some ((takeS r n).2, (takeS r n).1, ()) := by
  obtain ⟨s, a, e, u⟩ := r
  obtain ⟨h1, h2, h3⟩ := h
  simp only at h1 h2 h3
  unfold num_Reader_Bytes num_Reader_Bytes.c takeS
  rw [show num_Reader_Err k (s, a, e, ()) = some (e, (s, a, e, ()), ()) from rfl]
  simp only [Option.bind_some]
  by_cases he : e = 0
  · subst he
    rw [bne_self_eq_false, cond_false, if_neg (by simp)]
    by_cases hn : n < 0
    · rw [bif_yes hn, if_pos hn]
    · rw [bif_no hn, if_neg hn, show num_Reader_Left k (s, a, (0 : Int), ()) = some (IntKind.i64.wrap ((s.size : Int) - a), (s, a, (0 : Int), ()), ()) from rfl]
      simp only [Option.bind_some]
      rw [i64_in (n := (s.size : Int) - a) (by omega)]
      by_cases hg : n > (s.size : Int) - a
      · rw [bif_yes hg, if_pos hg]
      · rw [bif_no hg, if_neg hg, i64_in (n := a + n) (by omega), i64_in (by omega), bif_yes (by omega), show a + n - n = a by omega]
  · rw [cond_true' (by simpa using he), if_pos he]

theorem refTake_eq (k : Nat) {r : Rd} (h : RdOK r) {n : Int} : bedrockref01_Reader_Take k r n = some ((takeS r n).1, (takeS r n).2, ()) := by
  obtain ⟨s, a, e, u⟩ := r
  obtain ⟨h1, h2, h3⟩ := h
  simp only at h1 h2 h3
  unfold bedrockref01_Reader_Take bedrockref01_Reader_Take.c takeS
  dsimp only
  by_cases he : e = 0
  · subst he
    rw [bne_self_eq_false, cond_false, if_neg (by simp)]
    by_cases hn : n < 0
    · rw [bif_yes hn, if_pos hn]
    · rw [bif_no hn, if_neg hn, i64_in (n := (s.size : Int) - a) (by omega)]
      by_cases hg : n > (s.size : Int) - a
      · rw [bif_yes (by omega), if_pos hg]
      · rw [bif_no (by omega), if_neg hg, i64_in (n := a + n) (by omega), i64_in (by omega), bif_yes (by omega), show a + n - n = a by omega]
  · rw [cond_true' (by simpa using he), if_pos he]

theorem leI_lt {l : List Int} (h : bytesIn l) {m : Nat} (hm : l.length ≤ m) : 0 ≤ leI l ∧ leI l < 256 ^ m := by
  obtain ⟨h1, h2⟩ := leI_range h
  refine ⟨h1, Int.lt_of_lt_of_le h2 ?_⟩
  have : (256 : Nat) ^ l.length ≤ 256 ^ m := Nat.pow_le_pow_right (by omega) hm
  have h3 : (((256 : Nat) ^ l.length : Nat) : Int) ≤ ((256 ^ m : Nat) : Int) := Int.ofNat_le.2 this
  rw [Int.natCast_pow, Int.natCast_pow] at h3
  exact h3

/-- The number that n letters say. -/
def numS (r : Rd) (n : Int) : Int := leI (ofBytes (takeS r n).2)
theorem numS_lt {r : Rd} (h : RdOK r) (n : Nat) : 0 ≤ numS r n ∧ numS r n < 256 ^ n := by
  refine leI_lt (ofBytes_in' _) ?_
  rw [ofBytes_length]
  rcases takeS_size h (n : Int) with h | h <;> omega

theorem numTake_eq {k : Nat} (hk : 9 ≤ k) {r : Rd} (h : RdOK r) (n : Nat) (hn : n ≤ 8) : num_take k (takeS r n).2 = some (numS r n, ()) :=
  num_take_eq hk _ (by rcases takeS_size h (n : Int) with h | h <;> omega)
theorem refGet_eq {k : Nat} (hk : 9 ≤ k) {r : Rd} (h : RdOK r) (n : Nat) (hn : n ≤ 8) : bedrockref01_Get k (takeS r n).2 = some (numS r n, ()) :=
  bedrockref01_Get_eq hk _ (by rcases takeS_size h (n : Int) with h | h <;> omega)

theorem u16_mod (n : Int) : IntKind.u16.wrap n = n % 65536 := IntKind.wrap_u16 n

theorem byte_eq {k : Nat} (hk : 9 ≤ k) {r : Rd} (h : RdOK r) : num_Reader_Byte k r = some (numS r 1, (takeS r 1).1, ()) := by
  unfold num_Reader_Byte num_Reader_Byte.c
  show (num_Reader_Bytes k 1 r).bind _ = _
  rw [bytes_eq k h]
  simp only [Option.bind_some]
  rw [show (1 : Int) = ((1 : Nat) : Int) from rfl, numTake_eq hk h 1 (by omega)]
  have := numS_lt h 1
  simp only [Option.bind_some]
  rw [u8_in (by omega)]
theorem u16_eq {k : Nat} (hk : 9 ≤ k) {r : Rd} (h : RdOK r) : num_Reader_U16 k r = some (numS r 2, (takeS r 2).1, ()) := by
  unfold num_Reader_U16 num_Reader_U16.c
  show (num_Reader_Bytes k 2 r).bind _ = _
  rw [bytes_eq k h]
  simp only [Option.bind_some]
  rw [show (2 : Int) = ((2 : Nat) : Int) from rfl, numTake_eq hk h 2 (by omega)]
  have := numS_lt h 2
  simp only [Option.bind_some]
  rw [u16_mod, Int.emod_eq_of_lt (by omega) (by omega)]
theorem u32_eq {k : Nat} (hk : 9 ≤ k) {r : Rd} (h : RdOK r) : num_Reader_U32 k r = some (numS r 4, (takeS r 4).1, ()) := by
  unfold num_Reader_U32 num_Reader_U32.c
  show (num_Reader_Bytes k 4 r).bind _ = _
  rw [bytes_eq k h]
  simp only [Option.bind_some]
  rw [show (4 : Int) = ((4 : Nat) : Int) from rfl, numTake_eq hk h 4 (by omega)]
  have := numS_lt h 4
  simp only [Option.bind_some]
  rw [u32_in (by omega)]
theorem u64_eq {k : Nat} (hk : 9 ≤ k) {r : Rd} (h : RdOK r) : num_Reader_U64 k r = some (numS r 8, (takeS r 8).1, ()) := by
  unfold num_Reader_U64 num_Reader_U64.c
  show (num_Reader_Bytes k 8 r).bind _ = _
  rw [bytes_eq k h]
  simp only [Option.bind_some]
  rw [show (8 : Int) = ((8 : Nat) : Int) from rfl, numTake_eq hk h 8 (by omega)]
  rfl

/-! a count -/
def countS (r : Rd) (most : Int) : Rd × Int :=
  if r.2.2.1 ≠ 0 then (r, 0) else
  let t := tcSpec r.1 r.2.1
  let e := if t.2.2.1 = 0 ∧ t.1 > most then 5 else t.2.2.1
  if e ≠ 0 then ((r.1, r.2.1, e, ()), 0) else ((r.1, t.2.1, r.2.2.1, ()), t.1)

theorem tcSpec_pos {s : ByteArray} {a : Int} (ha : 0 ≤ a ∧ a ≤ (s.size : Int)) : 0 ≤ (tcSpec s a).2.1 ∧ (tcSpec s a).2.1 ≤ (s.size : Int) := by
  have hd : ((ofBytes s).drop a.toNat).length = s.size - a.toNat := by rw [List.length_drop, ofBytes_length]
  unfold tcSpec
  split
  · exact ⟨by simp, by simp⟩
  · generalize hl : (ofBytes s).drop a.toNat = l at hd
    cases l with
    | nil => exact ⟨by simp, by simp⟩
    | cons b l =>
      simp only [List.length_cons] at hd
      dsimp only
      split
      · dsimp only; omega
      · generalize (if b = 253 then 2 else if b = 254 then 4 else 8 : Nat) = m
        split
        · exact ⟨by simp, by simp⟩
        · split
          · dsimp only; omega
          · exact ⟨by simp, by simp⟩

theorem countS_ok {r : Rd} (h : RdOK r) (most : Int) : RdOK (countS r most).1 ∧ (countS r most).1.1 = r.1 := by
  obtain ⟨h1, h2, h3⟩ := h
  have := tcSpec_pos (s := r.1) (a := r.2.1) ⟨h2, h3⟩
  unfold countS
  split
  · exact ⟨⟨h1, h2, h3⟩, rfl⟩
  · dsimp only
    generalize tcSpec r.1 r.2.1 = t at this ⊢
    generalize (if t.2.2.1 = 0 ∧ t.1 > most then 5 else t.2.2.1 : Int) = e'
    split
    · exact ⟨⟨h1, h2, h3⟩, rfl⟩
    · exact ⟨⟨h1, this.1, this.2⟩, rfl⟩

theorem rcount_eq {k : Nat} (hk : 9 ≤ k) {r : Rd} (h : RdOK r) (most : Int) : num_Reader_Count k most r = some ((countS r most).2, (countS r most).1, ()) := by
  obtain ⟨s, a, e, u⟩ := r
  obtain ⟨h1, h2, h3⟩ := h
  simp only at h1 h2 h3
  unfold num_Reader_Count num_Reader_Count.c countS
  rw [show num_Reader_Err k (s, a, e, ()) = some (e, (s, a, e, ()), ()) from rfl]
  simp only [Option.bind_some]
  by_cases he : e = 0
  · subst he
    rw [bne_self_eq_false, cond_false, if_neg (by simp), num_TakeCount_eq hk s a (by omega)]
    simp only [Option.bind_some]
    generalize tcSpec s a = t
    obtain ⟨n, p, q, u⟩ := t
    have hp : num_Reader_Count.p0 k (most, n, p, q, (s, a, (0 : Int), ()), ()) = some (n, p, (if q = 0 ∧ n > most then 5 else q), (s, a, (0 : Int), ()), ()) := by
      unfold num_Reader_Count.p0
      simp only [num_Reader_Count.p0.r]
      by_cases hq : q = 0
      · subst hq
        rw [beq_self_eq_true, cond_true]
        by_cases hm : n > most
        · rw [bif_yes hm, if_pos ⟨rfl, hm⟩]
        · rw [bif_no hm, if_neg (by omega)]
      · rw [cond_false' (by simpa using hq), if_neg (by omega)]
    simp only
    rw [hp]
    simp only [Option.bind_some]
    generalize (if q = 0 ∧ n > most then 5 else q : Int) = e'
    by_cases he' : e' = 0
    · subst he'
      rw [bne_self_eq_false, cond_false, if_neg (by simp)]
    · rw [cond_true' (by simpa using he'), if_pos he']
  · rw [cond_true' (by simpa using he), if_pos he]

theorem refcount_eq {k : Nat} (hk : 9 ≤ k) {r : Rd} (h : RdOK r) (most : Int) : bedrockref01_Reader_Count k r most = some ((countS r most).1, (countS r most).2, ()) := by
  obtain ⟨s, a, e, u⟩ := r
  obtain ⟨h1, h2, h3⟩ := h
  simp only at h1 h2 h3
  unfold bedrockref01_Reader_Count bedrockref01_Reader_Count.c countS
  dsimp only
  by_cases he : e = 0
  · subst he
    rw [bne_self_eq_false, cond_false, if_neg (by simp), bedrockref01_TakeCount_eq hk s a (by omega)]
    simp only [Option.bind_some]
    generalize tcSpec s a = t
    obtain ⟨n, p, q, u⟩ := t
    have hp : ∀ z, bedrockref01_Reader_Count.p0 k (most, n, p, q, (s, a, (0 : Int), ()), z, ()) = some (n, p, (if q = 0 ∧ n > most then 5 else q), (s, a, (0 : Int), ()), z, ()) := by
      intro z
      unfold bedrockref01_Reader_Count.p0
      simp only [bedrockref01_Reader_Count.p0.r]
      by_cases hq : q = 0
      · subst hq
        rw [beq_self_eq_true, cond_true]
        by_cases hm : n > most
        · rw [bif_yes hm, if_pos ⟨rfl, hm⟩]
        · rw [bif_no hm, if_neg (by omega)]
      · rw [cond_false' (by simpa using hq), if_neg (by omega)]
    simp only
    rw [hp]
    simp only [Option.bind_some]
    generalize (if q = 0 ∧ n > most then 5 else q : Int) = e'
    by_cases he' : e' = 0
    · subst he'
      rw [bne_self_eq_false, cond_false, if_neg (by simp)]
    · rw [cond_true' (by simpa using he'), if_pos he']
  · rw [cond_true' (by simpa using he), if_pos he]

/-! a text -/
def stringS (r : Rd) (most : Int) : Rd × ByteArray :=
  if r.2.2.1 ≠ 0 then (r, ⟨List.toArray []⟩) else
  if most < 0 then ((r.1, r.2.1, 1, ()), ⟨List.toArray []⟩) else
  let c := countS r (IntKind.u64.wrap most)
  let t := takeS c.1 (IntKind.i64.wrap c.2)
  if t.1.2.2.1 ≠ 0 then ((r.1, r.2.1, t.1.2.2.1, ()), ⟨List.toArray []⟩) else t

theorem stringS_ok {r : Rd} (h : RdOK r) (most : Int) : RdOK (stringS r most).1 ∧ (stringS r most).1.1 = r.1 := by
  have h' := h
  obtain ⟨h1, h2, h3⟩ := h
  unfold stringS
  split
  · exact ⟨⟨h1, h2, h3⟩, rfl⟩
  · split
    · exact ⟨⟨h1, h2, h3⟩, rfl⟩
    · dsimp only
      split
      · exact ⟨⟨h1, h2, h3⟩, rfl⟩
      · obtain ⟨c1, c2⟩ := countS_ok h' (IntKind.u64.wrap most)
        obtain ⟨t1, t2⟩ := takeS_ok c1 (IntKind.i64.wrap (countS r (IntKind.u64.wrap most)).2)
        exact ⟨t1, t2.trans c2⟩

theorem rstring_eq {k : Nat} (hk : 9 ≤ k) {r : Rd} (h : RdOK r) (most : Int) : num_Reader_String k most r = some ((stringS r most).2, (stringS r most).1, ()) := by
  have h' := h
  obtain ⟨s, a, e, u⟩ := r
  obtain ⟨h1, h2, h3⟩ := h
  simp only at h1 h2 h3
  unfold num_Reader_String num_Reader_String.c stringS
  rw [show num_Reader_Err k (s, a, e, ()) = some (e, (s, a, e, ()), ()) from rfl]
  simp only [Option.bind_some]
  by_cases he : e = 0
  · subst he
    rw [bne_self_eq_false, cond_false, if_neg (by simp)]
    by_cases hm : most < 0
    · rw [bif_yes hm, if_pos hm]
    · rw [bif_no hm, if_neg hm, rcount_eq hk h']
      simp only [Option.bind_some]
      obtain ⟨c1, c2⟩ := countS_ok h' (IntKind.u64.wrap most)
      generalize countS (s, a, 0, ()) (IntKind.u64.wrap most) = c at *
      show (num_Reader_Bytes k (IntKind.i64.wrap c.2) c.1).bind _ = _
      rw [bytes_eq k c1]
      simp only [Option.bind_some]
      obtain ⟨t1, t2⟩ := takeS_ok c1 (IntKind.i64.wrap c.2)
      have ht := takeS_err (r := c.1) (IntKind.i64.wrap c.2)
      generalize takeS c.1 (IntKind.i64.wrap c.2) = t at *
      by_cases hq : t.1.2.2.1 = 0
      · rw [cond_false' (by simpa using hq), if_neg (by simpa using hq)]
      · rw [cond_true' (by simpa using hq), if_pos hq, ht hq, t2, c2]
  · rw [cond_true' (by simpa using he), if_pos he]

theorem refstring_eq {k : Nat} (hk : 9 ≤ k) {r : Rd} (h : RdOK r) (most : Int) : bedrockref01_Reader_String k r most = some ((stringS r most).1, (stringS r most).2, ()) := by
  have h' := h
  obtain ⟨s, a, e, u⟩ := r
  obtain ⟨h1, h2, h3⟩ := h
  simp only at h1 h2 h3
  unfold bedrockref01_Reader_String bedrockref01_Reader_String.c stringS
  dsimp only
  by_cases he : e = 0
  · subst he
    rw [bne_self_eq_false, cond_false, if_neg (by simp)]
    by_cases hm : most < 0
    · rw [bif_yes hm, if_pos hm]
    · rw [bif_no hm, if_neg hm, refcount_eq hk h']
      simp only [Option.bind_some]
      obtain ⟨c1, c2⟩ := countS_ok h' (IntKind.u64.wrap most)
      generalize countS (s, a, 0, ()) (IntKind.u64.wrap most) = c at *
      by_cases hc : c.1.2.2.1 = 0
      · rw [cond_false' (by simpa using hc)]
        show (bedrockref01_Reader_Take k c.1 (IntKind.i64.wrap c.2)).bind _ = _
        rw [refTake_eq k c1]
        simp only [Option.bind_some]
        generalize takeS c.1 (IntKind.i64.wrap c.2) = t at *
        by_cases hq : t.1.2.2.1 = 0
        · rw [cond_false' (by simpa using hq), if_neg (by simpa using hq)]
        · rw [cond_true' (by simpa using hq), if_pos hq]
      · rw [cond_true' (by simpa using hc)]
        have : takeS c.1 (IntKind.i64.wrap c.2) = (c.1, ⟨List.toArray []⟩) := by unfold takeS; rw [if_pos hc]
        rw [this, if_pos hc]
  · rw [cond_true' (by simpa using he), if_pos he]

/-! a truth value -/
def boolS (r : Rd) : Rd × Bool :=
  if r.2.2.1 ≠ 0 then (r, false) else
  if numS r 1 > 1 then ((r.1, r.2.1, 6, ()), false) else ((takeS r 1).1, numS r 1 == 1)

theorem boolS_ok {r : Rd} (h : RdOK r) : RdOK (boolS r).1 ∧ (boolS r).1.1 = r.1 := by
  unfold boolS
  split
  · exact ⟨h, rfl⟩
  · split
    · exact ⟨⟨h.1, h.2.1, h.2.2⟩, rfl⟩
    · exact takeS_ok h 1

theorem rbool_eq {k : Nat} (hk : 9 ≤ k) {r : Rd} (h : RdOK r) : num_Reader_Bool k r = some ((boolS r).2, (boolS r).1, ()) := by
  have h' := h
  have hs := (takeS_ok h 1).2
  obtain ⟨s, a, e, u⟩ := r
  unfold num_Reader_Bool num_Reader_Bool.c boolS
  rw [show num_Reader_Err k (s, a, e, ()) = some (e, (s, a, e, ()), ()) from rfl]
  simp only [Option.bind_some]
  by_cases he : e = 0
  · subst he
    rw [bne_self_eq_false, cond_false, if_neg (by simp), byte_eq hk h']
    simp only [Option.bind_some]
    by_cases hg : numS (s, a, 0, ()) 1 > 1
    · rw [bif_yes hg, if_pos hg, hs, beq_false_of_ne (show numS (s, a, 0, ()) 1 ≠ 1 by omega)]
    · rw [bif_no hg, if_neg hg]
  · rw [cond_true' (by simpa using he), if_pos he]

theorem refbool_eq (k : Nat) {r : Rd} (h : RdOK r) : bedrockref01_Reader_Bool k r = some ((boolS r).1, (boolS r).2, ()) := by
  have h' := h
  have hs := (takeS_ok h 1).2
  have hf := takeS_fine h (n := 1)
  have hz := takeS_err (r := r) 1
  unfold bedrockref01_Reader_Bool bedrockref01_Reader_Bool.c boolS
  show (bedrockref01_Reader_Take k r 1).bind _ = _
  rw [refTake_eq k h]
  simp only [Option.bind_some]
  have hn : numS r 1 = leI (ofBytes (takeS r 1).2) := rfl
  by_cases he : (takeS r 1).1.2.2.1 = 0
  · obtain ⟨f1, _⟩ := hf he
    have he0 : r.2.2.1 = 0 := by
      by_cases h0 : r.2.2.1 = 0
      · exact h0
      · exfalso; unfold takeS at he; rw [if_pos h0] at he; exact h0 he
    have hb : numS r 1 = byteAt (takeS r 1).2 0 := by
      rw [hn, byteAt_eq]
      have hl : (ofBytes (takeS r 1).2).length = 1 := by rw [ofBytes_length, f1]; rfl
      obtain ⟨b, hb⟩ := List.length_eq_one_iff.1 hl
      rw [hb]
      simp [leI]
    rw [he, beq_self_eq_true, cond_true, bif_yes (by rw [f1]; exact ⟨by omega, by decide⟩), ← hb, if_neg (by simpa using he0)]
    by_cases hg : numS r 1 > 1
    · rw [bif_yes hg, if_pos hg]
    · rw [bif_no hg, if_neg hg, cond_true, bif_yes (by rw [f1]; exact ⟨by omega, by decide⟩)]
      generalize takeS r 1 = t at *
      rw [← he]
  · have hn0 : numS r 1 = 0 := by rw [hn, hz he]; rfl
    rw [cond_false' (by simpa using he)]
    rw [cond_false' (by simpa using he), hn0]
    by_cases h0 : r.2.2.1 = 0
    · rw [if_neg (by simpa using h0), if_neg (by omega)]
      rfl
    · rw [if_pos h0]
      unfold takeS
      rw [if_pos h0]

/-! sixteen bits, high first -/
theorem toNat_ofInt16 (A : Nat) (h : A < 65536) : (BitVec.ofInt 16 (A : Int)).toNat = A := toNat_ofInt 16 A h

theorem big16_val {b0 b1 : Int} (h0 : 0 ≤ b0 ∧ b0 < 256) (h1 : 0 ≤ b1 ∧ b1 < 256) : bitsOp .or .u16 (shlOp .u16 (b0 + 256 * b1) 8) (shrOp .u16 (b0 + 256 * b1) 8) = b1 + 256 * b0 := by
  obtain ⟨A, rfl⟩ := Int.eq_ofNat_of_zero_le h0.1
  obtain ⟨B, rfl⟩ := Int.eq_ofNat_of_zero_le h1.1
  have e1 : shlOp .u16 ((A : Int) + 256 * (B : Int)) 8 = ((A * 2 ^ 8 : Nat) : Int) := by
    show IntKind.u16.wrap (((A : Int) + 256 * (B : Int)) * 2 ^ 8) = _
    rw [u16_mod]
    omega
  have e2 : shrOp .u16 ((A : Int) + 256 * (B : Int)) 8 = (B : Int) := by
    unfold shrOp
    rw [show min (8 : Int).toNat IntKind.u16.bits = 8 from rfl, Int.fdiv_eq_ediv_of_nonneg _ (by decide)]
    omega
  rw [e1, e2]
  have e3 : bitsOp .or .u16 ((A * 2 ^ 8 : Nat) : Int) (B : Int) = ((A * 2 ^ 8 ||| B : Nat) : Int) := by
    simp only [bitsOp]
    rw [u16_mod]
    show ((((BitVec.ofInt 16 ((A * 2 ^ 8 : Nat) : Int)) ||| (BitVec.ofInt 16 (B : Int))).toNat : Nat) : Int) % 65536 = _
    rw [BitVec.toNat_or, toNat_ofInt16 _ (by omega), toNat_ofInt16 _ (by omega)]
    have : A * 2 ^ 8 ||| B < 2 ^ 16 := Nat.or_lt_two_pow (by omega) (by omega)
    omega
  rw [e3, Nat.or_comm, or_add (A := B) (B := A) (j := 8) (by omega)]
  omega
end Go.Am
/- NumReads: one read, and all. -/
namespace Go.Am
open Go

abbrev Act1 : Type := Int × Int × Int × ByteArray × Unit

def oneS (r : Rd) (a : Act1) : Rd :=
  if a.1 = 0 then (takeS r 1).1 else if a.1 = 1 then (takeS r 2).1 else if a.1 = 2 then (takeS r 4).1 else if a.1 = 3 then (takeS r 8).1 else if a.1 = 4 then (takeS r 2).1 else
  if a.1 = 5 then (countS r a.2.2.1).1 else if a.1 = 6 then (takeS r a.2.1).1 else if a.1 = 7 then (stringS r a.2.1).1 else if a.1 = 8 then (takeS r 32).1 else if a.1 = 9 then (boolS r).1 else
  if a.1 = 10 then (if r.2.2.1 = 0 then (r.1, r.2.1, a.2.1, ()) else r) else (if r.2.2.1 = 0 ∧ r.2.1 < (r.1.size : Int) then (r.1, r.2.1, 5, ()) else r)

theorem oneS_ok {r : Rd} (h : RdOK r) (a : Act1) : RdOK (oneS r a) ∧ (oneS r a).1 = r.1 := by
  have key : ∀ {c : Prop} [Decidable c] {x y : Rd}, (RdOK x ∧ x.1 = r.1) → (RdOK y ∧ y.1 = r.1) → RdOK (if c then x else y) ∧ (if c then x else y).1 = r.1 := by
    intro c _ x y hx hy
    split
    · exact hx
    · exact hy
  have same : ∀ e, RdOK (r.1, r.2.1, e, ()) ∧ r.1 = r.1 := fun e => ⟨⟨h.1, h.2.1, h.2.2⟩, rfl⟩
  exact key (takeS_ok h _) (key (takeS_ok h _) (key (takeS_ok h _) (key (takeS_ok h _) (key (takeS_ok h _) (key (countS_ok h _) (key (takeS_ok h _) (key (stringS_ok h _) (key (takeS_ok h _) (key (boolS_ok h) (key (key (same _) ⟨h, rfl⟩) (key (same _) ⟨h, rfl⟩)))))))))))

theorem big16_rd {k : Nat} (hk : 9 ≤ k) {r : Rd} (h : RdOK r) : num_Reader_Big16 k r = some (leI (ofBytes (takeS r 2).2).reverse, (takeS r 2).1, ()) := by
  unfold num_Reader_Big16 num_Reader_Big16.c
  show (num_Reader_U16 k r).bind _ = _
  rw [u16_eq hk h]
  simp only [Option.bind_some]
  have e : bitsOp .or .u16 (shlOp .u16 (numS r 2) 8) (shrOp .u16 (numS r 2) 8) = leI (ofBytes (takeS r 2).2).reverse := by
    unfold numS
    have hin := ofBytes_in' (takeS r 2).2
    have hl := ofBytes_length (takeS r 2).2
    rcases takeS_size h 2 with h0 | h0
    · rw [h0] at hl
      rw [List.eq_nil_of_length_eq_zero hl]
      rfl
    · rw [h0] at hl
      match hb : ofBytes (takeS r 2).2, hl with
      | [b0, b1], _ =>
        rw [hb] at hin
        have := big16_val (hin b0 (by simp)) (hin b1 (by simp))
        simpa [leI] using this
  rw [e]

theorem bytesIn_reverse {l : List Int} (h : bytesIn l) : bytesIn l.reverse := fun x hx => h x (List.mem_reverse.1 hx)

theorem hash_rd (k : Nat) {r : Rd} (h : RdOK r) : num_Reader_Hash k r = some ((if (takeS r 32).1.2.2.1 = 0 then ofBytes (takeS r 32).2 else List.replicate 32 0), (takeS r 32).1, ()) := by
  unfold num_Reader_Hash num_Reader_Hash.c
  show (num_Reader_Bytes k 32 r).bind _ = _
  rw [bytes_eq k h]
  simp only [Option.bind_some]
  have e : copyL (List.replicate 32 (0 : Int)) 0 (ofBytes (takeS r 32).2) (Min.min (ofBytes (takeS r 32).2).length 32) = (if (takeS r 32).1.2.2.1 = 0 then ofBytes (takeS r 32).2 else List.replicate 32 0) := by
    have hl := ofBytes_length (takeS r 32).2
    split
    · rename_i he
      obtain ⟨h1, _⟩ := takeS_fine h he
      rw [h1] at hl
      rw [hl]
      unfold copyL
      rw [show Min.min (32 : Int).toNat 32 = 32 from rfl, List.take_zero, List.nil_append, List.take_of_length_le (by rw [hl]; decide), List.drop_eq_nil_of_le (by simp), List.append_nil]
    · rename_i he
      rw [takeS_err 32 he]
      rfl
  rw [e]

theorem one_eq {k : Nat} (hk : 9 ≤ k) {r : Rd} (h : RdOK r) (a : Act1) : bedrocklaw01_one k r a r = some (oneS r a, true, oneS r a, ()) := by
  unfold bedrocklaw01_one bedrocklaw01_one.c oneS
  dsimp only
  by_cases h0 : a.1 = 0
  · rw [cond_true' (by simpa using h0), if_pos h0]
    show (num_Reader_Byte k r).bind _ = _
    rw [byte_eq hk h]
    simp only [Option.bind_some]
    show (bedrockref01_Reader_Take k r 1).bind _ = _
    rw [refTake_eq k h]
    simp only [Option.bind_some]
    have := numS_lt h 1
    rw [show (1 : Int) = ((1 : Nat) : Int) from rfl, refGet_eq hk h 1 (by omega), u64_in (by omega)]
    simp only [Option.bind_some, beq_self_eq_true]
  rw [cond_false' (by simpa using h0), if_neg h0]
  by_cases h1 : a.1 = 1
  · rw [cond_true' (by simpa using h1), if_pos h1]
    show (num_Reader_U16 k r).bind _ = _
    rw [u16_eq hk h]
    simp only [Option.bind_some]
    show (bedrockref01_Reader_Take k r 2).bind _ = _
    rw [refTake_eq k h]
    simp only [Option.bind_some]
    have := numS_lt h 2
    rw [show (2 : Int) = ((2 : Nat) : Int) from rfl, refGet_eq hk h 2 (by omega), u64_in (by omega)]
    simp only [Option.bind_some, beq_self_eq_true]
  rw [cond_false' (by simpa using h1), if_neg h1]
  by_cases h2 : a.1 = 2
  · rw [cond_true' (by simpa using h2), if_pos h2]
    show (num_Reader_U32 k r).bind _ = _
    rw [u32_eq hk h]
    simp only [Option.bind_some]
    show (bedrockref01_Reader_Take k r 4).bind _ = _
    rw [refTake_eq k h]
    simp only [Option.bind_some]
    have := numS_lt h 4
    rw [show (4 : Int) = ((4 : Nat) : Int) from rfl, refGet_eq hk h 4 (by omega), u64_in (by omega)]
    simp only [Option.bind_some, beq_self_eq_true]
  rw [cond_false' (by simpa using h2), if_neg h2]
  by_cases h3 : a.1 = 3
  · rw [cond_true' (by simpa using h3), if_pos h3]
    show (num_Reader_U64 k r).bind _ = _
    rw [u64_eq hk h]
    simp only [Option.bind_some]
    show (bedrockref01_Reader_Take k r 8).bind _ = _
    rw [refTake_eq k h]
    simp only [Option.bind_some]
    rw [show (8 : Int) = ((8 : Nat) : Int) from rfl, refGet_eq hk h 8 (by omega)]
    simp only [Option.bind_some, beq_self_eq_true]
  rw [cond_false' (by simpa using h3), if_neg h3]
  by_cases h4 : a.1 = 4
  · rw [cond_true' (by simpa using h4), if_pos h4]
    show (num_Reader_Big16 k r).bind _ = _
    rw [big16_rd hk h]
    simp only [Option.bind_some]
    show (bedrockref01_Reader_Take k r 2).bind _ = _
    rw [refTake_eq k h]
    simp only [Option.bind_some]
    have hz : (takeS r 2).2.size ≤ 2 := by rcases takeS_size h 2 with h0 | h0 <;> rw [h0] <;> decide
    have hin := ofBytes_in' (takeS r 2).2
    have hl := ofBytes_length (takeS r 2).2
    rw [turned_eq (by omega) (by omega)]
    simp only [Option.bind_some]
    rw [bedrockref01_Get_eq hk _ (by rw [bytesOf_size, List.length_reverse]; omega), ofBytes_bytesOf (bytesIn_reverse hin)]
    have := leI_lt (bytesIn_reverse hin) (m := 2) (by rw [List.length_reverse]; omega)
    rw [u64_in (by omega)]
    simp only [Option.bind_some, beq_self_eq_true]
  rw [cond_false' (by simpa using h4), if_neg h4]
  by_cases h5 : a.1 = 5
  · rw [cond_true' (by simpa using h5), if_pos h5]
    show (num_Reader_Count k a.2.2.1 r).bind _ = _
    rw [rcount_eq hk h]
    simp only [Option.bind_some]
    show (bedrockref01_Reader_Count k r a.2.2.1).bind _ = _
    rw [refcount_eq hk h]
    simp only [Option.bind_some, beq_self_eq_true]
  rw [cond_false' (by simpa using h5), if_neg h5]
  by_cases h6 : a.1 = 6
  · rw [cond_true' (by simpa using h6), if_pos h6]
    show (num_Reader_Bytes k a.2.1 r).bind _ = _
    rw [bytes_eq k h]
    simp only [Option.bind_some]
    show (bedrockref01_Reader_Take k r a.2.1).bind _ = _
    rw [refTake_eq k h]
    simp only [Option.bind_some, strEq_self]
  rw [cond_false' (by simpa using h6), if_neg h6]
  by_cases h7 : a.1 = 7
  · rw [cond_true' (by simpa using h7), if_pos h7]
    show (num_Reader_String k a.2.1 r).bind _ = _
    rw [rstring_eq hk h]
    simp only [Option.bind_some]
    show (bedrockref01_Reader_String k r a.2.1).bind _ = _
    rw [refstring_eq hk h]
    simp only [Option.bind_some, strEq_self]
  rw [cond_false' (by simpa using h7), if_neg h7]
  by_cases h8 : a.1 = 8
  · rw [cond_true' (by simpa using h8), if_pos h8]
    show (num_Reader_Hash k r).bind _ = _
    rw [hash_rd k h]
    simp only [Option.bind_some]
    show (bedrockref01_Reader_Take k r 32).bind _ = _
    rw [refTake_eq k h]
    simp only [Option.bind_some]
    by_cases he : (takeS r 32).1.2.2.1 = 0
    · obtain ⟨g1, _⟩ := takeS_fine h he
      have hl := ofBytes_length (takeS r 32).2
      rw [g1] at hl
      rw [cond_true' (by simpa using he), if_pos he, List.drop_zero, List.take_of_length_le (by rw [hl]; decide), bytesOf_ofBytes, strEq_self, cond_true]
    · rw [cond_false' (by simpa using he), cond_true' (by simpa using he), if_neg he, decide_eq_true rfl]
  rw [cond_false' (by simpa using h8), if_neg h8]
  by_cases h9 : a.1 = 9
  · rw [cond_true' (by simpa using h9), if_pos h9]
    show (num_Reader_Bool k r).bind _ = _
    rw [rbool_eq hk h]
    simp only [Option.bind_some]
    show (bedrockref01_Reader_Bool k r).bind _ = _
    rw [refbool_eq k h]
    simp only [Option.bind_some, beq_self_eq_true]
  rw [cond_false' (by simpa using h9), if_neg h9]
  obtain ⟨s, p, e, u⟩ := r
  obtain ⟨k1, k2, k3⟩ := h
  simp only at k1 k2 k3
  by_cases h10 : a.1 = 10
  · rw [cond_true' (by simpa using h10), if_pos h10]
    unfold num_Reader_Fail num_Reader_Fail.c
    dsimp only
    by_cases he : e = 0
    · rw [cond_true' (by simpa using he)]
      simp only [Option.bind_some]
      rw [if_pos he]
      rw [cond_true' (by simpa using he)]
    · rw [cond_false' (by simpa using he)]
      simp only [Option.bind_some]
      rw [if_neg he]
      rw [cond_false' (by simpa using he)]
  rw [cond_false' (by simpa using h10), if_neg h10]
  unfold num_Reader_End num_Reader_End.c bedrockref01_Reader_End bedrockref01_Reader_End.c
  dsimp only
  have er : ∀ s p e, num_Reader_Err k (s, p, e, ()) = some (e, (s, p, e, ()), ()) := fun _ _ _ => rfl
  have lf : ∀ s p e, num_Reader_Left k (s, p, e, ()) = some (IntKind.i64.wrap ((s.size : Int) - p), (s, p, e, ()), ()) := fun _ _ _ => rfl
  rw [er]
  simp only [Option.bind_some]
  by_cases he : e = 0
  · subst he
    rw [beq_self_eq_true, cond_true, cond_true, lf]
    simp only [Option.bind_some]
    rw [i64_in (by omega)]
    by_cases hp : p < (s.size : Int)
    · rw [bif_yes (by omega), er, if_pos ⟨trivial, hp⟩, bif_yes hp]
      simp only [Option.bind_some, beq_self_eq_true]
    · rw [bif_no (by omega), er, if_neg (by omega), bif_no hp]
      simp only [Option.bind_some, beq_self_eq_true]
  · rw [cond_false' (by simpa using he), er, if_neg (by omega), cond_false' (by simpa using he)]
    simp only [Option.bind_some, beq_self_eq_true]

/-- The reader behind i reads. -/
def readN (s : ByteArray) (l : List Act1) : Nat → Rd
  | 0 => (s, 0, 0, ())
  | i + 1 => oneS (readN s l i) (l.getD i (0, 0, 0, ByteArray.empty, ()))
theorem readN_ok {s : ByteArray} (hs : s.size ≤ 140737488351232) (l : List Act1) : ∀ i, RdOK (readN s l i) ∧ (readN s l i).1 = s
  | 0 => ⟨⟨hs, Int.le_refl _, by simp only [readN]; omega⟩, rfl⟩
  | i + 1 => by
    obtain ⟨h1, h2⟩ := readN_ok hs l i
    obtain ⟨h3, h4⟩ := oneS_ok h1 (l.getD i (0, 0, 0, ByteArray.empty, ()))
    exact ⟨h3, h4.trans h2⟩

theorem numReads_true {s : ByteArray} (hs : s.size ≤ 140737488351232) {l : List Act1} (hl : l.length ≤ 140737488351232) : bedrocklaw01_NumReads (l.length + 20) s l = some (true, ()) := by
  unfold bedrocklaw01_NumReads bedrocklaw01_NumReads.c
  generalize hk : l.length + 20 = k
  rw [show num_NewReader k s = some ((s, 0, 0, ()), ()) from rfl]
  simp only [Option.bind_some]
  have hp : bedrocklaw01_NumReads.p0 k (s, l, (s, 0, 0, ()), ()) = some (.inr (s, l, (s, 0, 0, ()), ())) := by
    unfold bedrocklaw01_NumReads.p0
    simp only [bedrocklaw01_NumReads.p0.r]
    rw [awake01 (by omega)]
    rfl
  rw [hp]
  simp only [Option.bind_some]
  have hloop : bedrocklaw01_NumReads.l1 k k (s, l, (0 : Int), (s, 0, 0, ()), (s, 0, 0, ()), ()) = some (.inr ()) := by
    refine loop_from0 (r := bedrocklaw01_NumReads.l1.r k) (fun i => (s, l, (i : Int), readN s l i, readN s l i, ())) l.length _ ?_ ?_ (by omega)
    · intro i hi kn ke
      obtain ⟨h1, h2⟩ := readN_ok hs l i
      obtain ⟨h3, h4⟩ := readN_ok hs l (i + 1)
      simp only [bedrocklaw01_NumReads.l1.r]
      rw [bif_yes (by omega), bif_yes (by omega), show (i : Int).toNat = i by omega]
      show (bedrocklaw01_one k (readN s l i) (l.getD i (0, 0, 0, ByteArray.empty, ())) (readN s l i)).bind _ = _
      rw [one_eq (by omega) h1]
      have e : oneS (readN s l i) (l.getD i (0, 0, 0, ByteArray.empty, ())) = readN s l (i + 1) := rfl
      rw [e]
      simp only [Option.bind_some, Bool.not_true, cond_false]
      generalize readN s l (i + 1) = r at *
      obtain ⟨s', p, q, u⟩ := r
      simp only at h4
      subst h4
      rw [show num_Reader_Err k (s', p, q, ()) = some (q, (s', p, q, ()), ()) from rfl]
      simp only [Option.bind_some, bne_self_eq_false, cond_false]
      rw [show num_Reader_At k (s', p, q, ()) = some (p, (s', p, q, ()), ()) from rfl]
      simp only [Option.bind_some, bne_self_eq_false, cond_false]
      rw [show num_Reader_Left k (s', p, q, ()) = some (IntKind.i64.wrap ((s'.size : Int) - p), (s', p, q, ()), ()) from rfl]
      simp only [Option.bind_some, bne_self_eq_false, cond_false]
      rw [i64_in (n := (i : Int) + 1) (by omega)]
      rfl
    · intro kn ke
      simp only [bedrocklaw01_NumReads.l1.r]
      rw [bif_no (by omega)]
  rw [hloop]
  rfl
end Go.Am
/- The program of the seat: strings.Builder, laid. -/
namespace Go.Am
open Go Go.Proofs Go.Shelf
set_option maxRecDepth 100000
def Bld.ren : Ren := ⟨fun n => if n = 240 then 120 else if n = 276 then 125 else if n = 169 then 109 else n, fun n => if n = 72 then 130 else if n = 70 then 128 else if n = 164 then 153 else if n = 37 then 46 else if n = 127 then 145 else n, fun n => n⟩
theorem Bld.lays240 : Lays.n240 Try.prog Bld.ren := by
  constructor <;> first | kernel_rfl | (intro w; kernel_rfl)
theorem Bld.lays169 : Lays.n169 Try.prog Bld.ren := by
  constructor <;> first | kernel_rfl | (intro w; kernel_rfl)
theorem Bld.x72 : Builder.X72 Try.prog Bld.ren where
  sizeBuilder := by kernel_rfl
  liesBuilder := by kernel_rfl
theorem Bld.extra : Builder.Extra Try.prog Bld.ren where
  sizeBuilder := by kernel_rfl
  liesBuilder := by kernel_rfl
  t5 := by kernel_rfl
  a5 := fun w => by kernel_rfl
  z5 := fun w => by kernel_rfl
  v5 := fun w => by kernel_rfl
  infoByte := by kernel_rfl
  cellsByte := by kernel_rfl
  sizeByte := by kernel_rfl
  neB5 := by decide
theorem Bld.copyCheck : SemOK Try.prog 120 (ccSem 132 2) := copyCheck_ok Bld.lays240 Bld.x72 (by kernel_rfl) (by constructor <;> kernel_rfl)
theorem Bld.string : SemOK Try.prog 109 strSem := string_ok Bld.lays169 Bld.extra rfl (by constructor <;> kernel_rfl)
end Go.Am
