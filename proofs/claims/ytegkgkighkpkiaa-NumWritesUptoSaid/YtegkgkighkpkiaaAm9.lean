/- A part of a proof: a machine of abstract values that tells what functions of the program compute, and the plain facts on them. -/
import Derived.Test.YtegkgkighkpkiaaAm8
import Derived.KernelRfl
set_option linter.unusedVariables false
set_option linter.unusedSimpArgs false
set_option linter.unnecessarySimpa false
set_option linter.unusedSectionVars false
namespace Go.Am
open Go Go.Proofs
set_option maxRecDepth 100000
/-! 48 bedrock/num.NewReader · with blocks -/
abbrev num_NewReader.τ : Type := ((ByteArray × (Int × (Int × Unit))) × Unit)
def num_NewReader.c (k : Nat) {ρ : Type} (s : ByteArray) (K : num_NewReader.τ → Option ρ) : Option ρ :=
  K ((s, ((0 : Int), ((0 : Int), ()))), ())
def num_NewReader (k : Nat) (s : ByteArray) : Option num_NewReader.τ := num_NewReader.c k s some
def num_NewReader.T : CallT := ⟨[.dat .str], [], 0⟩
def num_NewReader.os : List Out := [⟨.ret, [.auto 0], ⟨[.ptr 0 []], [.dat (.pair .str (.pair (.int .i64) (.pair (.int .i64) .unit)))]⟩⟩]
def num_NewReader.sem (k : Nat) : CallSem := callH num_NewReader.T num_NewReader.os fun x => num_NewReader k x.1
noncomputable def num_NewReader.ctx (k : Nat) : Ctx := ⟨Try.prog, gam []⟩
theorem num_NewReader.gok (k : Nat) : ∀ f, SemOK Try.prog f ((num_NewReader.ctx k).Γ f) := gam_nil
def num_NewReader.ann (k : Nat) : Ann := .nil
theorem num_NewReader.body (k : Nat) : BodyH (num_NewReader.ctx k) Try.f48 (Func.code Try.f48) (num_NewReader.ann k) num_NewReader.T num_NewReader.os (fun x K => num_NewReader.c k x.1 K) := by
  intro ρ x K; kernel_rfl
theorem num_NewReader.sem_ok (k : Nat) : SemOK Try.prog 48 (num_NewReader.sem k) :=
  callH_ok (C := num_NewReader.ctx k) (num_NewReader.gok k) Try.mix (c := Func.code Try.f48) (ann := num_NewReader.ann k) (T := num_NewReader.T) (os := num_NewReader.os) (fun x K => num_NewReader.c k x.1 K) Try.func48 (by kernel_rfl) (by kernel_rfl) AnnOK.nil (num_NewReader.body k) (by kernel_rfl) (by kernel_rfl) (by kernel_rfl)

/-! 50 (*bedrock/num.Reader).Err · with blocks -/
abbrev num_Reader_Err.τ : Type := (Int × (ByteArray × (Int × (Int × Unit))) × Unit)
def num_Reader_Err.c (k : Nat) {ρ : Type} (b0 : (ByteArray × (Int × (Int × Unit)))) (K : num_Reader_Err.τ → Option ρ) : Option ρ :=
  let v0 : Int := b0.2.2.1
  K (v0, ((b0.1, (b0.2.1, (b0.2.2.1, ()))), ()))
def num_Reader_Err (k : Nat) (b0 : (ByteArray × (Int × (Int × Unit)))) : Option num_Reader_Err.τ := num_Reader_Err.c k b0 some
def num_Reader_Err.T : CallT := ⟨[.ptr 0 []], [.dat (.pair .str (.pair (.int .i64) (.pair (.int .i64) .unit)))], 1⟩
def num_Reader_Err.os : List Out := [⟨.ret, [.freeze (.slot 0), .auto 1], ⟨[.dat (.int .i64)], [.dat (.pair .str (.pair (.int .i64) (.pair (.int .i64) .unit)))]⟩⟩]
def num_Reader_Err.sem (k : Nat) : CallSem := callH num_Reader_Err.T num_Reader_Err.os fun x => num_Reader_Err k x.1
noncomputable def num_Reader_Err.ctx (k : Nat) : Ctx := ⟨Try.prog, gam []⟩
theorem num_Reader_Err.gok (k : Nat) : ∀ f, SemOK Try.prog f ((num_Reader_Err.ctx k).Γ f) := gam_nil
def num_Reader_Err.ann (k : Nat) : Ann := .nil
theorem num_Reader_Err.body (k : Nat) : BodyH (num_Reader_Err.ctx k) Try.f50 (Func.code Try.f50) (num_Reader_Err.ann k) num_Reader_Err.T num_Reader_Err.os (fun x K => num_Reader_Err.c k x.1 K) := by
  intro ρ x K; kernel_rfl
theorem num_Reader_Err.sem_ok (k : Nat) : SemOK Try.prog 50 (num_Reader_Err.sem k) :=
  callH_ok (C := num_Reader_Err.ctx k) (num_Reader_Err.gok k) Try.mix (c := Func.code Try.f50) (ann := num_Reader_Err.ann k) (T := num_Reader_Err.T) (os := num_Reader_Err.os) (fun x K => num_Reader_Err.c k x.1 K) Try.func50 (by kernel_rfl) (by kernel_rfl) AnnOK.nil (num_Reader_Err.body k) (by kernel_rfl) (by kernel_rfl) (by kernel_rfl)

/-! 52 (*bedrock/num.Reader).Left · with blocks -/
abbrev num_Reader_Left.τ : Type := (Int × (ByteArray × (Int × (Int × Unit))) × Unit)
def num_Reader_Left.c (k : Nat) {ρ : Type} (b0 : (ByteArray × (Int × (Int × Unit)))) (K : num_Reader_Left.τ → Option ρ) : Option ρ :=
  let v0 : ByteArray := b0.1
  let v1 : Int := b0.2.1
  let v2 : Int := (IntKind.wrap IntKind.i64 ((((ByteArray.size v0) : Nat) : Int) - v1))
  K (v2, ((b0.1, (b0.2.1, (b0.2.2.1, ()))), ()))
def num_Reader_Left (k : Nat) (b0 : (ByteArray × (Int × (Int × Unit)))) : Option num_Reader_Left.τ := num_Reader_Left.c k b0 some
def num_Reader_Left.T : CallT := ⟨[.ptr 0 []], [.dat (.pair .str (.pair (.int .i64) (.pair (.int .i64) .unit)))], 1⟩
def num_Reader_Left.os : List Out := [⟨.ret, [.freeze (.slot 0), .auto 1], ⟨[.dat (.int .i64)], [.dat (.pair .str (.pair (.int .i64) (.pair (.int .i64) .unit)))]⟩⟩]
def num_Reader_Left.sem (k : Nat) : CallSem := callH num_Reader_Left.T num_Reader_Left.os fun x => num_Reader_Left k x.1
noncomputable def num_Reader_Left.ctx (k : Nat) : Ctx := ⟨Try.prog, gam []⟩
theorem num_Reader_Left.gok (k : Nat) : ∀ f, SemOK Try.prog f ((num_Reader_Left.ctx k).Γ f) := gam_nil
def num_Reader_Left.ann (k : Nat) : Ann := .nil
theorem num_Reader_Left.body (k : Nat) : BodyH (num_Reader_Left.ctx k) Try.f52 (Func.code Try.f52) (num_Reader_Left.ann k) num_Reader_Left.T num_Reader_Left.os (fun x K => num_Reader_Left.c k x.1 K) := by
  intro ρ x K; kernel_rfl
theorem num_Reader_Left.sem_ok (k : Nat) : SemOK Try.prog 52 (num_Reader_Left.sem k) :=
  callH_ok (C := num_Reader_Left.ctx k) (num_Reader_Left.gok k) Try.mix (c := Func.code Try.f52) (ann := num_Reader_Left.ann k) (T := num_Reader_Left.T) (os := num_Reader_Left.os) (fun x K => num_Reader_Left.c k x.1 K) Try.func52 (by kernel_rfl) (by kernel_rfl) AnnOK.nil (num_Reader_Left.body k) (by kernel_rfl) (by kernel_rfl) (by kernel_rfl)

/-! 72 (*bedrock/num.Reader).Bytes · with blocks -/
abbrev num_Reader_Bytes.τ : Type := (ByteArray × (ByteArray × (Int × (Int × Unit))) × Unit)
def num_Reader_Bytes.c (k : Nat) {ρ : Type} (n : Int) (b0 : (ByteArray × (Int × (Int × Unit)))) (K : num_Reader_Bytes.τ → Option ρ) : Option ρ :=
  (num_Reader_Err k (b0.1, (b0.2.1, (b0.2.2.1, ())))).bind fun t0 => bif (t0.1 != (0 : Int)) then (K ((⟨(List.toArray [])⟩ : ByteArray), ((t0.2.1.1, (t0.2.1.2.1, (t0.2.1.2.2.1, ()))), ()))) else (bif (decide (n < (0 : Int))) then (K ((⟨(List.toArray [])⟩ : ByteArray), ((t0.2.1.1, (t0.2.1.2.1, ((1 : Int), ()))), ()))) else ((num_Reader_Left k (t0.2.1.1, (t0.2.1.2.1, (t0.2.1.2.2.1, ())))).bind fun t1 => bif (decide (n > t1.1)) then (K ((⟨(List.toArray [])⟩ : ByteArray), ((t1.2.1.1, (t1.2.1.2.1, ((4 : Int), ()))), ()))) else (let v2 : Int := t1.2.1.2.1
  let v3 : Int := (IntKind.wrap IntKind.i64 (v2 + n))
  let v4 : ByteArray := t1.2.1.1
  let v5 : Int := (IntKind.wrap IntKind.i64 (v3 - n))
  bif (decide (((0 : Int) ≤ v5) ∧ ((v5 ≤ v3) ∧ (v3 ≤ (((ByteArray.size v4) : Nat) : Int))))) then (K ((ByteArray.extract v4 (Int.toNat v5) (Int.toNat v3)), ((t1.2.1.1, (v3, (t1.2.1.2.2.1, ()))), ()))) else (none))))
def num_Reader_Bytes (k : Nat) (n : Int) (b0 : (ByteArray × (Int × (Int × Unit)))) : Option num_Reader_Bytes.τ := num_Reader_Bytes.c k n b0 some
def num_Reader_Bytes.T : CallT := ⟨[.ptr 0 [], .dat (.int .i64)], [.dat (.pair .str (.pair (.int .i64) (.pair (.int .i64) .unit)))], 1⟩
def num_Reader_Bytes.os : List Out := [⟨.ret, [.freeze (.slot 0), .auto 1], ⟨[.dat .str], [.dat (.pair .str (.pair (.int .i64) (.pair (.int .i64) .unit)))]⟩⟩]
def num_Reader_Bytes.sem (k : Nat) : CallSem := callH num_Reader_Bytes.T num_Reader_Bytes.os fun x => num_Reader_Bytes k x.1 x.2.1
noncomputable def num_Reader_Bytes.ctx (k : Nat) : Ctx := ⟨Try.prog, gam [(50, (num_Reader_Err.sem k)), (52, (num_Reader_Left.sem k))]⟩
theorem num_Reader_Bytes.gok (k : Nat) : ∀ f, SemOK Try.prog f ((num_Reader_Bytes.ctx k).Γ f) := (gam_cons (num_Reader_Err.sem_ok k) (gam_cons (num_Reader_Left.sem_ok k) gam_nil))
def num_Reader_Bytes.ann (k : Nat) : Ann := .nil
theorem num_Reader_Bytes.body (k : Nat) : BodyH (num_Reader_Bytes.ctx k) Try.f72 (Func.code Try.f72) (num_Reader_Bytes.ann k) num_Reader_Bytes.T num_Reader_Bytes.os (fun x K => num_Reader_Bytes.c k x.1 x.2.1 K) := by
  intro ρ x K; kernel_rfl
theorem num_Reader_Bytes.sem_ok (k : Nat) : SemOK Try.prog 72 (num_Reader_Bytes.sem k) :=
  callH_ok (C := num_Reader_Bytes.ctx k) (num_Reader_Bytes.gok k) Try.mix (c := Func.code Try.f72) (ann := num_Reader_Bytes.ann k) (T := num_Reader_Bytes.T) (os := num_Reader_Bytes.os) (fun x K => num_Reader_Bytes.c k x.1 x.2.1 K) Try.func72 (by kernel_rfl) (by kernel_rfl) AnnOK.nil (num_Reader_Bytes.body k) (by kernel_rfl) (by kernel_rfl) (by kernel_rfl)

/-! 66 (*bedrock/num.Reader).Byte · with blocks -/
abbrev num_Reader_Byte.τ : Type := (Int × (ByteArray × (Int × (Int × Unit))) × Unit)
def num_Reader_Byte.c (k : Nat) {ρ : Type} (b0 : (ByteArray × (Int × (Int × Unit)))) (K : num_Reader_Byte.τ → Option ρ) : Option ρ :=
  (num_Reader_Bytes k (1 : Int) (b0.1, (b0.2.1, (b0.2.2.1, ())))).bind fun t0 => (num_take k t0.1).bind fun t1 => let v2 : Int := (IntKind.wrap IntKind.u8 t1.1)
  K (v2, ((t0.2.1.1, (t0.2.1.2.1, (t0.2.1.2.2.1, ()))), ()))
def num_Reader_Byte (k : Nat) (b0 : (ByteArray × (Int × (Int × Unit)))) : Option num_Reader_Byte.τ := num_Reader_Byte.c k b0 some
def num_Reader_Byte.T : CallT := ⟨[.ptr 0 []], [.dat (.pair .str (.pair (.int .i64) (.pair (.int .i64) .unit)))], 1⟩
def num_Reader_Byte.os : List Out := [⟨.ret, [.freeze (.slot 0), .auto 1], ⟨[.dat (.int .u8)], [.dat (.pair .str (.pair (.int .i64) (.pair (.int .i64) .unit)))]⟩⟩]
def num_Reader_Byte.sem (k : Nat) : CallSem := callH num_Reader_Byte.T num_Reader_Byte.os fun x => num_Reader_Byte k x.1
noncomputable def num_Reader_Byte.ctx (k : Nat) : Ctx := ⟨Try.prog, gam [(72, (num_Reader_Bytes.sem k)), (78, (num_take.sem k))]⟩
theorem num_Reader_Byte.gok (k : Nat) : ∀ f, SemOK Try.prog f ((num_Reader_Byte.ctx k).Γ f) := (gam_cons (num_Reader_Bytes.sem_ok k) (gam_cons (num_take.sem_ok k) gam_nil))
def num_Reader_Byte.ann (k : Nat) : Ann := .nil
theorem num_Reader_Byte.body (k : Nat) : BodyH (num_Reader_Byte.ctx k) Try.f66 (Func.code Try.f66) (num_Reader_Byte.ann k) num_Reader_Byte.T num_Reader_Byte.os (fun x K => num_Reader_Byte.c k x.1 K) := by
  intro ρ x K; kernel_rfl
theorem num_Reader_Byte.sem_ok (k : Nat) : SemOK Try.prog 66 (num_Reader_Byte.sem k) :=
  callH_ok (C := num_Reader_Byte.ctx k) (num_Reader_Byte.gok k) Try.mix (c := Func.code Try.f66) (ann := num_Reader_Byte.ann k) (T := num_Reader_Byte.T) (os := num_Reader_Byte.os) (fun x K => num_Reader_Byte.c k x.1 K) Try.func66 (by kernel_rfl) (by kernel_rfl) AnnOK.nil (num_Reader_Byte.body k) (by kernel_rfl) (by kernel_rfl) (by kernel_rfl)

/-! 93 (bedrock/bedrockref01.Reader).Take -/
def bedrockref01_Reader_Take.c (k : Nat) {ρ : Type} (r : (ByteArray × (Int × (Int × Unit)))) (n : Int) (K : (ByteArray × (Int × (Int × Unit))) × ByteArray × Unit → Option ρ) : Option ρ :=
  let v0 : Int := r.2.2.1
  bif (v0 != (0 : Int)) then (K ((r.1, (r.2.1, (r.2.2.1, ()))), ((⟨(List.toArray [])⟩ : ByteArray), ()))) else (bif (decide (n < (0 : Int))) then (K ((r.1, (r.2.1, ((1 : Int), ()))), ((⟨(List.toArray [])⟩ : ByteArray), ()))) else (let v1 : ByteArray := r.1
  let v2 : Int := r.2.1
  let v3 : Int := (IntKind.wrap IntKind.i64 ((((ByteArray.size v1) : Nat) : Int) - v2))
  bif (decide (v3 < n)) then (K ((r.1, (r.2.1, ((4 : Int), ()))), ((⟨(List.toArray [])⟩ : ByteArray), ()))) else (let v4 : Int := r.2.1
  let v5 : Int := (IntKind.wrap IntKind.i64 (v4 + n))
  let v6 : ByteArray := r.1
  let v7 : Int := (IntKind.wrap IntKind.i64 (v5 - n))
  bif (decide (((0 : Int) ≤ v7) ∧ ((v7 ≤ v5) ∧ (v5 ≤ (((ByteArray.size v6) : Nat) : Int))))) then (K ((r.1, (v5, (r.2.2.1, ()))), ((ByteArray.extract v6 (Int.toNat v7) (Int.toNat v5)), ()))) else (none))))
def bedrockref01_Reader_Take (k : Nat) (r : (ByteArray × (Int × (Int × Unit)))) (n : Int) : Option ((ByteArray × (Int × (Int × Unit))) × ByteArray × Unit) := bedrockref01_Reader_Take.c k r n some
def bedrockref01_Reader_Take.tin : List Ty := [(.pair .str (.pair (.int .i64) (.pair (.int .i64) .unit))), (.int .i64)]
def bedrockref01_Reader_Take.tout : List Ty := [(.pair .str (.pair (.int .i64) (.pair (.int .i64) .unit))), .str]
def bedrockref01_Reader_Take.sem (k : Nat) : CallSem := callPure bedrockref01_Reader_Take.tin bedrockref01_Reader_Take.tout fun x => bedrockref01_Reader_Take k x.1 x.2.1
noncomputable def bedrockref01_Reader_Take.ctx (k : Nat) : Ctx := ⟨Try.prog, gam []⟩
theorem bedrockref01_Reader_Take.gok (k : Nat) : ∀ f, SemOK Try.prog f ((bedrockref01_Reader_Take.ctx k).Γ f) := gam_nil
def bedrockref01_Reader_Take.ann (k : Nat) : Ann := .nil
theorem bedrockref01_Reader_Take.body (k : Nat) : BodyIs (bedrockref01_Reader_Take.ctx k) Try.f93 (Func.code Try.f93) (bedrockref01_Reader_Take.ann k) bedrockref01_Reader_Take.tin bedrockref01_Reader_Take.tout (fun x K => bedrockref01_Reader_Take.c k x.1 x.2.1 K) := by
  intro ρ x K; kernel_rfl
theorem bedrockref01_Reader_Take.sem_ok (k : Nat) : SemOK Try.prog 93 (bedrockref01_Reader_Take.sem k) :=
  callPure_ok (C := bedrockref01_Reader_Take.ctx k) (bedrockref01_Reader_Take.gok k) Try.mix (c := Func.code Try.f93) (ann := bedrockref01_Reader_Take.ann k) (tin := bedrockref01_Reader_Take.tin) (tout := bedrockref01_Reader_Take.tout) (fun x K => bedrockref01_Reader_Take.c k x.1 x.2.1 K) Try.func93 (by kernel_rfl) (by kernel_rfl) AnnOK.nil (bedrockref01_Reader_Take.body k)

/-! 67 (*bedrock/num.Reader).U16 · with blocks -/
abbrev num_Reader_U16.τ : Type := (Int × (ByteArray × (Int × (Int × Unit))) × Unit)
def num_Reader_U16.c (k : Nat) {ρ : Type} (b0 : (ByteArray × (Int × (Int × Unit)))) (K : num_Reader_U16.τ → Option ρ) : Option ρ :=
  (num_Reader_Bytes k (2 : Int) (b0.1, (b0.2.1, (b0.2.2.1, ())))).bind fun t0 => (num_take k t0.1).bind fun t1 => let v2 : Int := (IntKind.wrap IntKind.u16 t1.1)
  K (v2, ((t0.2.1.1, (t0.2.1.2.1, (t0.2.1.2.2.1, ()))), ()))
def num_Reader_U16 (k : Nat) (b0 : (ByteArray × (Int × (Int × Unit)))) : Option num_Reader_U16.τ := num_Reader_U16.c k b0 some
def num_Reader_U16.T : CallT := ⟨[.ptr 0 []], [.dat (.pair .str (.pair (.int .i64) (.pair (.int .i64) .unit)))], 1⟩
def num_Reader_U16.os : List Out := [⟨.ret, [.freeze (.slot 0), .auto 1], ⟨[.dat (.int .u16)], [.dat (.pair .str (.pair (.int .i64) (.pair (.int .i64) .unit)))]⟩⟩]
def num_Reader_U16.sem (k : Nat) : CallSem := callH num_Reader_U16.T num_Reader_U16.os fun x => num_Reader_U16 k x.1
noncomputable def num_Reader_U16.ctx (k : Nat) : Ctx := ⟨Try.prog, gam [(72, (num_Reader_Bytes.sem k)), (78, (num_take.sem k))]⟩
theorem num_Reader_U16.gok (k : Nat) : ∀ f, SemOK Try.prog f ((num_Reader_U16.ctx k).Γ f) := (gam_cons (num_Reader_Bytes.sem_ok k) (gam_cons (num_take.sem_ok k) gam_nil))
def num_Reader_U16.ann (k : Nat) : Ann := .nil
theorem num_Reader_U16.body (k : Nat) : BodyH (num_Reader_U16.ctx k) Try.f67 (Func.code Try.f67) (num_Reader_U16.ann k) num_Reader_U16.T num_Reader_U16.os (fun x K => num_Reader_U16.c k x.1 K) := by
  intro ρ x K; kernel_rfl
theorem num_Reader_U16.sem_ok (k : Nat) : SemOK Try.prog 67 (num_Reader_U16.sem k) :=
  callH_ok (C := num_Reader_U16.ctx k) (num_Reader_U16.gok k) Try.mix (c := Func.code Try.f67) (ann := num_Reader_U16.ann k) (T := num_Reader_U16.T) (os := num_Reader_U16.os) (fun x K => num_Reader_U16.c k x.1 K) Try.func67 (by kernel_rfl) (by kernel_rfl) AnnOK.nil (num_Reader_U16.body k) (by kernel_rfl) (by kernel_rfl) (by kernel_rfl)

/-! 68 (*bedrock/num.Reader).U32 · with blocks -/
abbrev num_Reader_U32.τ : Type := (Int × (ByteArray × (Int × (Int × Unit))) × Unit)
def num_Reader_U32.c (k : Nat) {ρ : Type} (b0 : (ByteArray × (Int × (Int × Unit)))) (K : num_Reader_U32.τ → Option ρ) : Option ρ :=
  (num_Reader_Bytes k (4 : Int) (b0.1, (b0.2.1, (b0.2.2.1, ())))).bind fun t0 => (num_take k t0.1).bind fun t1 => let v2 : Int := (IntKind.wrap IntKind.u32 t1.1)
  K (v2, ((t0.2.1.1, (t0.2.1.2.1, (t0.2.1.2.2.1, ()))), ()))
def num_Reader_U32 (k : Nat) (b0 : (ByteArray × (Int × (Int × Unit)))) : Option num_Reader_U32.τ := num_Reader_U32.c k b0 some
def num_Reader_U32.T : CallT := ⟨[.ptr 0 []], [.dat (.pair .str (.pair (.int .i64) (.pair (.int .i64) .unit)))], 1⟩
def num_Reader_U32.os : List Out := [⟨.ret, [.freeze (.slot 0), .auto 1], ⟨[.dat (.int .u32)], [.dat (.pair .str (.pair (.int .i64) (.pair (.int .i64) .unit)))]⟩⟩]
def num_Reader_U32.sem (k : Nat) : CallSem := callH num_Reader_U32.T num_Reader_U32.os fun x => num_Reader_U32 k x.1
noncomputable def num_Reader_U32.ctx (k : Nat) : Ctx := ⟨Try.prog, gam [(72, (num_Reader_Bytes.sem k)), (78, (num_take.sem k))]⟩
theorem num_Reader_U32.gok (k : Nat) : ∀ f, SemOK Try.prog f ((num_Reader_U32.ctx k).Γ f) := (gam_cons (num_Reader_Bytes.sem_ok k) (gam_cons (num_take.sem_ok k) gam_nil))
def num_Reader_U32.ann (k : Nat) : Ann := .nil
theorem num_Reader_U32.body (k : Nat) : BodyH (num_Reader_U32.ctx k) Try.f68 (Func.code Try.f68) (num_Reader_U32.ann k) num_Reader_U32.T num_Reader_U32.os (fun x K => num_Reader_U32.c k x.1 K) := by
  intro ρ x K; kernel_rfl
theorem num_Reader_U32.sem_ok (k : Nat) : SemOK Try.prog 68 (num_Reader_U32.sem k) :=
  callH_ok (C := num_Reader_U32.ctx k) (num_Reader_U32.gok k) Try.mix (c := Func.code Try.f68) (ann := num_Reader_U32.ann k) (T := num_Reader_U32.T) (os := num_Reader_U32.os) (fun x K => num_Reader_U32.c k x.1 K) Try.func68 (by kernel_rfl) (by kernel_rfl) AnnOK.nil (num_Reader_U32.body k) (by kernel_rfl) (by kernel_rfl) (by kernel_rfl)

/-! 69 (*bedrock/num.Reader).U64 · with blocks -/
abbrev num_Reader_U64.τ : Type := (Int × (ByteArray × (Int × (Int × Unit))) × Unit)
def num_Reader_U64.c (k : Nat) {ρ : Type} (b0 : (ByteArray × (Int × (Int × Unit)))) (K : num_Reader_U64.τ → Option ρ) : Option ρ :=
  (num_Reader_Bytes k (8 : Int) (b0.1, (b0.2.1, (b0.2.2.1, ())))).bind fun t0 => (num_take k t0.1).bind fun t1 => K (t1.1, ((t0.2.1.1, (t0.2.1.2.1, (t0.2.1.2.2.1, ()))), ()))
def num_Reader_U64 (k : Nat) (b0 : (ByteArray × (Int × (Int × Unit)))) : Option num_Reader_U64.τ := num_Reader_U64.c k b0 some
def num_Reader_U64.T : CallT := ⟨[.ptr 0 []], [.dat (.pair .str (.pair (.int .i64) (.pair (.int .i64) .unit)))], 1⟩
def num_Reader_U64.os : List Out := [⟨.ret, [.freeze (.slot 0), .auto 1], ⟨[.dat (.int .u64)], [.dat (.pair .str (.pair (.int .i64) (.pair (.int .i64) .unit)))]⟩⟩]
def num_Reader_U64.sem (k : Nat) : CallSem := callH num_Reader_U64.T num_Reader_U64.os fun x => num_Reader_U64 k x.1
noncomputable def num_Reader_U64.ctx (k : Nat) : Ctx := ⟨Try.prog, gam [(72, (num_Reader_Bytes.sem k)), (78, (num_take.sem k))]⟩
theorem num_Reader_U64.gok (k : Nat) : ∀ f, SemOK Try.prog f ((num_Reader_U64.ctx k).Γ f) := (gam_cons (num_Reader_Bytes.sem_ok k) (gam_cons (num_take.sem_ok k) gam_nil))
def num_Reader_U64.ann (k : Nat) : Ann := .nil
theorem num_Reader_U64.body (k : Nat) : BodyH (num_Reader_U64.ctx k) Try.f69 (Func.code Try.f69) (num_Reader_U64.ann k) num_Reader_U64.T num_Reader_U64.os (fun x K => num_Reader_U64.c k x.1 K) := by
  intro ρ x K; kernel_rfl
theorem num_Reader_U64.sem_ok (k : Nat) : SemOK Try.prog 69 (num_Reader_U64.sem k) :=
  callH_ok (C := num_Reader_U64.ctx k) (num_Reader_U64.gok k) Try.mix (c := Func.code Try.f69) (ann := num_Reader_U64.ann k) (T := num_Reader_U64.T) (os := num_Reader_U64.os) (fun x K => num_Reader_U64.c k x.1 K) Try.func69 (by kernel_rfl) (by kernel_rfl) AnnOK.nil (num_Reader_U64.body k) (by kernel_rfl) (by kernel_rfl) (by kernel_rfl)

/-! 70 (*bedrock/num.Reader).Big16 · with blocks -/
abbrev num_Reader_Big16.τ : Type := (Int × (ByteArray × (Int × (Int × Unit))) × Unit)
def num_Reader_Big16.c (k : Nat) {ρ : Type} (b0 : (ByteArray × (Int × (Int × Unit)))) (K : num_Reader_Big16.τ → Option ρ) : Option ρ :=
  (num_Reader_U16 k (b0.1, (b0.2.1, (b0.2.2.1, ())))).bind fun t0 => let v1 : Int := (shlOp IntKind.u16 t0.1 (8 : Int))
  let v2 : Int := (shrOp IntKind.u16 t0.1 (8 : Int))
  K ((bitsOp BinOp.or IntKind.u16 v1 v2), ((t0.2.1.1, (t0.2.1.2.1, (t0.2.1.2.2.1, ()))), ()))
def num_Reader_Big16 (k : Nat) (b0 : (ByteArray × (Int × (Int × Unit)))) : Option num_Reader_Big16.τ := num_Reader_Big16.c k b0 some
def num_Reader_Big16.T : CallT := ⟨[.ptr 0 []], [.dat (.pair .str (.pair (.int .i64) (.pair (.int .i64) .unit)))], 1⟩
def num_Reader_Big16.os : List Out := [⟨.ret, [.freeze (.slot 0), .auto 1], ⟨[.dat (.int .u16)], [.dat (.pair .str (.pair (.int .i64) (.pair (.int .i64) .unit)))]⟩⟩]
def num_Reader_Big16.sem (k : Nat) : CallSem := callH num_Reader_Big16.T num_Reader_Big16.os fun x => num_Reader_Big16 k x.1
noncomputable def num_Reader_Big16.ctx (k : Nat) : Ctx := ⟨Try.prog, gam [(67, (num_Reader_U16.sem k))]⟩
theorem num_Reader_Big16.gok (k : Nat) : ∀ f, SemOK Try.prog f ((num_Reader_Big16.ctx k).Γ f) := (gam_cons (num_Reader_U16.sem_ok k) gam_nil)
def num_Reader_Big16.ann (k : Nat) : Ann := .nil
theorem num_Reader_Big16.body (k : Nat) : BodyH (num_Reader_Big16.ctx k) Try.f70 (Func.code Try.f70) (num_Reader_Big16.ann k) num_Reader_Big16.T num_Reader_Big16.os (fun x K => num_Reader_Big16.c k x.1 K) := by
  intro ρ x K; kernel_rfl
theorem num_Reader_Big16.sem_ok (k : Nat) : SemOK Try.prog 70 (num_Reader_Big16.sem k) :=
  callH_ok (C := num_Reader_Big16.ctx k) (num_Reader_Big16.gok k) Try.mix (c := Func.code Try.f70) (ann := num_Reader_Big16.ann k) (T := num_Reader_Big16.T) (os := num_Reader_Big16.os) (fun x K => num_Reader_Big16.c k x.1 K) Try.func70 (by kernel_rfl) (by kernel_rfl) AnnOK.nil (num_Reader_Big16.body k) (by kernel_rfl) (by kernel_rfl) (by kernel_rfl)

/-! 71 (*bedrock/num.Reader).Count · with blocks -/
abbrev num_Reader_Count.p0.σ : Type := Int × Int × Int × Int × (ByteArray × (Int × (Int × Unit))) × Unit
abbrev num_Reader_Count.p0.τ : Type := (Int × Int × Int × (ByteArray × (Int × (Int × Unit))) × Unit)
def num_Reader_Count.p0.r (k : Nat) {ρ : Type} (x : num_Reader_Count.p0.σ) (K : num_Reader_Count.p0.τ → Option ρ) : Option ρ :=
  bif (x.2.2.2.1 == (0 : Int)) then (bif (decide (x.2.1 > x.1)) then (K (x.2.1, (x.2.2.1, ((5 : Int), ((x.2.2.2.2.1.1, (x.2.2.2.2.1.2.1, (x.2.2.2.2.1.2.2.1, ()))), ()))))) else (K (x.2.1, (x.2.2.1, (x.2.2.2.1, ((x.2.2.2.2.1.1, (x.2.2.2.2.1.2.1, (x.2.2.2.2.1.2.2.1, ()))), ())))))) else (K (x.2.1, (x.2.2.1, (x.2.2.2.1, ((x.2.2.2.2.1.1, (x.2.2.2.2.1.2.1, (x.2.2.2.2.1.2.2.1, ()))), ())))))
def num_Reader_Count.p0 (k : Nat) (x : num_Reader_Count.p0.σ) : Option num_Reader_Count.p0.τ := num_Reader_Count.p0.r k x some
def num_Reader_Count.p0.T : StT := ⟨.ptr 0 [] :: .dat (.int .u64) :: us 3 ++ .dat (.int .u64) :: .dat (.int .i64) :: .dat (.int .i64) :: us 34, [.dat (.pair .str (.pair (.int .i64) (.pair (.int .i64) .unit)))]⟩
def num_Reader_Count.p0.os : List Out := [⟨.normal, [.mask [0, 5, 6, 7], .auto 1], ⟨.ptr 0 [] :: us 4 ++ .dat (.int .u64) :: .dat (.int .i64) :: .dat (.int .i64) :: us 34, [.dat (.pair .str (.pair (.int .i64) (.pair (.int .i64) .unit)))]⟩⟩]
abbrev num_Reader_Count.τ : Type := (Int × (ByteArray × (Int × (Int × Unit))) × Unit)
def num_Reader_Count.c (k : Nat) {ρ : Type} (most : Int) (b0 : (ByteArray × (Int × (Int × Unit)))) (K : num_Reader_Count.τ → Option ρ) : Option ρ :=
  (num_Reader_Err k (b0.1, (b0.2.1, (b0.2.2.1, ())))).bind fun t0 => bif (t0.1 != (0 : Int)) then (K ((0 : Int), ((t0.2.1.1, (t0.2.1.2.1, (t0.2.1.2.2.1, ()))), ()))) else (let v1 : ByteArray := t0.2.1.1
  let v2 : Int := t0.2.1.2.1
  (num_TakeCount k v1 v2).bind fun t3 => let v4 : Int := t3.1
  let v5 : Int := t3.2.1
  let v6 : Int := t3.2.2.1
  (num_Reader_Count.p0 k (most, (v4, (v5, (v6, ((t0.2.1.1, (t0.2.1.2.1, (t0.2.1.2.2.1, ()))), ())))))).bind fun t7 => bif (t7.2.2.1 != (0 : Int)) then (K ((0 : Int), ((t7.2.2.2.1.1, (t7.2.2.2.1.2.1, (t7.2.2.1, ()))), ()))) else (K (t7.1, ((t7.2.2.2.1.1, (t7.2.1, (t7.2.2.2.1.2.2.1, ()))), ()))))
def num_Reader_Count (k : Nat) (most : Int) (b0 : (ByteArray × (Int × (Int × Unit)))) : Option num_Reader_Count.τ := num_Reader_Count.c k most b0 some
def num_Reader_Count.T : CallT := ⟨[.ptr 0 [], .dat (.int .u64)], [.dat (.pair .str (.pair (.int .i64) (.pair (.int .i64) .unit)))], 1⟩
def num_Reader_Count.os : List Out := [⟨.ret, [.freeze (.slot 0), .auto 1], ⟨[.dat (.int .u64)], [.dat (.pair .str (.pair (.int .i64) (.pair (.int .i64) .unit)))]⟩⟩]
def num_Reader_Count.sem (k : Nat) : CallSem := callH num_Reader_Count.T num_Reader_Count.os fun x => num_Reader_Count k x.1 x.2.1
noncomputable def num_Reader_Count.ctx (k : Nat) : Ctx := ⟨Try.prog, gam [(50, (num_Reader_Err.sem k)), (15, (num_TakeCount.sem k))]⟩
theorem num_Reader_Count.gok (k : Nat) : ∀ f, SemOK Try.prog f ((num_Reader_Count.ctx k).Γ f) := (gam_cons (num_Reader_Err.sem_ok k) (gam_cons (num_TakeCount.sem_ok k) gam_nil))
theorem num_Reader_Count.p0.is (k : Nat) : PieceIs (num_Reader_Count.ctx k) (codeAt (Func.code Try.f71) [1, 1, 1, 0]) (.nil) num_Reader_Count.p0.T num_Reader_Count.p0.os (num_Reader_Count.p0.r k) := by
  intro ρ x K; kernel_rfl
theorem num_Reader_Count.p0.ok (k : Nat) : StOK 1 Try.prog (codeAt (Func.code Try.f71) [1, 1, 1, 0]) (pieceSem num_Reader_Count.p0.T num_Reader_Count.p0.os (num_Reader_Count.p0 k)) :=
  piece_ok (C := num_Reader_Count.ctx k) (T := num_Reader_Count.p0.T) (os := num_Reader_Count.p0.os) (num_Reader_Count.gok k) Try.mix (fun x K => num_Reader_Count.p0.r k x K) AnnOK.nil (by kernel_rfl) (by kernel_rfl) (num_Reader_Count.p0.is k)
def num_Reader_Count.ann (k : Nat) : Ann := .node [] none (.nil) (.node [] none (.nil) (.node [] none (.nil) (.node [] none (.node [.mask [0, 1, 5, 6, 7], .auto 1] (some (pieceSem num_Reader_Count.p0.T num_Reader_Count.p0.os (num_Reader_Count.p0 k))) .nil .nil) (.nil))))
theorem num_Reader_Count.body (k : Nat) : BodyH (num_Reader_Count.ctx k) Try.f71 (Func.code Try.f71) (num_Reader_Count.ann k) num_Reader_Count.T num_Reader_Count.os (fun x K => num_Reader_Count.c k x.1 x.2.1 K) := by
  intro ρ x K; kernel_rfl
theorem num_Reader_Count.sem_ok (k : Nat) : SemOK Try.prog 71 (num_Reader_Count.sem k) :=
  callH_ok (C := num_Reader_Count.ctx k) (num_Reader_Count.gok k) Try.mix (c := Func.code Try.f71) (ann := num_Reader_Count.ann k) (T := num_Reader_Count.T) (os := num_Reader_Count.os) (fun x K => num_Reader_Count.c k x.1 x.2.1 K) Try.func71 (by kernel_rfl) (by kernel_rfl) (AnnOK.seq AnnOK.nil (AnnOK.seq AnnOK.nil (AnnOK.seq AnnOK.nil (AnnOK.seq (AnnOK.loop (by kernel_rfl) (num_Reader_Count.p0.ok k)) AnnOK.nil)))) (num_Reader_Count.body k) (by kernel_rfl) (by kernel_rfl) (by kernel_rfl)

/-! 94 (bedrock/bedrockref01.Reader).Count -/
abbrev bedrockref01_Reader_Count.p0.σ : Type := Int × Int × Int × Int × (ByteArray × (Int × (Int × Unit))) × (ByteArray × (Int × (Int × Unit))) × Unit
abbrev bedrockref01_Reader_Count.p0.τ : Type := (Int × Int × Int × (ByteArray × (Int × (Int × Unit))) × (ByteArray × (Int × (Int × Unit))) × Unit)
def bedrockref01_Reader_Count.p0.r (k : Nat) {ρ : Type} (x : bedrockref01_Reader_Count.p0.σ) (K : bedrockref01_Reader_Count.p0.τ → Option ρ) : Option ρ :=
  bif (x.2.2.2.1 == (0 : Int)) then (bif (decide (x.2.1 > x.1)) then (K (x.2.1, (x.2.2.1, ((5 : Int), ((x.2.2.2.2.1.1, (x.2.2.2.2.1.2.1, (x.2.2.2.2.1.2.2.1, ()))), ((x.2.2.2.2.2.1.1, (x.2.2.2.2.2.1.2.1, (x.2.2.2.2.2.1.2.2.1, ()))), ())))))) else (K (x.2.1, (x.2.2.1, (x.2.2.2.1, ((x.2.2.2.2.1.1, (x.2.2.2.2.1.2.1, (x.2.2.2.2.1.2.2.1, ()))), ((x.2.2.2.2.2.1.1, (x.2.2.2.2.2.1.2.1, (x.2.2.2.2.2.1.2.2.1, ()))), ()))))))) else (K (x.2.1, (x.2.2.1, (x.2.2.2.1, ((x.2.2.2.2.1.1, (x.2.2.2.2.1.2.1, (x.2.2.2.2.1.2.2.1, ()))), ((x.2.2.2.2.2.1.1, (x.2.2.2.2.2.1.2.1, (x.2.2.2.2.2.1.2.2.1, ()))), ()))))))
def bedrockref01_Reader_Count.p0 (k : Nat) (x : bedrockref01_Reader_Count.p0.σ) : Option bedrockref01_Reader_Count.p0.τ := bedrockref01_Reader_Count.p0.r k x some
def bedrockref01_Reader_Count.p0.T : StT := ⟨us 1 ++ .dat (.int .u64) :: .ptr 0 [] :: us 1 ++ .ptr 1 [] :: us 1 ++ .dat (.int .u64) :: .dat (.int .i64) :: .dat (.int .i64) :: us 29, [.dat (.pair .str (.pair (.int .i64) (.pair (.int .i64) .unit))), .dat (.pair .str (.pair (.int .i64) (.pair (.int .i64) .unit)))]⟩
def bedrockref01_Reader_Count.p0.os : List Out := [⟨.normal, [.mask [2, 4, 6, 7, 8], .auto 0], ⟨us 2 ++ .ptr 0 [] :: us 1 ++ .ptr 1 [] :: us 1 ++ .dat (.int .u64) :: .dat (.int .i64) :: .dat (.int .i64) :: us 29, [.dat (.pair .str (.pair (.int .i64) (.pair (.int .i64) .unit))), .dat (.pair .str (.pair (.int .i64) (.pair (.int .i64) .unit)))]⟩⟩]
def bedrockref01_Reader_Count.c (k : Nat) {ρ : Type} (r : (ByteArray × (Int × (Int × Unit)))) (most : Int) (K : (ByteArray × (Int × (Int × Unit))) × Int × Unit → Option ρ) : Option ρ :=
  let v0 : Int := r.2.2.1
  bif (v0 != (0 : Int)) then (K ((r.1, (r.2.1, (r.2.2.1, ()))), ((0 : Int), ()))) else (let v1 : ByteArray := r.1
  let v2 : Int := r.2.1
  (bedrockref01_TakeCount k v1 v2).bind fun t3 => let v4 : Int := t3.1
  let v5 : Int := t3.2.1
  let v6 : Int := t3.2.2.1
  (bedrockref01_Reader_Count.p0 k (most, (v4, (v5, (v6, ((r.1, (r.2.1, (r.2.2.1, ()))), (((⟨(List.toArray [])⟩ : ByteArray), ((0 : Int), ((0 : Int), ()))), ()))))))).bind fun t7 => bif (t7.2.2.1 != (0 : Int)) then (K ((t7.2.2.2.1.1, (t7.2.2.2.1.2.1, (t7.2.2.1, ()))), ((0 : Int), ()))) else (K ((t7.2.2.2.1.1, (t7.2.1, (t7.2.2.2.1.2.2.1, ()))), (t7.1, ()))))
def bedrockref01_Reader_Count (k : Nat) (r : (ByteArray × (Int × (Int × Unit)))) (most : Int) : Option ((ByteArray × (Int × (Int × Unit))) × Int × Unit) := bedrockref01_Reader_Count.c k r most some
def bedrockref01_Reader_Count.tin : List Ty := [(.pair .str (.pair (.int .i64) (.pair (.int .i64) .unit))), (.int .u64)]
def bedrockref01_Reader_Count.tout : List Ty := [(.pair .str (.pair (.int .i64) (.pair (.int .i64) .unit))), (.int .u64)]
def bedrockref01_Reader_Count.sem (k : Nat) : CallSem := callPure bedrockref01_Reader_Count.tin bedrockref01_Reader_Count.tout fun x => bedrockref01_Reader_Count k x.1 x.2.1
noncomputable def bedrockref01_Reader_Count.ctx (k : Nat) : Ctx := ⟨Try.prog, gam [(16, (bedrockref01_TakeCount.sem k))]⟩
theorem bedrockref01_Reader_Count.gok (k : Nat) : ∀ f, SemOK Try.prog f ((bedrockref01_Reader_Count.ctx k).Γ f) := (gam_cons (bedrockref01_TakeCount.sem_ok k) gam_nil)
theorem bedrockref01_Reader_Count.p0.is (k : Nat) : PieceIs (bedrockref01_Reader_Count.ctx k) (codeAt (Func.code Try.f94) [1, 1, 1, 0]) (.nil) bedrockref01_Reader_Count.p0.T bedrockref01_Reader_Count.p0.os (bedrockref01_Reader_Count.p0.r k) := by
  intro ρ x K; kernel_rfl
theorem bedrockref01_Reader_Count.p0.ok (k : Nat) : StOK 0 Try.prog (codeAt (Func.code Try.f94) [1, 1, 1, 0]) (pieceSem bedrockref01_Reader_Count.p0.T bedrockref01_Reader_Count.p0.os (bedrockref01_Reader_Count.p0 k)) :=
  piece_ok (C := bedrockref01_Reader_Count.ctx k) (T := bedrockref01_Reader_Count.p0.T) (os := bedrockref01_Reader_Count.p0.os) (bedrockref01_Reader_Count.gok k) Try.mix (fun x K => bedrockref01_Reader_Count.p0.r k x K) AnnOK.nil (by kernel_rfl) (by kernel_rfl) (bedrockref01_Reader_Count.p0.is k)
def bedrockref01_Reader_Count.ann (k : Nat) : Ann := .node [] none (.nil) (.node [] none (.nil) (.node [] none (.nil) (.node [] none (.node [.mask [1, 2, 4, 6, 7, 8], .auto 0] (some (pieceSem bedrockref01_Reader_Count.p0.T bedrockref01_Reader_Count.p0.os (bedrockref01_Reader_Count.p0 k))) .nil .nil) (.nil))))
theorem bedrockref01_Reader_Count.body (k : Nat) : BodyIs (bedrockref01_Reader_Count.ctx k) Try.f94 (Func.code Try.f94) (bedrockref01_Reader_Count.ann k) bedrockref01_Reader_Count.tin bedrockref01_Reader_Count.tout (fun x K => bedrockref01_Reader_Count.c k x.1 x.2.1 K) := by
  intro ρ x K; kernel_rfl
theorem bedrockref01_Reader_Count.sem_ok (k : Nat) : SemOK Try.prog 94 (bedrockref01_Reader_Count.sem k) :=
  callPure_ok (C := bedrockref01_Reader_Count.ctx k) (bedrockref01_Reader_Count.gok k) Try.mix (c := Func.code Try.f94) (ann := bedrockref01_Reader_Count.ann k) (tin := bedrockref01_Reader_Count.tin) (tout := bedrockref01_Reader_Count.tout) (fun x K => bedrockref01_Reader_Count.c k x.1 x.2.1 K) Try.func94 (by kernel_rfl) (by kernel_rfl) (AnnOK.seq AnnOK.nil (AnnOK.seq AnnOK.nil (AnnOK.seq AnnOK.nil (AnnOK.seq (AnnOK.loop (by kernel_rfl) (bedrockref01_Reader_Count.p0.ok k)) AnnOK.nil)))) (bedrockref01_Reader_Count.body k)

/-! 73 (*bedrock/num.Reader).String · with blocks -/
abbrev num_Reader_String.τ : Type := (ByteArray × (ByteArray × (Int × (Int × Unit))) × Unit)
def num_Reader_String.c (k : Nat) {ρ : Type} (most : Int) (b0 : (ByteArray × (Int × (Int × Unit)))) (K : num_Reader_String.τ → Option ρ) : Option ρ :=
  (num_Reader_Err k (b0.1, (b0.2.1, (b0.2.2.1, ())))).bind fun t0 => bif (t0.1 != (0 : Int)) then (K ((⟨(List.toArray [])⟩ : ByteArray), ((t0.2.1.1, (t0.2.1.2.1, (t0.2.1.2.2.1, ()))), ()))) else (bif (decide (most < (0 : Int))) then (K ((⟨(List.toArray [])⟩ : ByteArray), ((t0.2.1.1, (t0.2.1.2.1, ((1 : Int), ()))), ()))) else (let v1 : Int := t0.2.1.2.1
  (num_Reader_Count k (IntKind.wrap IntKind.u64 most) (t0.2.1.1, (t0.2.1.2.1, (t0.2.1.2.2.1, ())))).bind fun t2 => let v3 : Int := (IntKind.wrap IntKind.i64 t2.1)
  (num_Reader_Bytes k v3 (t2.2.1.1, (t2.2.1.2.1, (t2.2.1.2.2.1, ())))).bind fun t4 => let v5 : Int := t4.2.1.2.2.1
  bif (v5 != (0 : Int)) then (K (t4.1, ((t4.2.1.1, (v1, (t4.2.1.2.2.1, ()))), ()))) else (K (t4.1, ((t4.2.1.1, (t4.2.1.2.1, (t4.2.1.2.2.1, ()))), ())))))
def num_Reader_String (k : Nat) (most : Int) (b0 : (ByteArray × (Int × (Int × Unit)))) : Option num_Reader_String.τ := num_Reader_String.c k most b0 some
def num_Reader_String.T : CallT := ⟨[.ptr 0 [], .dat (.int .i64)], [.dat (.pair .str (.pair (.int .i64) (.pair (.int .i64) .unit)))], 1⟩
def num_Reader_String.os : List Out := [⟨.ret, [.freeze (.slot 0), .auto 1], ⟨[.dat .str], [.dat (.pair .str (.pair (.int .i64) (.pair (.int .i64) .unit)))]⟩⟩]
def num_Reader_String.sem (k : Nat) : CallSem := callH num_Reader_String.T num_Reader_String.os fun x => num_Reader_String k x.1 x.2.1
noncomputable def num_Reader_String.ctx (k : Nat) : Ctx := ⟨Try.prog, gam [(50, (num_Reader_Err.sem k)), (71, (num_Reader_Count.sem k)), (72, (num_Reader_Bytes.sem k))]⟩
theorem num_Reader_String.gok (k : Nat) : ∀ f, SemOK Try.prog f ((num_Reader_String.ctx k).Γ f) := (gam_cons (num_Reader_Err.sem_ok k) (gam_cons (num_Reader_Count.sem_ok k) (gam_cons (num_Reader_Bytes.sem_ok k) gam_nil)))
def num_Reader_String.ann (k : Nat) : Ann := .nil
theorem num_Reader_String.body (k : Nat) : BodyH (num_Reader_String.ctx k) Try.f73 (Func.code Try.f73) (num_Reader_String.ann k) num_Reader_String.T num_Reader_String.os (fun x K => num_Reader_String.c k x.1 x.2.1 K) := by
  intro ρ x K; kernel_rfl
theorem num_Reader_String.sem_ok (k : Nat) : SemOK Try.prog 73 (num_Reader_String.sem k) :=
  callH_ok (C := num_Reader_String.ctx k) (num_Reader_String.gok k) Try.mix (c := Func.code Try.f73) (ann := num_Reader_String.ann k) (T := num_Reader_String.T) (os := num_Reader_String.os) (fun x K => num_Reader_String.c k x.1 x.2.1 K) Try.func73 (by kernel_rfl) (by kernel_rfl) AnnOK.nil (num_Reader_String.body k) (by kernel_rfl) (by kernel_rfl) (by kernel_rfl)

/-! 95 (bedrock/bedrockref01.Reader).String -/
def bedrockref01_Reader_String.c (k : Nat) {ρ : Type} (r : (ByteArray × (Int × (Int × Unit)))) (most : Int) (K : (ByteArray × (Int × (Int × Unit))) × ByteArray × Unit → Option ρ) : Option ρ :=
  let v0 : Int := r.2.2.1
  bif (v0 != (0 : Int)) then (K ((r.1, (r.2.1, (r.2.2.1, ()))), ((⟨(List.toArray [])⟩ : ByteArray), ()))) else (bif (decide (most < (0 : Int))) then (K ((r.1, (r.2.1, ((1 : Int), ()))), ((⟨(List.toArray [])⟩ : ByteArray), ()))) else ((bedrockref01_Reader_Count k (r.1, (r.2.1, (r.2.2.1, ()))) (IntKind.wrap IntKind.u64 most)).bind fun t1 => let v2 : Int := t1.2.1
  let v3 : Int := t1.1.2.2.1
  bif (v3 != (0 : Int)) then (let v4 : Int := t1.1.2.2.1
  K ((r.1, (r.2.1, (v4, ()))), ((⟨(List.toArray [])⟩ : ByteArray), ()))) else ((bedrockref01_Reader_Take k (t1.1.1, (t1.1.2.1, (t1.1.2.2.1, ()))) (IntKind.wrap IntKind.i64 v2)).bind fun t5 => let v6 : ByteArray := t5.2.1
  let v7 : Int := t5.1.2.2.1
  bif (v7 != (0 : Int)) then (let v8 : Int := t5.1.2.2.1
  K ((r.1, (r.2.1, (v8, ()))), ((⟨(List.toArray [])⟩ : ByteArray), ()))) else (K ((t5.1.1, (t5.1.2.1, (t5.1.2.2.1, ()))), (v6, ()))))))
def bedrockref01_Reader_String (k : Nat) (r : (ByteArray × (Int × (Int × Unit)))) (most : Int) : Option ((ByteArray × (Int × (Int × Unit))) × ByteArray × Unit) := bedrockref01_Reader_String.c k r most some
def bedrockref01_Reader_String.tin : List Ty := [(.pair .str (.pair (.int .i64) (.pair (.int .i64) .unit))), (.int .i64)]
def bedrockref01_Reader_String.tout : List Ty := [(.pair .str (.pair (.int .i64) (.pair (.int .i64) .unit))), .str]
def bedrockref01_Reader_String.sem (k : Nat) : CallSem := callPure bedrockref01_Reader_String.tin bedrockref01_Reader_String.tout fun x => bedrockref01_Reader_String k x.1 x.2.1
noncomputable def bedrockref01_Reader_String.ctx (k : Nat) : Ctx := ⟨Try.prog, gam [(94, (bedrockref01_Reader_Count.sem k)), (93, (bedrockref01_Reader_Take.sem k))]⟩
theorem bedrockref01_Reader_String.gok (k : Nat) : ∀ f, SemOK Try.prog f ((bedrockref01_Reader_String.ctx k).Γ f) := (gam_cons (bedrockref01_Reader_Count.sem_ok k) (gam_cons (bedrockref01_Reader_Take.sem_ok k) gam_nil))
def bedrockref01_Reader_String.ann (k : Nat) : Ann := .nil
theorem bedrockref01_Reader_String.body (k : Nat) : BodyIs (bedrockref01_Reader_String.ctx k) Try.f95 (Func.code Try.f95) (bedrockref01_Reader_String.ann k) bedrockref01_Reader_String.tin bedrockref01_Reader_String.tout (fun x K => bedrockref01_Reader_String.c k x.1 x.2.1 K) := by
  intro ρ x K; kernel_rfl
theorem bedrockref01_Reader_String.sem_ok (k : Nat) : SemOK Try.prog 95 (bedrockref01_Reader_String.sem k) :=
  callPure_ok (C := bedrockref01_Reader_String.ctx k) (bedrockref01_Reader_String.gok k) Try.mix (c := Func.code Try.f95) (ann := bedrockref01_Reader_String.ann k) (tin := bedrockref01_Reader_String.tin) (tout := bedrockref01_Reader_String.tout) (fun x K => bedrockref01_Reader_String.c k x.1 x.2.1 K) Try.func95 (by kernel_rfl) (by kernel_rfl) AnnOK.nil (bedrockref01_Reader_String.body k)

/-! 74 (*bedrock/num.Reader).Hash · with blocks -/
abbrev num_Reader_Hash.τ : Type := ((List Int) × (ByteArray × (Int × (Int × Unit))) × Unit)
def num_Reader_Hash.c (k : Nat) {ρ : Type} (b0 : (ByteArray × (Int × (Int × Unit)))) (K : num_Reader_Hash.τ → Option ρ) : Option ρ :=
  (num_Reader_Bytes k (32 : Int) (b0.1, (b0.2.1, (b0.2.2.1, ())))).bind fun t0 => let v1 : Int := (((Min.min (List.length (ofBytes t0.1)) 32) : Nat) : Int)
  let v2 : List Int := (copyL (List.replicate 32 (0 : Int)) 0 (ofBytes t0.1) (Min.min (List.length (ofBytes t0.1)) 32))
  K (v2, ((t0.2.1.1, (t0.2.1.2.1, (t0.2.1.2.2.1, ()))), ()))
def num_Reader_Hash (k : Nat) (b0 : (ByteArray × (Int × (Int × Unit)))) : Option num_Reader_Hash.τ := num_Reader_Hash.c k b0 some
def num_Reader_Hash.T : CallT := ⟨[.ptr 0 []], [.dat (.pair .str (.pair (.int .i64) (.pair (.int .i64) .unit)))], 1⟩
def num_Reader_Hash.os : List Out := [⟨.ret, [.freeze (.slot 0), .auto 1], ⟨[.dat (.arr 32 (.int .u8))], [.dat (.pair .str (.pair (.int .i64) (.pair (.int .i64) .unit)))]⟩⟩]
def num_Reader_Hash.sem (k : Nat) : CallSem := callH num_Reader_Hash.T num_Reader_Hash.os fun x => num_Reader_Hash k x.1
noncomputable def num_Reader_Hash.ctx (k : Nat) : Ctx := ⟨Try.prog, gam [(72, (num_Reader_Bytes.sem k))]⟩
theorem num_Reader_Hash.gok (k : Nat) : ∀ f, SemOK Try.prog f ((num_Reader_Hash.ctx k).Γ f) := (gam_cons (num_Reader_Bytes.sem_ok k) gam_nil)
def num_Reader_Hash.ann (k : Nat) : Ann := .nil
theorem num_Reader_Hash.body (k : Nat) : BodyH (num_Reader_Hash.ctx k) Try.f74 (Func.code Try.f74) (num_Reader_Hash.ann k) num_Reader_Hash.T num_Reader_Hash.os (fun x K => num_Reader_Hash.c k x.1 K) := by
  intro ρ x K; kernel_rfl
theorem num_Reader_Hash.sem_ok (k : Nat) : SemOK Try.prog 74 (num_Reader_Hash.sem k) :=
  callH_ok (C := num_Reader_Hash.ctx k) (num_Reader_Hash.gok k) Try.mix (c := Func.code Try.f74) (ann := num_Reader_Hash.ann k) (T := num_Reader_Hash.T) (os := num_Reader_Hash.os) (fun x K => num_Reader_Hash.c k x.1 K) Try.func74 (by kernel_rfl) (by kernel_rfl) AnnOK.nil (num_Reader_Hash.body k) (by kernel_rfl) (by kernel_rfl) (by kernel_rfl)

/-! 75 (*bedrock/num.Reader).Bool · with blocks -/
abbrev num_Reader_Bool.τ : Type := (Bool × (ByteArray × (Int × (Int × Unit))) × Unit)
def num_Reader_Bool.c (k : Nat) {ρ : Type} (b0 : (ByteArray × (Int × (Int × Unit)))) (K : num_Reader_Bool.τ → Option ρ) : Option ρ :=
  (num_Reader_Err k (b0.1, (b0.2.1, (b0.2.2.1, ())))).bind fun t0 => bif (t0.1 != (0 : Int)) then (K (false, ((t0.2.1.1, (t0.2.1.2.1, (t0.2.1.2.2.1, ()))), ()))) else (let v1 : Int := t0.2.1.2.1
  (num_Reader_Byte k (t0.2.1.1, (t0.2.1.2.1, (t0.2.1.2.2.1, ())))).bind fun t2 => bif (decide (t2.1 > (1 : Int))) then (K ((t2.1 == (1 : Int)), ((t2.2.1.1, (v1, ((6 : Int), ()))), ()))) else (K ((t2.1 == (1 : Int)), ((t2.2.1.1, (t2.2.1.2.1, (t2.2.1.2.2.1, ()))), ()))))
def num_Reader_Bool (k : Nat) (b0 : (ByteArray × (Int × (Int × Unit)))) : Option num_Reader_Bool.τ := num_Reader_Bool.c k b0 some
def num_Reader_Bool.T : CallT := ⟨[.ptr 0 []], [.dat (.pair .str (.pair (.int .i64) (.pair (.int .i64) .unit)))], 1⟩
def num_Reader_Bool.os : List Out := [⟨.ret, [.freeze (.slot 0), .auto 1], ⟨[.dat .bool], [.dat (.pair .str (.pair (.int .i64) (.pair (.int .i64) .unit)))]⟩⟩]
def num_Reader_Bool.sem (k : Nat) : CallSem := callH num_Reader_Bool.T num_Reader_Bool.os fun x => num_Reader_Bool k x.1
noncomputable def num_Reader_Bool.ctx (k : Nat) : Ctx := ⟨Try.prog, gam [(50, (num_Reader_Err.sem k)), (66, (num_Reader_Byte.sem k))]⟩
theorem num_Reader_Bool.gok (k : Nat) : ∀ f, SemOK Try.prog f ((num_Reader_Bool.ctx k).Γ f) := (gam_cons (num_Reader_Err.sem_ok k) (gam_cons (num_Reader_Byte.sem_ok k) gam_nil))
def num_Reader_Bool.ann (k : Nat) : Ann := .nil
theorem num_Reader_Bool.body (k : Nat) : BodyH (num_Reader_Bool.ctx k) Try.f75 (Func.code Try.f75) (num_Reader_Bool.ann k) num_Reader_Bool.T num_Reader_Bool.os (fun x K => num_Reader_Bool.c k x.1 K) := by
  intro ρ x K; kernel_rfl
theorem num_Reader_Bool.sem_ok (k : Nat) : SemOK Try.prog 75 (num_Reader_Bool.sem k) :=
  callH_ok (C := num_Reader_Bool.ctx k) (num_Reader_Bool.gok k) Try.mix (c := Func.code Try.f75) (ann := num_Reader_Bool.ann k) (T := num_Reader_Bool.T) (os := num_Reader_Bool.os) (fun x K => num_Reader_Bool.c k x.1 K) Try.func75 (by kernel_rfl) (by kernel_rfl) AnnOK.nil (num_Reader_Bool.body k) (by kernel_rfl) (by kernel_rfl) (by kernel_rfl)

/-! 96 (bedrock/bedrockref01.Reader).Bool -/
def bedrockref01_Reader_Bool.c (k : Nat) {ρ : Type} (r : (ByteArray × (Int × (Int × Unit)))) (K : (ByteArray × (Int × (Int × Unit))) × Bool × Unit → Option ρ) : Option ρ :=
  (bedrockref01_Reader_Take k (r.1, (r.2.1, (r.2.2.1, ()))) (1 : Int)).bind fun t0 => let v1 : ByteArray := t0.2.1
  let v2 : Int := t0.1.2.2.1
  bif (v2 == (0 : Int)) then (bif (decide (((0 : Int) ≤ (0 : Int)) ∧ ((0 : Int) < (((ByteArray.size v1) : Nat) : Int)))) then (bif (decide ((byteAt v1 0) > (1 : Int))) then (K ((r.1, (r.2.1, ((6 : Int), ()))), (false, ()))) else (let v3 : Int := t0.1.2.2.1
  bif (v3 == (0 : Int)) then (bif (decide (((0 : Int) ≤ (0 : Int)) ∧ ((0 : Int) < (((ByteArray.size v1) : Nat) : Int)))) then (K ((t0.1.1, (t0.1.2.1, (t0.1.2.2.1, ()))), (((byteAt v1 0) == (1 : Int)), ()))) else (none)) else (K ((t0.1.1, (t0.1.2.1, (t0.1.2.2.1, ()))), (false, ()))))) else (none)) else (let v4 : Int := t0.1.2.2.1
  bif (v4 == (0 : Int)) then (bif (decide (((0 : Int) ≤ (0 : Int)) ∧ ((0 : Int) < (((ByteArray.size v1) : Nat) : Int)))) then (K ((t0.1.1, (t0.1.2.1, (t0.1.2.2.1, ()))), (((byteAt v1 0) == (1 : Int)), ()))) else (none)) else (K ((t0.1.1, (t0.1.2.1, (t0.1.2.2.1, ()))), (false, ()))))
def bedrockref01_Reader_Bool (k : Nat) (r : (ByteArray × (Int × (Int × Unit)))) : Option ((ByteArray × (Int × (Int × Unit))) × Bool × Unit) := bedrockref01_Reader_Bool.c k r some
def bedrockref01_Reader_Bool.tin : List Ty := [(.pair .str (.pair (.int .i64) (.pair (.int .i64) .unit)))]
def bedrockref01_Reader_Bool.tout : List Ty := [(.pair .str (.pair (.int .i64) (.pair (.int .i64) .unit))), .bool]
def bedrockref01_Reader_Bool.sem (k : Nat) : CallSem := callPure bedrockref01_Reader_Bool.tin bedrockref01_Reader_Bool.tout fun x => bedrockref01_Reader_Bool k x.1
noncomputable def bedrockref01_Reader_Bool.ctx (k : Nat) : Ctx := ⟨Try.prog, gam [(93, (bedrockref01_Reader_Take.sem k))]⟩
theorem bedrockref01_Reader_Bool.gok (k : Nat) : ∀ f, SemOK Try.prog f ((bedrockref01_Reader_Bool.ctx k).Γ f) := (gam_cons (bedrockref01_Reader_Take.sem_ok k) gam_nil)
def bedrockref01_Reader_Bool.ann (k : Nat) : Ann := .nil
theorem bedrockref01_Reader_Bool.body (k : Nat) : BodyIs (bedrockref01_Reader_Bool.ctx k) Try.f96 (Func.code Try.f96) (bedrockref01_Reader_Bool.ann k) bedrockref01_Reader_Bool.tin bedrockref01_Reader_Bool.tout (fun x K => bedrockref01_Reader_Bool.c k x.1 K) := by
  intro ρ x K; kernel_rfl
theorem bedrockref01_Reader_Bool.sem_ok (k : Nat) : SemOK Try.prog 96 (bedrockref01_Reader_Bool.sem k) :=
  callPure_ok (C := bedrockref01_Reader_Bool.ctx k) (bedrockref01_Reader_Bool.gok k) Try.mix (c := Func.code Try.f96) (ann := bedrockref01_Reader_Bool.ann k) (tin := bedrockref01_Reader_Bool.tin) (tout := bedrockref01_Reader_Bool.tout) (fun x K => bedrockref01_Reader_Bool.c k x.1 K) Try.func96 (by kernel_rfl) (by kernel_rfl) AnnOK.nil (bedrockref01_Reader_Bool.body k)

/-! 65 (*bedrock/num.Reader).Fail · with blocks -/
abbrev num_Reader_Fail.τ : Type := ((ByteArray × (Int × (Int × Unit))) × Unit)
def num_Reader_Fail.c (k : Nat) {ρ : Type} (e : Int) (b0 : (ByteArray × (Int × (Int × Unit)))) (K : num_Reader_Fail.τ → Option ρ) : Option ρ :=
  let v0 : Int := b0.2.2.1
  bif (v0 == (0 : Int)) then (K ((b0.1, (b0.2.1, (e, ()))), ())) else (K ((b0.1, (b0.2.1, (b0.2.2.1, ()))), ()))
def num_Reader_Fail (k : Nat) (e : Int) (b0 : (ByteArray × (Int × (Int × Unit)))) : Option num_Reader_Fail.τ := num_Reader_Fail.c k e b0 some
def num_Reader_Fail.T : CallT := ⟨[.ptr 0 [], .dat (.int .i64)], [.dat (.pair .str (.pair (.int .i64) (.pair (.int .i64) .unit)))], 1⟩
def num_Reader_Fail.os : List Out := [⟨.ret, [.auto 1], ⟨[], [.dat (.pair .str (.pair (.int .i64) (.pair (.int .i64) .unit)))]⟩⟩]
def num_Reader_Fail.sem (k : Nat) : CallSem := callH num_Reader_Fail.T num_Reader_Fail.os fun x => num_Reader_Fail k x.1 x.2.1
noncomputable def num_Reader_Fail.ctx (k : Nat) : Ctx := ⟨Try.prog, gam []⟩
theorem num_Reader_Fail.gok (k : Nat) : ∀ f, SemOK Try.prog f ((num_Reader_Fail.ctx k).Γ f) := gam_nil
def num_Reader_Fail.ann (k : Nat) : Ann := .nil
theorem num_Reader_Fail.body (k : Nat) : BodyH (num_Reader_Fail.ctx k) Try.f65 (Func.code Try.f65) (num_Reader_Fail.ann k) num_Reader_Fail.T num_Reader_Fail.os (fun x K => num_Reader_Fail.c k x.1 x.2.1 K) := by
  intro ρ x K; kernel_rfl
theorem num_Reader_Fail.sem_ok (k : Nat) : SemOK Try.prog 65 (num_Reader_Fail.sem k) :=
  callH_ok (C := num_Reader_Fail.ctx k) (num_Reader_Fail.gok k) Try.mix (c := Func.code Try.f65) (ann := num_Reader_Fail.ann k) (T := num_Reader_Fail.T) (os := num_Reader_Fail.os) (fun x K => num_Reader_Fail.c k x.1 x.2.1 K) Try.func65 (by kernel_rfl) (by kernel_rfl) AnnOK.nil (num_Reader_Fail.body k) (by kernel_rfl) (by kernel_rfl) (by kernel_rfl)

/-! 64 (*bedrock/num.Reader).End · with blocks -/
abbrev num_Reader_End.τ : Type := (Int × (ByteArray × (Int × (Int × Unit))) × Unit)
def num_Reader_End.c (k : Nat) {ρ : Type} (b0 : (ByteArray × (Int × (Int × Unit)))) (K : num_Reader_End.τ → Option ρ) : Option ρ :=
  (num_Reader_Err k (b0.1, (b0.2.1, (b0.2.2.1, ())))).bind fun t0 => bif (t0.1 == (0 : Int)) then ((num_Reader_Left k (t0.2.1.1, (t0.2.1.2.1, (t0.2.1.2.2.1, ())))).bind fun t1 => bif (decide (t1.1 > (0 : Int))) then ((num_Reader_Err k (t1.2.1.1, (t1.2.1.2.1, ((5 : Int), ())))).bind fun t2 => K (t2.1, ((t2.2.1.1, (t2.2.1.2.1, (t2.2.1.2.2.1, ()))), ()))) else ((num_Reader_Err k (t1.2.1.1, (t1.2.1.2.1, (t1.2.1.2.2.1, ())))).bind fun t3 => K (t3.1, ((t3.2.1.1, (t3.2.1.2.1, (t3.2.1.2.2.1, ()))), ())))) else ((num_Reader_Err k (t0.2.1.1, (t0.2.1.2.1, (t0.2.1.2.2.1, ())))).bind fun t4 => K (t4.1, ((t4.2.1.1, (t4.2.1.2.1, (t4.2.1.2.2.1, ()))), ())))
def num_Reader_End (k : Nat) (b0 : (ByteArray × (Int × (Int × Unit)))) : Option num_Reader_End.τ := num_Reader_End.c k b0 some
def num_Reader_End.T : CallT := ⟨[.ptr 0 []], [.dat (.pair .str (.pair (.int .i64) (.pair (.int .i64) .unit)))], 1⟩
def num_Reader_End.os : List Out := [⟨.ret, [.freeze (.slot 0), .auto 1], ⟨[.dat (.int .i64)], [.dat (.pair .str (.pair (.int .i64) (.pair (.int .i64) .unit)))]⟩⟩]
def num_Reader_End.sem (k : Nat) : CallSem := callH num_Reader_End.T num_Reader_End.os fun x => num_Reader_End k x.1
noncomputable def num_Reader_End.ctx (k : Nat) : Ctx := ⟨Try.prog, gam [(50, (num_Reader_Err.sem k)), (52, (num_Reader_Left.sem k))]⟩
theorem num_Reader_End.gok (k : Nat) : ∀ f, SemOK Try.prog f ((num_Reader_End.ctx k).Γ f) := (gam_cons (num_Reader_Err.sem_ok k) (gam_cons (num_Reader_Left.sem_ok k) gam_nil))
def num_Reader_End.ann (k : Nat) : Ann := .nil
theorem num_Reader_End.body (k : Nat) : BodyH (num_Reader_End.ctx k) Try.f64 (Func.code Try.f64) (num_Reader_End.ann k) num_Reader_End.T num_Reader_End.os (fun x K => num_Reader_End.c k x.1 K) := by
  intro ρ x K; kernel_rfl
theorem num_Reader_End.sem_ok (k : Nat) : SemOK Try.prog 64 (num_Reader_End.sem k) :=
  callH_ok (C := num_Reader_End.ctx k) (num_Reader_End.gok k) Try.mix (c := Func.code Try.f64) (ann := num_Reader_End.ann k) (T := num_Reader_End.T) (os := num_Reader_End.os) (fun x K => num_Reader_End.c k x.1 K) Try.func64 (by kernel_rfl) (by kernel_rfl) AnnOK.nil (num_Reader_End.body k) (by kernel_rfl) (by kernel_rfl) (by kernel_rfl)

/-! 97 (bedrock/bedrockref01.Reader).End -/
def bedrockref01_Reader_End.c (k : Nat) {ρ : Type} (r : (ByteArray × (Int × (Int × Unit)))) (K : (ByteArray × (Int × (Int × Unit))) × Unit → Option ρ) : Option ρ :=
  let v0 : Int := r.2.2.1
  bif (v0 == (0 : Int)) then (let v1 : Int := r.2.1
  let v2 : ByteArray := r.1
  bif (decide (v1 < (((ByteArray.size v2) : Nat) : Int))) then (K ((r.1, (r.2.1, ((5 : Int), ()))), ())) else (K ((r.1, (r.2.1, (r.2.2.1, ()))), ()))) else (K ((r.1, (r.2.1, (r.2.2.1, ()))), ()))
def bedrockref01_Reader_End (k : Nat) (r : (ByteArray × (Int × (Int × Unit)))) : Option ((ByteArray × (Int × (Int × Unit))) × Unit) := bedrockref01_Reader_End.c k r some
def bedrockref01_Reader_End.tin : List Ty := [(.pair .str (.pair (.int .i64) (.pair (.int .i64) .unit)))]
def bedrockref01_Reader_End.tout : List Ty := [(.pair .str (.pair (.int .i64) (.pair (.int .i64) .unit)))]
def bedrockref01_Reader_End.sem (k : Nat) : CallSem := callPure bedrockref01_Reader_End.tin bedrockref01_Reader_End.tout fun x => bedrockref01_Reader_End k x.1
noncomputable def bedrockref01_Reader_End.ctx (k : Nat) : Ctx := ⟨Try.prog, gam []⟩
theorem bedrockref01_Reader_End.gok (k : Nat) : ∀ f, SemOK Try.prog f ((bedrockref01_Reader_End.ctx k).Γ f) := gam_nil
def bedrockref01_Reader_End.ann (k : Nat) : Ann := .nil
theorem bedrockref01_Reader_End.body (k : Nat) : BodyIs (bedrockref01_Reader_End.ctx k) Try.f97 (Func.code Try.f97) (bedrockref01_Reader_End.ann k) bedrockref01_Reader_End.tin bedrockref01_Reader_End.tout (fun x K => bedrockref01_Reader_End.c k x.1 K) := by
  intro ρ x K; kernel_rfl
theorem bedrockref01_Reader_End.sem_ok (k : Nat) : SemOK Try.prog 97 (bedrockref01_Reader_End.sem k) :=
  callPure_ok (C := bedrockref01_Reader_End.ctx k) (bedrockref01_Reader_End.gok k) Try.mix (c := Func.code Try.f97) (ann := bedrockref01_Reader_End.ann k) (tin := bedrockref01_Reader_End.tin) (tout := bedrockref01_Reader_End.tout) (fun x K => bedrockref01_Reader_End.c k x.1 K) Try.func97 (by kernel_rfl) (by kernel_rfl) AnnOK.nil (bedrockref01_Reader_End.body k)

/-! 49 bedrock/bedrocklaw01.one · with blocks -/
abbrev bedrocklaw01_one.τ : Type := ((ByteArray × (Int × (Int × Unit))) × Bool × (ByteArray × (Int × (Int × Unit))) × Unit)
def bedrocklaw01_one.c (k : Nat) {ρ : Type} (m : (ByteArray × (Int × (Int × Unit)))) (a : (Int × (Int × (Int × (ByteArray × Unit))))) (b0 : (ByteArray × (Int × (Int × Unit)))) (K : bedrocklaw01_one.τ → Option ρ) : Option ρ :=
  let v0 : Int := a.1
  bif (v0 == (0 : Int)) then ((num_Reader_Byte k (b0.1, (b0.2.1, (b0.2.2.1, ())))).bind fun t1 => (bedrockref01_Reader_Take k (m.1, (m.2.1, (m.2.2.1, ()))) (1 : Int)).bind fun t2 => let v3 : ByteArray := t2.2.1
  let v4 : Int := (IntKind.wrap IntKind.u64 t1.1)
  (bedrockref01_Get k v3).bind fun t5 => K ((t2.1.1, (t2.1.2.1, (t2.1.2.2.1, ()))), ((v4 == t5.1), ((t1.2.1.1, (t1.2.1.2.1, (t1.2.1.2.2.1, ()))), ())))) else (bif (v0 == (1 : Int)) then ((num_Reader_U16 k (b0.1, (b0.2.1, (b0.2.2.1, ())))).bind fun t6 => (bedrockref01_Reader_Take k (m.1, (m.2.1, (m.2.2.1, ()))) (2 : Int)).bind fun t7 => let v8 : ByteArray := t7.2.1
  let v9 : Int := (IntKind.wrap IntKind.u64 t6.1)
  (bedrockref01_Get k v8).bind fun t10 => K ((t7.1.1, (t7.1.2.1, (t7.1.2.2.1, ()))), ((v9 == t10.1), ((t6.2.1.1, (t6.2.1.2.1, (t6.2.1.2.2.1, ()))), ())))) else (bif (v0 == (2 : Int)) then ((num_Reader_U32 k (b0.1, (b0.2.1, (b0.2.2.1, ())))).bind fun t11 => (bedrockref01_Reader_Take k (m.1, (m.2.1, (m.2.2.1, ()))) (4 : Int)).bind fun t12 => let v13 : ByteArray := t12.2.1
  let v14 : Int := (IntKind.wrap IntKind.u64 t11.1)
  (bedrockref01_Get k v13).bind fun t15 => K ((t12.1.1, (t12.1.2.1, (t12.1.2.2.1, ()))), ((v14 == t15.1), ((t11.2.1.1, (t11.2.1.2.1, (t11.2.1.2.2.1, ()))), ())))) else (bif (v0 == (3 : Int)) then ((num_Reader_U64 k (b0.1, (b0.2.1, (b0.2.2.1, ())))).bind fun t16 => (bedrockref01_Reader_Take k (m.1, (m.2.1, (m.2.2.1, ()))) (8 : Int)).bind fun t17 => let v18 : ByteArray := t17.2.1
  (bedrockref01_Get k v18).bind fun t19 => K ((t17.1.1, (t17.1.2.1, (t17.1.2.2.1, ()))), ((t16.1 == t19.1), ((t16.2.1.1, (t16.2.1.2.1, (t16.2.1.2.2.1, ()))), ())))) else (bif (v0 == (4 : Int)) then ((num_Reader_Big16 k (b0.1, (b0.2.1, (b0.2.2.1, ())))).bind fun t20 => (bedrockref01_Reader_Take k (m.1, (m.2.1, (m.2.2.1, ()))) (2 : Int)).bind fun t21 => let v22 : ByteArray := t21.2.1
  let v23 : Int := (IntKind.wrap IntKind.u64 t20.1)
  (bedrockref01_Turned k v22).bind fun t24 => (bedrockref01_Get k t24.1).bind fun t25 => K ((t21.1.1, (t21.1.2.1, (t21.1.2.2.1, ()))), ((v23 == t25.1), ((t20.2.1.1, (t20.2.1.2.1, (t20.2.1.2.2.1, ()))), ())))) else (bif (v0 == (5 : Int)) then (let v26 : Int := a.2.2.1
  (num_Reader_Count k v26 (b0.1, (b0.2.1, (b0.2.2.1, ())))).bind fun t27 => let v28 : Int := a.2.2.1
  (bedrockref01_Reader_Count k (m.1, (m.2.1, (m.2.2.1, ()))) v28).bind fun t29 => let v30 : Int := t29.2.1
  K ((t29.1.1, (t29.1.2.1, (t29.1.2.2.1, ()))), ((t27.1 == v30), ((t27.2.1.1, (t27.2.1.2.1, (t27.2.1.2.2.1, ()))), ())))) else (bif (v0 == (6 : Int)) then (let v31 : Int := a.2.1
  (num_Reader_Bytes k v31 (b0.1, (b0.2.1, (b0.2.2.1, ())))).bind fun t32 => let v33 : Int := a.2.1
  (bedrockref01_Reader_Take k (m.1, (m.2.1, (m.2.2.1, ()))) v33).bind fun t34 => let v35 : ByteArray := t34.2.1
  K ((t34.1.1, (t34.1.2.1, (t34.1.2.2.1, ()))), ((strEq t32.1 v35), ((t32.2.1.1, (t32.2.1.2.1, (t32.2.1.2.2.1, ()))), ())))) else (bif (v0 == (7 : Int)) then (let v36 : Int := a.2.1
  (num_Reader_String k v36 (b0.1, (b0.2.1, (b0.2.2.1, ())))).bind fun t37 => let v38 : Int := a.2.1
  (bedrockref01_Reader_String k (m.1, (m.2.1, (m.2.2.1, ()))) v38).bind fun t39 => let v40 : ByteArray := t39.2.1
  K ((t39.1.1, (t39.1.2.1, (t39.1.2.2.1, ()))), ((strEq t37.1 v40), ((t37.2.1.1, (t37.2.1.2.1, (t37.2.1.2.2.1, ()))), ())))) else (bif (v0 == (8 : Int)) then ((num_Reader_Hash k (b0.1, (b0.2.1, (b0.2.2.1, ())))).bind fun t41 => (bedrockref01_Reader_Take k (m.1, (m.2.1, (m.2.2.1, ()))) (32 : Int)).bind fun t42 => let v43 : ByteArray := t42.2.1
  let v44 : Int := t42.1.2.2.1
  bif (v44 == (0 : Int)) then (let v45 : ByteArray := (bytesOf (List.take 32 (List.drop 0 t41.1)))
  bif (strEq v45 v43) then (K ((t42.1.1, (t42.1.2.1, (t42.1.2.2.1, ()))), (true, ((t41.2.1.1, (t41.2.1.2.1, (t41.2.1.2.2.1, ()))), ())))) else (let v46 : Int := t42.1.2.2.1
  bif (v46 != (0 : Int)) then (let v47 : List Int := t41.1
  let v48 : List Int := (List.replicate 32 (0 : Int))
  K ((t42.1.1, (t42.1.2.1, (t42.1.2.2.1, ()))), ((decide (v47 = v48)), ((t41.2.1.1, (t41.2.1.2.1, (t41.2.1.2.2.1, ()))), ())))) else (K ((t42.1.1, (t42.1.2.1, (t42.1.2.2.1, ()))), (false, ((t41.2.1.1, (t41.2.1.2.1, (t41.2.1.2.2.1, ()))), ())))))) else (let v49 : Int := t42.1.2.2.1
  bif (v49 != (0 : Int)) then (let v50 : List Int := t41.1
  let v51 : List Int := (List.replicate 32 (0 : Int))
  K ((t42.1.1, (t42.1.2.1, (t42.1.2.2.1, ()))), ((decide (v50 = v51)), ((t41.2.1.1, (t41.2.1.2.1, (t41.2.1.2.2.1, ()))), ())))) else (K ((t42.1.1, (t42.1.2.1, (t42.1.2.2.1, ()))), (false, ((t41.2.1.1, (t41.2.1.2.1, (t41.2.1.2.2.1, ()))), ())))))) else (bif (v0 == (9 : Int)) then ((num_Reader_Bool k (b0.1, (b0.2.1, (b0.2.2.1, ())))).bind fun t52 => (bedrockref01_Reader_Bool k (m.1, (m.2.1, (m.2.2.1, ())))).bind fun t53 => K ((t53.1.1, (t53.1.2.1, (t53.1.2.2.1, ()))), ((t52.1 == t53.2.1), ((t52.2.1.1, (t52.2.1.2.1, (t52.2.1.2.2.1, ()))), ())))) else (bif (v0 == (10 : Int)) then (let v54 : Int := a.2.1
  (num_Reader_Fail k v54 (b0.1, (b0.2.1, (b0.2.2.1, ())))).bind fun t55 => let v56 : Int := m.2.2.1
  bif (v56 == (0 : Int)) then (let v57 : Int := a.2.1
  K ((m.1, (m.2.1, (v57, ()))), (true, ((t55.1.1, (t55.1.2.1, (t55.1.2.2.1, ()))), ())))) else (K ((m.1, (m.2.1, (m.2.2.1, ()))), (true, ((t55.1.1, (t55.1.2.1, (t55.1.2.2.1, ()))), ()))))) else ((num_Reader_End k (b0.1, (b0.2.1, (b0.2.2.1, ())))).bind fun t58 => (bedrockref01_Reader_End k (m.1, (m.2.1, (m.2.2.1, ())))).bind fun t59 => let v60 : Int := t59.1.2.2.1
  K ((t59.1.1, (t59.1.2.1, (t59.1.2.2.1, ()))), ((t58.1 == v60), ((t58.2.1.1, (t58.2.1.2.1, (t58.2.1.2.2.1, ()))), ()))))))))))))))
def bedrocklaw01_one (k : Nat) (m : (ByteArray × (Int × (Int × Unit)))) (a : (Int × (Int × (Int × (ByteArray × Unit))))) (b0 : (ByteArray × (Int × (Int × Unit)))) : Option bedrocklaw01_one.τ := bedrocklaw01_one.c k m a b0 some
def bedrocklaw01_one.T : CallT := ⟨[.ptr 0 [], .dat (.pair .str (.pair (.int .i64) (.pair (.int .i64) .unit))), .dat (.pair (.int .i64) (.pair (.int .i64) (.pair (.int .u64) (.pair .str .unit))))], [.dat (.pair .str (.pair (.int .i64) (.pair (.int .i64) .unit)))], 1⟩
def bedrocklaw01_one.os : List Out := [⟨.ret, [.freeze (.slot 0), .freeze (.slot 1), .auto 1], ⟨[.dat (.pair .str (.pair (.int .i64) (.pair (.int .i64) .unit))), .dat .bool], [.dat (.pair .str (.pair (.int .i64) (.pair (.int .i64) .unit)))]⟩⟩]
def bedrocklaw01_one.sem (k : Nat) : CallSem := callH bedrocklaw01_one.T bedrocklaw01_one.os fun x => bedrocklaw01_one k x.1 x.2.1 x.2.2.1
noncomputable def bedrocklaw01_one.ctx (k : Nat) : Ctx := ⟨Try.prog, gam [(66, (num_Reader_Byte.sem k)), (93, (bedrockref01_Reader_Take.sem k)), (79, (bedrockref01_Get.sem k)), (67, (num_Reader_U16.sem k)), (68, (num_Reader_U32.sem k)), (69, (num_Reader_U64.sem k)), (70, (num_Reader_Big16.sem k)), (45, (bedrockref01_Turned.sem k)), (71, (num_Reader_Count.sem k)), (94, (bedrockref01_Reader_Count.sem k)), (72, (num_Reader_Bytes.sem k)), (73, (num_Reader_String.sem k)), (95, (bedrockref01_Reader_String.sem k)), (74, (num_Reader_Hash.sem k)), (75, (num_Reader_Bool.sem k)), (96, (bedrockref01_Reader_Bool.sem k)), (65, (num_Reader_Fail.sem k)), (64, (num_Reader_End.sem k)), (97, (bedrockref01_Reader_End.sem k))]⟩
theorem bedrocklaw01_one.gok (k : Nat) : ∀ f, SemOK Try.prog f ((bedrocklaw01_one.ctx k).Γ f) := (gam_cons (num_Reader_Byte.sem_ok k) (gam_cons (bedrockref01_Reader_Take.sem_ok k) (gam_cons (bedrockref01_Get.sem_ok k) (gam_cons (num_Reader_U16.sem_ok k) (gam_cons (num_Reader_U32.sem_ok k) (gam_cons (num_Reader_U64.sem_ok k) (gam_cons (num_Reader_Big16.sem_ok k) (gam_cons (bedrockref01_Turned.sem_ok k) (gam_cons (num_Reader_Count.sem_ok k) (gam_cons (bedrockref01_Reader_Count.sem_ok k) (gam_cons (num_Reader_Bytes.sem_ok k) (gam_cons (num_Reader_String.sem_ok k) (gam_cons (bedrockref01_Reader_String.sem_ok k) (gam_cons (num_Reader_Hash.sem_ok k) (gam_cons (num_Reader_Bool.sem_ok k) (gam_cons (bedrockref01_Reader_Bool.sem_ok k) (gam_cons (num_Reader_Fail.sem_ok k) (gam_cons (num_Reader_End.sem_ok k) (gam_cons (bedrockref01_Reader_End.sem_ok k) gam_nil)))))))))))))))))))
def bedrocklaw01_one.ann (k : Nat) : Ann := .nil
theorem bedrocklaw01_one.body (k : Nat) : BodyH (bedrocklaw01_one.ctx k) Try.f49 (Func.code Try.f49) (bedrocklaw01_one.ann k) bedrocklaw01_one.T bedrocklaw01_one.os (fun x K => bedrocklaw01_one.c k x.1 x.2.1 x.2.2.1 K) := by
  intro ρ x K; kernel_rfl
theorem bedrocklaw01_one.sem_ok (k : Nat) : SemOK Try.prog 49 (bedrocklaw01_one.sem k) :=
  callH_ok (C := bedrocklaw01_one.ctx k) (bedrocklaw01_one.gok k) Try.mix (c := Func.code Try.f49) (ann := bedrocklaw01_one.ann k) (T := bedrocklaw01_one.T) (os := bedrocklaw01_one.os) (fun x K => bedrocklaw01_one.c k x.1 x.2.1 x.2.2.1 K) Try.func49 (by kernel_rfl) (by kernel_rfl) AnnOK.nil (bedrocklaw01_one.body k) (by kernel_rfl) (by kernel_rfl) (by kernel_rfl)

/-! 51 (*bedrock/num.Reader).At · with blocks -/
abbrev num_Reader_At.τ : Type := (Int × (ByteArray × (Int × (Int × Unit))) × Unit)
def num_Reader_At.c (k : Nat) {ρ : Type} (b0 : (ByteArray × (Int × (Int × Unit)))) (K : num_Reader_At.τ → Option ρ) : Option ρ :=
  let v0 : Int := b0.2.1
  K (v0, ((b0.1, (b0.2.1, (b0.2.2.1, ()))), ()))
def num_Reader_At (k : Nat) (b0 : (ByteArray × (Int × (Int × Unit)))) : Option num_Reader_At.τ := num_Reader_At.c k b0 some
def num_Reader_At.T : CallT := ⟨[.ptr 0 []], [.dat (.pair .str (.pair (.int .i64) (.pair (.int .i64) .unit)))], 1⟩
def num_Reader_At.os : List Out := [⟨.ret, [.freeze (.slot 0), .auto 1], ⟨[.dat (.int .i64)], [.dat (.pair .str (.pair (.int .i64) (.pair (.int .i64) .unit)))]⟩⟩]
def num_Reader_At.sem (k : Nat) : CallSem := callH num_Reader_At.T num_Reader_At.os fun x => num_Reader_At k x.1
noncomputable def num_Reader_At.ctx (k : Nat) : Ctx := ⟨Try.prog, gam []⟩
theorem num_Reader_At.gok (k : Nat) : ∀ f, SemOK Try.prog f ((num_Reader_At.ctx k).Γ f) := gam_nil
def num_Reader_At.ann (k : Nat) : Ann := .nil
theorem num_Reader_At.body (k : Nat) : BodyH (num_Reader_At.ctx k) Try.f51 (Func.code Try.f51) (num_Reader_At.ann k) num_Reader_At.T num_Reader_At.os (fun x K => num_Reader_At.c k x.1 K) := by
  intro ρ x K; kernel_rfl
theorem num_Reader_At.sem_ok (k : Nat) : SemOK Try.prog 51 (num_Reader_At.sem k) :=
  callH_ok (C := num_Reader_At.ctx k) (num_Reader_At.gok k) Try.mix (c := Func.code Try.f51) (ann := num_Reader_At.ann k) (T := num_Reader_At.T) (os := num_Reader_At.os) (fun x K => num_Reader_At.c k x.1 K) Try.func51 (by kernel_rfl) (by kernel_rfl) AnnOK.nil (num_Reader_At.body k) (by kernel_rfl) (by kernel_rfl) (by kernel_rfl)

/-! 10 bedrock/bedrocklaw01.NumReads -/
abbrev bedrocklaw01_NumReads.p0.σ : Type := ByteArray × (List (Int × (Int × (Int × (ByteArray × Unit))))) × (ByteArray × (Int × (Int × Unit))) × Unit
abbrev bedrocklaw01_NumReads.p0.τ : Type := (Bool × Unit) ⊕ (ByteArray × (List (Int × (Int × (Int × (ByteArray × Unit))))) × (ByteArray × (Int × (Int × Unit))) × Unit)
def bedrocklaw01_NumReads.p0.r (k : Nat) {ρ : Type} (x : bedrocklaw01_NumReads.p0.σ) (K : bedrocklaw01_NumReads.p0.τ → Option ρ) : Option ρ :=
  (bedrocklaw01_awake k ).bind fun t1 => bif (!t1.1) then (K (.inl (false, ()))) else (K (.inr (x.1, (x.2.1, ((x.2.2.1.1, (x.2.2.1.2.1, (x.2.2.1.2.2.1, ()))), ())))))
def bedrocklaw01_NumReads.p0 (k : Nat) (x : bedrocklaw01_NumReads.p0.σ) : Option bedrocklaw01_NumReads.p0.τ := bedrocklaw01_NumReads.p0.r k x some
def bedrocklaw01_NumReads.p0.T : StT := ⟨.dat .str :: .dat (.sl (.pair (.int .i64) (.pair (.int .i64) (.pair (.int .u64) (.pair .str .unit))))) :: us 3 ++ .ptr 0 [] :: us 55, [.dat (.pair .str (.pair (.int .i64) (.pair (.int .i64) .unit)))]⟩
def bedrocklaw01_NumReads.p0.os : List Out := [⟨.ret, [.mask [4], .auto 0], ⟨us 4 ++ .dat .bool :: us 56, []⟩⟩, ⟨.normal, [.mask [0, 1, 5], .auto 0], ⟨.dat .str :: .dat (.sl (.pair (.int .i64) (.pair (.int .i64) (.pair (.int .u64) (.pair .str .unit))))) :: us 3 ++ .ptr 0 [] :: us 55, [.dat (.pair .str (.pair (.int .i64) (.pair (.int .i64) .unit)))]⟩⟩]
abbrev bedrocklaw01_NumReads.l1.σ : Type := ByteArray × (List (Int × (Int × (Int × (ByteArray × Unit))))) × Int × (ByteArray × (Int × (Int × Unit))) × (ByteArray × (Int × (Int × Unit))) × Unit
abbrev bedrocklaw01_NumReads.l1.τ : Type := (Bool × Unit) ⊕ (Unit)
def bedrocklaw01_NumReads.l1.r (k : Nat) {ρ : Type} (x : bedrocklaw01_NumReads.l1.σ) (kn : bedrocklaw01_NumReads.l1.σ → Option ρ) (ke : bedrocklaw01_NumReads.l1.τ → Option ρ) : Option ρ :=
  let v5 : Int := (((List.length x.2.1) : Nat) : Int)
  bif (decide (x.2.2.1 < v5)) then (bif (decide (((0 : Int) ≤ x.2.2.1) ∧ (x.2.2.1 < (((List.length x.2.1) : Nat) : Int)))) then ((bedrocklaw01_one k (x.2.2.2.2.1.1, (x.2.2.2.2.1.2.1, (x.2.2.2.2.1.2.2.1, ()))) ((List.getD x.2.1 (Int.toNat x.2.2.1) ((0 : Int), ((0 : Int), ((0 : Int), (ByteArray.empty, ()))))).1, ((List.getD x.2.1 (Int.toNat x.2.2.1) ((0 : Int), ((0 : Int), ((0 : Int), (ByteArray.empty, ()))))).2.1, ((List.getD x.2.1 (Int.toNat x.2.2.1) ((0 : Int), ((0 : Int), ((0 : Int), (ByteArray.empty, ()))))).2.2.1, ((List.getD x.2.1 (Int.toNat x.2.2.1) ((0 : Int), ((0 : Int), ((0 : Int), (ByteArray.empty, ()))))).2.2.2.1, ())))) (x.2.2.2.1.1, (x.2.2.2.1.2.1, (x.2.2.2.1.2.2.1, ())))).bind fun t6 => bif (!t6.2.1) then (ke (.inl (false, ()))) else ((num_Reader_Err k (t6.2.2.1.1, (t6.2.2.1.2.1, (t6.2.2.1.2.2.1, ())))).bind fun t7 => let v8 : Int := t6.1.2.2.1
  bif (t7.1 != v8) then (ke (.inl (false, ()))) else ((num_Reader_At k (t7.2.1.1, (t7.2.1.2.1, (t7.2.1.2.2.1, ())))).bind fun t9 => let v10 : Int := t6.1.2.1
  bif (t9.1 != v10) then (ke (.inl (false, ()))) else ((num_Reader_Left k (t9.2.1.1, (t9.2.1.2.1, (t9.2.1.2.2.1, ())))).bind fun t11 => let v12 : Int := (((ByteArray.size x.1) : Nat) : Int)
  let v13 : Int := t6.1.2.1
  let v14 : Int := (IntKind.wrap IntKind.i64 (v12 - v13))
  bif (t11.1 != v14) then (ke (.inl (false, ()))) else (let v15 : Int := (IntKind.wrap IntKind.i64 (x.2.2.1 + (1 : Int)))
  kn (x.1, (x.2.1, (v15, ((t11.2.1.1, (t11.2.1.2.1, (t11.2.1.2.2.1, ()))), ((t6.1.1, (t6.1.2.1, (t6.1.2.2.1, ()))), ())))))))))) else (none)) else (ke (.inr ()))
def bedrocklaw01_NumReads.l1 (k : Nat) : Nat → bedrocklaw01_NumReads.l1.σ → Option bedrocklaw01_NumReads.l1.τ := loopJ (bedrocklaw01_NumReads.l1.r k)
def bedrocklaw01_NumReads.l1.T : StT := ⟨.dat .str :: .dat (.sl (.pair (.int .i64) (.pair (.int .i64) (.pair (.int .u64) (.pair .str .unit))))) :: us 3 ++ .ptr 0 [] :: .ptr 1 [] :: .dat (.int .i64) :: us 53, [.dat (.pair .str (.pair (.int .i64) (.pair (.int .i64) .unit))), .dat (.pair .str (.pair (.int .i64) (.pair (.int .i64) .unit)))]⟩
def bedrocklaw01_NumReads.l1.os : List Out := [⟨.ret, [.mask [4], .auto 0], ⟨us 4 ++ .dat .bool :: us 56, []⟩⟩, ⟨(.exit 0), [.mask [], .auto 0], ⟨us 61, []⟩⟩]
def bedrocklaw01_NumReads.c (k : Nat) {ρ : Type} (s : ByteArray) (l : (List (Int × (Int × (Int × (ByteArray × Unit)))))) (K : Bool × Unit → Option ρ) : Option ρ :=
  (num_NewReader k s).bind fun t0 => (bedrocklaw01_NumReads.p0 k (s, (l, ((t0.1.1, (t0.1.2.1, (t0.1.2.2.1, ()))), ())))).bind fun t2 => (match t2 with | .inl t3 => (K (t3.1, ())) | .inr (t4) => ((bedrocklaw01_NumReads.l1 k k (t4.1, (t4.2.1, ((0 : Int), ((t4.2.2.1.1, (t4.2.2.1.2.1, (t4.2.2.1.2.2.1, ()))), ((t4.1, ((0 : Int), ((0 : Int), ()))), ())))))).bind fun t16 => (match t16 with | .inl t17 => (K (t17.1, ())) | .inr (t18) => (K (true, ())))))
def bedrocklaw01_NumReads (k : Nat) (s : ByteArray) (l : (List (Int × (Int × (Int × (ByteArray × Unit)))))) : Option (Bool × Unit) := bedrocklaw01_NumReads.c k s l some
def bedrocklaw01_NumReads.tin : List Ty := [.str, (.sl (.pair (.int .i64) (.pair (.int .i64) (.pair (.int .u64) (.pair .str .unit)))))]
def bedrocklaw01_NumReads.tout : List Ty := [.bool]
def bedrocklaw01_NumReads.sem (k : Nat) : CallSem := callPure bedrocklaw01_NumReads.tin bedrocklaw01_NumReads.tout fun x => bedrocklaw01_NumReads k x.1 x.2.1
noncomputable def bedrocklaw01_NumReads.ctx (k : Nat) : Ctx := ⟨Try.prog, gam [(48, (num_NewReader.sem k)), (18, (bedrocklaw01_awake.sem k)), (49, (bedrocklaw01_one.sem k)), (50, (num_Reader_Err.sem k)), (51, (num_Reader_At.sem k)), (52, (num_Reader_Left.sem k))]⟩
theorem bedrocklaw01_NumReads.gok (k : Nat) : ∀ f, SemOK Try.prog f ((bedrocklaw01_NumReads.ctx k).Γ f) := (gam_cons (num_NewReader.sem_ok k) (gam_cons (bedrocklaw01_awake.sem_ok k) (gam_cons (bedrocklaw01_one.sem_ok k) (gam_cons (num_Reader_Err.sem_ok k) (gam_cons (num_Reader_At.sem_ok k) (gam_cons (num_Reader_Left.sem_ok k) gam_nil))))))
theorem bedrocklaw01_NumReads.p0.is (k : Nat) : PieceIs (bedrocklaw01_NumReads.ctx k) (codeAt (Func.code Try.f10) [1, 1, 0]) (.nil) bedrocklaw01_NumReads.p0.T bedrocklaw01_NumReads.p0.os (bedrocklaw01_NumReads.p0.r k) := by
  intro ρ x K; kernel_rfl
theorem bedrocklaw01_NumReads.p0.ok (k : Nat) : StOK 0 Try.prog (codeAt (Func.code Try.f10) [1, 1, 0]) (pieceSem bedrocklaw01_NumReads.p0.T bedrocklaw01_NumReads.p0.os (bedrocklaw01_NumReads.p0 k)) :=
  piece_ok (C := bedrocklaw01_NumReads.ctx k) (T := bedrocklaw01_NumReads.p0.T) (os := bedrocklaw01_NumReads.p0.os) (bedrocklaw01_NumReads.gok k) Try.mix (fun x K => bedrocklaw01_NumReads.p0.r k x K) AnnOK.nil (by kernel_rfl) (by kernel_rfl) (bedrocklaw01_NumReads.p0.is k)
theorem bedrocklaw01_NumReads.l1.round (k : Nat) : RoundIs (bedrocklaw01_NumReads.ctx k) (codeAt (Func.code Try.f10) [1, 1, 1, 1, 0, 1, 0, 0]) (.nil) bedrocklaw01_NumReads.l1.T [.mask [0, 1, 5, 6, 7], .auto 0] bedrocklaw01_NumReads.l1.os (bedrocklaw01_NumReads.l1.r k) := by
  intro ρ x kn ke; kernel_rfl
theorem bedrocklaw01_NumReads.l1.ok (k : Nat) : StOK 0 Try.prog (.loop (codeAt (Func.code Try.f10) [1, 1, 1, 1, 0, 1, 0, 0])) (pieceSem bedrocklaw01_NumReads.l1.T bedrocklaw01_NumReads.l1.os (bedrocklaw01_NumReads.l1 k k)) :=
  loop_ok (C := bedrocklaw01_NumReads.ctx k) (bedrocklaw01_NumReads.gok k) Try.mix AnnOK.nil (by kernel_rfl) (by kernel_rfl) (by kernel_rfl) (bedrocklaw01_NumReads.l1.round k) k
def bedrocklaw01_NumReads.ann (k : Nat) : Ann := .node [] none (.nil) (.node [] none (.nil) (.node [] none (.node [.mask [0, 1, 5], .auto 0] (some (pieceSem bedrocklaw01_NumReads.p0.T bedrocklaw01_NumReads.p0.os (bedrocklaw01_NumReads.p0 k))) .nil .nil) (.node [] none (.nil) (.node [] none (.node [] none (.nil) (.node [] none (.node [.mask [0, 1, 5, 6, 7], .auto 0] (some (pieceSem bedrocklaw01_NumReads.l1.T bedrocklaw01_NumReads.l1.os (bedrocklaw01_NumReads.l1 k k))) .nil .nil) (.nil))) (.nil)))))
theorem bedrocklaw01_NumReads.body (k : Nat) : BodyIs (bedrocklaw01_NumReads.ctx k) Try.f10 (Func.code Try.f10) (bedrocklaw01_NumReads.ann k) bedrocklaw01_NumReads.tin bedrocklaw01_NumReads.tout (fun x K => bedrocklaw01_NumReads.c k x.1 x.2.1 K) := by
  intro ρ x K; kernel_rfl
theorem bedrocklaw01_NumReads.sem_ok (k : Nat) : SemOK Try.prog 10 (bedrocklaw01_NumReads.sem k) :=
  callPure_ok (C := bedrocklaw01_NumReads.ctx k) (bedrocklaw01_NumReads.gok k) Try.mix (c := Func.code Try.f10) (ann := bedrocklaw01_NumReads.ann k) (tin := bedrocklaw01_NumReads.tin) (tout := bedrocklaw01_NumReads.tout) (fun x K => bedrocklaw01_NumReads.c k x.1 x.2.1 K) Try.func10 (by kernel_rfl) (by kernel_rfl) (AnnOK.seq AnnOK.nil (AnnOK.seq AnnOK.nil (AnnOK.seq (AnnOK.loop (by kernel_rfl) (bedrocklaw01_NumReads.p0.ok k)) (AnnOK.seq AnnOK.nil (AnnOK.seq (AnnOK.seq AnnOK.nil (AnnOK.block (AnnOK.loop (by kernel_rfl) (bedrocklaw01_NumReads.l1.ok k)))) AnnOK.nil))))) (bedrocklaw01_NumReads.body k)

end Go.Am
