/- A part of a proof: a machine of abstract values that tells what functions of the program compute, and the plain facts on them. -/
import Derived.Test.YtnibopdcpbebcaaAm9
import Derived.KernelRfl
set_option linter.unusedVariables false
set_option linter.unusedSimpArgs false
set_option linter.unnecessarySimpa false
set_option linter.unusedSectionVars false
namespace Go.Am
open Go Go.Proofs
set_option maxRecDepth 100000
/-! 15 bedrock/block.IsCoinbase -/
def block_IsCoinbase.c (k : Nat) {ρ : Type} (t : (Int × ((List (((List Int) × (Int × Unit)) × (ByteArray × (Int × Unit)))) × ((List (Int × (ByteArray × Unit))) × (Int × Unit))))) (K : Bool × Unit → Option ρ) : Option ρ :=
  let v0 : (List (((List Int) × (Int × Unit)) × (ByteArray × (Int × Unit)))) := t.2.1
  let v1 : Int := (((List.length v0) : Nat) : Int)
  bif (v1 == (1 : Int)) then (let v2 : (List (((List Int) × (Int × Unit)) × (ByteArray × (Int × Unit)))) := t.2.1
  bif (decide (((0 : Int) ≤ (0 : Int)) ∧ ((0 : Int) < (((List.length v2) : Nat) : Int)))) then (K (((decide ((List.getD v2 0 (((List.replicate 32 (0 : Int)), ((0 : Int), ())), (ByteArray.empty, ((0 : Int), ())))).1.1 = (List.replicate 32 (0 : Int)))) && (((List.getD v2 0 (((List.replicate 32 (0 : Int)), ((0 : Int), ())), (ByteArray.empty, ((0 : Int), ())))).1.2.1 == (4294967295 : Int)) && true)), ())) else (none)) else (K (false, ()))
def block_IsCoinbase (k : Nat) (t : (Int × ((List (((List Int) × (Int × Unit)) × (ByteArray × (Int × Unit)))) × ((List (Int × (ByteArray × Unit))) × (Int × Unit))))) : Option (Bool × Unit) := block_IsCoinbase.c k t some
def block_IsCoinbase.tin : List Ty := [(.pair (.int .u32) (.pair (.sl (.pair (.pair (.arr 32 (.int .u8)) (.pair (.int .u32) .unit)) (.pair .str (.pair (.int .u32) .unit)))) (.pair (.sl (.pair (.int .u64) (.pair .str .unit))) (.pair (.int .u32) .unit))))]
def block_IsCoinbase.tout : List Ty := [.bool]
def block_IsCoinbase.sem (k : Nat) : CallSem := callPure block_IsCoinbase.tin block_IsCoinbase.tout fun x => block_IsCoinbase k x.1
noncomputable def block_IsCoinbase.ctx (k : Nat) : Ctx := ⟨Try.prog, gam []⟩
theorem block_IsCoinbase.gok (k : Nat) : ∀ f, SemOK Try.prog f ((block_IsCoinbase.ctx k).Γ f) := gam_nil
def block_IsCoinbase.ann (k : Nat) : Ann := .nil
theorem block_IsCoinbase.body (k : Nat) : BodyIs (block_IsCoinbase.ctx k) Try.f15 (Func.code Try.f15) (block_IsCoinbase.ann k) block_IsCoinbase.tin block_IsCoinbase.tout (fun x K => block_IsCoinbase.c k x.1 K) := by
  intro ρ x K; kernel_rfl
theorem block_IsCoinbase.sem_ok (k : Nat) : SemOK Try.prog 15 (block_IsCoinbase.sem k) :=
  callPure_ok (C := block_IsCoinbase.ctx k) (block_IsCoinbase.gok k) Try.mix (c := Func.code Try.f15) (ann := block_IsCoinbase.ann k) (tin := block_IsCoinbase.tin) (tout := block_IsCoinbase.tout) (fun x K => block_IsCoinbase.c k x.1 K) Try.func15 (by kernel_rfl) (by kernel_rfl) AnnOK.nil (block_IsCoinbase.body k)

/-! 31 bedrock/num.NewReader · with blocks -/
abbrev num_NewReader.τ : Type := ((ByteArray × (Int × (Int × Unit))) × Unit)
def num_NewReader.c (k : Nat) {ρ : Type} (s : ByteArray) (K : num_NewReader.τ → Option ρ) : Option ρ :=
  K ((s, ((0 : Int), ((0 : Int), ()))), ())
def num_NewReader (k : Nat) (s : ByteArray) : Option num_NewReader.τ := num_NewReader.c k s some
def num_NewReader.T : CallT := ⟨[.dat .str], [], 0⟩
def num_NewReader.os : List Out := [⟨.ret, [.auto 0], ⟨[.ptr 0 []], [.dat (.pair .str (.pair (.int .i64) (.pair (.int .i64) .unit)))]⟩⟩]
def num_NewReader.sem (k : Nat) : CallSem := callH num_NewReader.T num_NewReader.os fun x => num_NewReader k x.1
noncomputable def num_NewReader.ctx (k : Nat) : Ctx := ⟨Try.prog, gam []⟩
theorem num_NewReader.gok (k : Nat) : ∀ f, SemOK Try.prog f ((num_NewReader.ctx k).Γ f) := gam_nil
def num_NewReader.ann (k : Nat) : Ann := .nil
theorem num_NewReader.body (k : Nat) : BodyH (num_NewReader.ctx k) Try.f31 (Func.code Try.f31) (num_NewReader.ann k) num_NewReader.T num_NewReader.os (fun x K => num_NewReader.c k x.1 K) := by
  intro ρ x K; kernel_rfl
theorem num_NewReader.sem_ok (k : Nat) : SemOK Try.prog 31 (num_NewReader.sem k) :=
  callH_ok (C := num_NewReader.ctx k) (num_NewReader.gok k) Try.mix (c := Func.code Try.f31) (ann := num_NewReader.ann k) (T := num_NewReader.T) (os := num_NewReader.os) (fun x K => num_NewReader.c k x.1 K) Try.func31 (by kernel_rfl) (by kernel_rfl) AnnOK.nil (num_NewReader.body k) (by kernel_rfl) (by kernel_rfl) (by kernel_rfl)

/-! 33 (*bedrock/num.Reader).Err · with blocks -/
abbrev num_Reader_Err.τ : Type := (Int × (ByteArray × (Int × (Int × Unit))) × Unit)
def num_Reader_Err.c (k : Nat) {ρ : Type} (b0 : (ByteArray × (Int × (Int × Unit)))) (K : num_Reader_Err.τ → Option ρ) : Option ρ :=
  let v0 : Int := b0.2.2.1
  K (v0, ((b0.1, (b0.2.1, (b0.2.2.1, ()))), ()))
def num_Reader_Err (k : Nat) (b0 : (ByteArray × (Int × (Int × Unit)))) : Option num_Reader_Err.τ := num_Reader_Err.c k b0 some
def num_Reader_Err.T : CallT := ⟨[.ptr 0 []], [.dat (.pair .str (.pair (.int .i64) (.pair (.int .i64) .unit)))], 1⟩
def num_Reader_Err.os : List Out := [⟨.ret, [.freeze (.slot 0), .auto 1], ⟨[.dat (.int .i64)], [.dat (.pair .str (.pair (.int .i64) (.pair (.int .i64) .unit)))]⟩⟩]
def num_Reader_Err.sem (k : Nat) : CallSem := callH num_Reader_Err.T num_Reader_Err.os fun x => num_Reader_Err k x.1
noncomputable def num_Reader_Err.ctx (k : Nat) : Ctx := ⟨Try.prog, gam []⟩
theorem num_Reader_Err.gok (k : Nat) : ∀ f, SemOK Try.prog f ((num_Reader_Err.ctx k).Γ f) := gam_nil
def num_Reader_Err.ann (k : Nat) : Ann := .nil
theorem num_Reader_Err.body (k : Nat) : BodyH (num_Reader_Err.ctx k) Try.f33 (Func.code Try.f33) (num_Reader_Err.ann k) num_Reader_Err.T num_Reader_Err.os (fun x K => num_Reader_Err.c k x.1 K) := by
  intro ρ x K; kernel_rfl
theorem num_Reader_Err.sem_ok (k : Nat) : SemOK Try.prog 33 (num_Reader_Err.sem k) :=
  callH_ok (C := num_Reader_Err.ctx k) (num_Reader_Err.gok k) Try.mix (c := Func.code Try.f33) (ann := num_Reader_Err.ann k) (T := num_Reader_Err.T) (os := num_Reader_Err.os) (fun x K => num_Reader_Err.c k x.1 K) Try.func33 (by kernel_rfl) (by kernel_rfl) AnnOK.nil (num_Reader_Err.body k) (by kernel_rfl) (by kernel_rfl) (by kernel_rfl)

/-! 70 (*bedrock/num.Reader).Left · with blocks -/
abbrev num_Reader_Left.τ : Type := (Int × (ByteArray × (Int × (Int × Unit))) × Unit)
def num_Reader_Left.c (k : Nat) {ρ : Type} (b0 : (ByteArray × (Int × (Int × Unit)))) (K : num_Reader_Left.τ → Option ρ) : Option ρ :=
  let v0 : ByteArray := b0.1
  let v1 : Int := b0.2.1
  let v2 : Int := (IntKind.wrap IntKind.i64 ((((ByteArray.size v0) : Nat) : Int) - v1))
  K (v2, ((b0.1, (b0.2.1, (b0.2.2.1, ()))), ()))
def num_Reader_Left (k : Nat) (b0 : (ByteArray × (Int × (Int × Unit)))) : Option num_Reader_Left.τ := num_Reader_Left.c k b0 some
def num_Reader_Left.T : CallT := ⟨[.ptr 0 []], [.dat (.pair .str (.pair (.int .i64) (.pair (.int .i64) .unit)))], 1⟩
def num_Reader_Left.os : List Out := [⟨.ret, [.freeze (.slot 0), .auto 1], ⟨[.dat (.int .i64)], [.dat (.pair .str (.pair (.int .i64) (.pair (.int .i64) .unit)))]⟩⟩]
def num_Reader_Left.sem (k : Nat) : CallSem := callH num_Reader_Left.T num_Reader_Left.os fun x => num_Reader_Left k x.1
noncomputable def num_Reader_Left.ctx (k : Nat) : Ctx := ⟨Try.prog, gam []⟩
theorem num_Reader_Left.gok (k : Nat) : ∀ f, SemOK Try.prog f ((num_Reader_Left.ctx k).Γ f) := gam_nil
def num_Reader_Left.ann (k : Nat) : Ann := .nil
theorem num_Reader_Left.body (k : Nat) : BodyH (num_Reader_Left.ctx k) Try.f70 (Func.code Try.f70) (num_Reader_Left.ann k) num_Reader_Left.T num_Reader_Left.os (fun x K => num_Reader_Left.c k x.1 K) := by
  intro ρ x K; kernel_rfl
theorem num_Reader_Left.sem_ok (k : Nat) : SemOK Try.prog 70 (num_Reader_Left.sem k) :=
  callH_ok (C := num_Reader_Left.ctx k) (num_Reader_Left.gok k) Try.mix (c := Func.code Try.f70) (ann := num_Reader_Left.ann k) (T := num_Reader_Left.T) (os := num_Reader_Left.os) (fun x K => num_Reader_Left.c k x.1 K) Try.func70 (by kernel_rfl) (by kernel_rfl) AnnOK.nil (num_Reader_Left.body k) (by kernel_rfl) (by kernel_rfl) (by kernel_rfl)

/-! 49 (*bedrock/num.Reader).Bytes · with blocks -/
abbrev num_Reader_Bytes.τ : Type := (ByteArray × (ByteArray × (Int × (Int × Unit))) × Unit)
def num_Reader_Bytes.c (k : Nat) {ρ : Type} (n : Int) (b0 : (ByteArray × (Int × (Int × Unit)))) (K : num_Reader_Bytes.τ → Option ρ) : Option ρ :=
  (num_Reader_Err k (b0.1, (b0.2.1, (b0.2.2.1, ())))).bind fun t0 => bif (t0.1 != (0 : Int)) then (K ((⟨(List.toArray [])⟩ : ByteArray), ((t0.2.1.1, (t0.2.1.2.1, (t0.2.1.2.2.1, ()))), ()))) else (bif (decide (n < (0 : Int))) then (K ((⟨(List.toArray [])⟩ : ByteArray), ((t0.2.1.1, (t0.2.1.2.1, ((1 : Int), ()))), ()))) else ((num_Reader_Left k (t0.2.1.1, (t0.2.1.2.1, (t0.2.1.2.2.1, ())))).bind fun t1 => bif (decide (n > t1.1)) then (K ((⟨(List.toArray [])⟩ : ByteArray), ((t1.2.1.1, (t1.2.1.2.1, ((4 : Int), ()))), ()))) else (let v2 : Int := t1.2.1.2.1
  let v3 : Int := (IntKind.wrap IntKind.i64 (v2 + n))
  let v4 : ByteArray := t1.2.1.1
  let v5 : Int := (IntKind.wrap IntKind.i64 (v3 - n))
  bif (decide (((0 : Int) ≤ v5) ∧ ((v5 ≤ v3) ∧ (v3 ≤ (((ByteArray.size v4) : Nat) : Int))))) then (K ((ByteArray.extract v4 (Int.toNat v5) (Int.toNat v3)), ((t1.2.1.1, (v3, (t1.2.1.2.2.1, ()))), ()))) else (none))))
def num_Reader_Bytes (k : Nat) (n : Int) (b0 : (ByteArray × (Int × (Int × Unit)))) : Option num_Reader_Bytes.τ := num_Reader_Bytes.c k n b0 some
def num_Reader_Bytes.T : CallT := ⟨[.ptr 0 [], .dat (.int .i64)], [.dat (.pair .str (.pair (.int .i64) (.pair (.int .i64) .unit)))], 1⟩
def num_Reader_Bytes.os : List Out := [⟨.ret, [.freeze (.slot 0), .auto 1], ⟨[.dat .str], [.dat (.pair .str (.pair (.int .i64) (.pair (.int .i64) .unit)))]⟩⟩]
def num_Reader_Bytes.sem (k : Nat) : CallSem := callH num_Reader_Bytes.T num_Reader_Bytes.os fun x => num_Reader_Bytes k x.1 x.2.1
noncomputable def num_Reader_Bytes.ctx (k : Nat) : Ctx := ⟨Try.prog, gam [(33, (num_Reader_Err.sem k)), (70, (num_Reader_Left.sem k))]⟩
theorem num_Reader_Bytes.gok (k : Nat) : ∀ f, SemOK Try.prog f ((num_Reader_Bytes.ctx k).Γ f) := (gam_cons (num_Reader_Err.sem_ok k) (gam_cons (num_Reader_Left.sem_ok k) gam_nil))
def num_Reader_Bytes.ann (k : Nat) : Ann := .nil
theorem num_Reader_Bytes.body (k : Nat) : BodyH (num_Reader_Bytes.ctx k) Try.f49 (Func.code Try.f49) (num_Reader_Bytes.ann k) num_Reader_Bytes.T num_Reader_Bytes.os (fun x K => num_Reader_Bytes.c k x.1 x.2.1 K) := by
  intro ρ x K; kernel_rfl
theorem num_Reader_Bytes.sem_ok (k : Nat) : SemOK Try.prog 49 (num_Reader_Bytes.sem k) :=
  callH_ok (C := num_Reader_Bytes.ctx k) (num_Reader_Bytes.gok k) Try.mix (c := Func.code Try.f49) (ann := num_Reader_Bytes.ann k) (T := num_Reader_Bytes.T) (os := num_Reader_Bytes.os) (fun x K => num_Reader_Bytes.c k x.1 x.2.1 K) Try.func49 (by kernel_rfl) (by kernel_rfl) AnnOK.nil (num_Reader_Bytes.body k) (by kernel_rfl) (by kernel_rfl) (by kernel_rfl)

/-! 48 bedrock/num.take -/
abbrev num_take.l0.σ : Type := ByteArray × Int × Int × Int × Unit
abbrev num_take.l0.τ : Type := (Int × Unit)
def num_take.l0.r (k : Nat) {ρ : Type} (x : num_take.l0.σ) (kn : num_take.l0.σ → Option ρ) (ke : num_take.l0.τ → Option ρ) : Option ρ :=
  bif (decide (x.2.2.2.1 < x.2.2.1)) then (bif (decide (((0 : Int) ≤ x.2.2.2.1) ∧ (x.2.2.2.1 < (((ByteArray.size x.1) : Nat) : Int)))) then (let v0 : Int := (byteAt x.1 (Int.toNat x.2.2.2.1))
  let v1 : Int := (IntKind.wrap IntKind.i64 ((8 : Int) * x.2.2.2.1))
  bif (decide ((0 : Int) ≤ v1)) then (let v2 : Int := (bitsOp BinOp.or IntKind.u64 x.2.1 (shlOp IntKind.u64 (IntKind.wrap IntKind.u64 v0) v1))
  let v3 : Int := (IntKind.wrap IntKind.i64 (x.2.2.2.1 + (1 : Int)))
  kn (x.1, (v2, (x.2.2.1, (v3, ()))))) else (none)) else (none)) else (ke (x.2.1, ()))
def num_take.l0 (k : Nat) : Nat → num_take.l0.σ → Option num_take.l0.τ := loopJ (num_take.l0.r k)
def num_take.l0.T : StT := ⟨.dat .str :: us 2 ++ .dat (.int .u64) :: us 2 ++ .dat (.int .i64) :: .dat (.int .i64) :: us 13, []⟩
def num_take.l0.os : List Out := [⟨(.exit 0), [.mask [3], .auto 0], ⟨us 3 ++ .dat (.int .u64) :: us 17, []⟩⟩]
def num_take.c (k : Nat) {ρ : Type} (s : ByteArray) (K : Int × Unit → Option ρ) : Option ρ :=
  (num_take.l0 k k (s, ((0 : Int), ((((ByteArray.size s) : Nat) : Int), ((0 : Int), ()))))).bind fun t4 => K (t4.1, ())
def num_take (k : Nat) (s : ByteArray) : Option (Int × Unit) := num_take.c k s some
def num_take.tin : List Ty := [.str]
def num_take.tout : List Ty := [(.int .u64)]
def num_take.sem (k : Nat) : CallSem := callPure num_take.tin num_take.tout fun x => num_take k x.1
noncomputable def num_take.ctx (k : Nat) : Ctx := ⟨Try.prog, gam []⟩
theorem num_take.gok (k : Nat) : ∀ f, SemOK Try.prog f ((num_take.ctx k).Γ f) := gam_nil
theorem num_take.l0.round (k : Nat) : RoundIs (num_take.ctx k) (codeAt (Func.code Try.f48) [1, 1, 0, 1, 0, 0]) (.nil) num_take.l0.T [.mask [0, 3, 6, 7], .auto 0] num_take.l0.os (num_take.l0.r k) := by
  intro ρ x kn ke; kernel_rfl
theorem num_take.l0.ok (k : Nat) : StOK 0 Try.prog (.loop (codeAt (Func.code Try.f48) [1, 1, 0, 1, 0, 0])) (pieceSem num_take.l0.T num_take.l0.os (num_take.l0 k k)) :=
  loop_ok (C := num_take.ctx k) (num_take.gok k) Try.mix AnnOK.nil (by kernel_rfl) (by kernel_rfl) (by kernel_rfl) (num_take.l0.round k) k
def num_take.ann (k : Nat) : Ann := .node [] none (.nil) (.node [] none (.nil) (.node [] none (.node [] none (.nil) (.node [] none (.node [] (some (pieceSem num_take.l0.T num_take.l0.os (num_take.l0 k k))) .nil .nil) (.nil))) (.nil)))
theorem num_take.body (k : Nat) : BodyIs (num_take.ctx k) Try.f48 (Func.code Try.f48) (num_take.ann k) num_take.tin num_take.tout (fun x K => num_take.c k x.1 K) := by
  intro ρ x K; kernel_rfl
theorem num_take.sem_ok (k : Nat) : SemOK Try.prog 48 (num_take.sem k) :=
  callPure_ok (C := num_take.ctx k) (num_take.gok k) Try.mix (c := Func.code Try.f48) (ann := num_take.ann k) (tin := num_take.tin) (tout := num_take.tout) (fun x K => num_take.c k x.1 K) Try.func48 (by kernel_rfl) (by kernel_rfl) (AnnOK.seq AnnOK.nil (AnnOK.seq AnnOK.nil (AnnOK.seq (AnnOK.seq AnnOK.nil (AnnOK.block (AnnOK.loop (by kernel_rfl) (num_take.l0.ok k)))) AnnOK.nil))) (num_take.body k)

/-! 32 (*bedrock/num.Reader).U32 · with blocks -/
abbrev num_Reader_U32.τ : Type := (Int × (ByteArray × (Int × (Int × Unit))) × Unit)
def num_Reader_U32.c (k : Nat) {ρ : Type} (b0 : (ByteArray × (Int × (Int × Unit)))) (K : num_Reader_U32.τ → Option ρ) : Option ρ :=
  (num_Reader_Bytes k (4 : Int) (b0.1, (b0.2.1, (b0.2.2.1, ())))).bind fun t0 => (num_take k t0.1).bind fun t1 => let v2 : Int := (IntKind.wrap IntKind.u32 t1.1)
  K (v2, ((t0.2.1.1, (t0.2.1.2.1, (t0.2.1.2.2.1, ()))), ()))
def num_Reader_U32 (k : Nat) (b0 : (ByteArray × (Int × (Int × Unit)))) : Option num_Reader_U32.τ := num_Reader_U32.c k b0 some
def num_Reader_U32.T : CallT := ⟨[.ptr 0 []], [.dat (.pair .str (.pair (.int .i64) (.pair (.int .i64) .unit)))], 1⟩
def num_Reader_U32.os : List Out := [⟨.ret, [.freeze (.slot 0), .auto 1], ⟨[.dat (.int .u32)], [.dat (.pair .str (.pair (.int .i64) (.pair (.int .i64) .unit)))]⟩⟩]
def num_Reader_U32.sem (k : Nat) : CallSem := callH num_Reader_U32.T num_Reader_U32.os fun x => num_Reader_U32 k x.1
noncomputable def num_Reader_U32.ctx (k : Nat) : Ctx := ⟨Try.prog, gam [(49, (num_Reader_Bytes.sem k)), (48, (num_take.sem k))]⟩
theorem num_Reader_U32.gok (k : Nat) : ∀ f, SemOK Try.prog f ((num_Reader_U32.ctx k).Γ f) := (gam_cons (num_Reader_Bytes.sem_ok k) (gam_cons (num_take.sem_ok k) gam_nil))
def num_Reader_U32.ann (k : Nat) : Ann := .nil
theorem num_Reader_U32.body (k : Nat) : BodyH (num_Reader_U32.ctx k) Try.f32 (Func.code Try.f32) (num_Reader_U32.ann k) num_Reader_U32.T num_Reader_U32.os (fun x K => num_Reader_U32.c k x.1 K) := by
  intro ρ x K; kernel_rfl
theorem num_Reader_U32.sem_ok (k : Nat) : SemOK Try.prog 32 (num_Reader_U32.sem k) :=
  callH_ok (C := num_Reader_U32.ctx k) (num_Reader_U32.gok k) Try.mix (c := Func.code Try.f32) (ann := num_Reader_U32.ann k) (T := num_Reader_U32.T) (os := num_Reader_U32.os) (fun x K => num_Reader_U32.c k x.1 K) Try.func32 (by kernel_rfl) (by kernel_rfl) AnnOK.nil (num_Reader_U32.body k) (by kernel_rfl) (by kernel_rfl) (by kernel_rfl)

/-! 12 bedrock/block.Height -/
def block_Height.c (k : Nat) {ρ : Type} (t : (Int × ((List (((List Int) × (Int × Unit)) × (ByteArray × (Int × Unit)))) × ((List (Int × (ByteArray × Unit))) × (Int × Unit))))) (K : Int × Bool × Unit → Option ρ) : Option ρ :=
  (block_IsCoinbase k (t.1, (t.2.1, (t.2.2.1, (t.2.2.2.1, ()))))).bind fun t0 => bif (!t0.1) then (K ((0 : Int), (false, ()))) else (let v1 : (List (((List Int) × (Int × Unit)) × (ByteArray × (Int × Unit)))) := t.2.1
  bif (decide (((0 : Int) ≤ (0 : Int)) ∧ ((0 : Int) < (((List.length v1) : Nat) : Int)))) then (let v2 : ByteArray := (List.getD v1 0 (((List.replicate 32 (0 : Int)), ((0 : Int), ())), (ByteArray.empty, ((0 : Int), ())))).2.1
  (num_NewReader k v2).bind fun t3 => (num_Reader_U32 k (t3.1.1, (t3.1.2.1, (t3.1.2.2.1, ())))).bind fun t4 => (num_Reader_Err k (t4.2.1.1, (t4.2.1.2.1, (t4.2.1.2.2.1, ())))).bind fun t5 => bif (t5.1 != (0 : Int)) then (K ((0 : Int), (false, ()))) else (bif (decide (t4.1 > (2147483647 : Int))) then (K ((0 : Int), (false, ()))) else (let v6 : Int := (IntKind.wrap IntKind.i64 t4.1)
  K (v6, (true, ()))))) else (none))
def block_Height (k : Nat) (t : (Int × ((List (((List Int) × (Int × Unit)) × (ByteArray × (Int × Unit)))) × ((List (Int × (ByteArray × Unit))) × (Int × Unit))))) : Option (Int × Bool × Unit) := block_Height.c k t some
def block_Height.tin : List Ty := [(.pair (.int .u32) (.pair (.sl (.pair (.pair (.arr 32 (.int .u8)) (.pair (.int .u32) .unit)) (.pair .str (.pair (.int .u32) .unit)))) (.pair (.sl (.pair (.int .u64) (.pair .str .unit))) (.pair (.int .u32) .unit))))]
def block_Height.tout : List Ty := [(.int .i64), .bool]
def block_Height.sem (k : Nat) : CallSem := callPure block_Height.tin block_Height.tout fun x => block_Height k x.1
noncomputable def block_Height.ctx (k : Nat) : Ctx := ⟨Try.prog, gam [(15, (block_IsCoinbase.sem k)), (31, (num_NewReader.sem k)), (32, (num_Reader_U32.sem k)), (33, (num_Reader_Err.sem k))]⟩
theorem block_Height.gok (k : Nat) : ∀ f, SemOK Try.prog f ((block_Height.ctx k).Γ f) := (gam_cons (block_IsCoinbase.sem_ok k) (gam_cons (num_NewReader.sem_ok k) (gam_cons (num_Reader_U32.sem_ok k) (gam_cons (num_Reader_Err.sem_ok k) gam_nil))))
def block_Height.ann (k : Nat) : Ann := .nil
theorem block_Height.body (k : Nat) : BodyIs (block_Height.ctx k) Try.f12 (Func.code Try.f12) (block_Height.ann k) block_Height.tin block_Height.tout (fun x K => block_Height.c k x.1 K) := by
  intro ρ x K; kernel_rfl
theorem block_Height.sem_ok (k : Nat) : SemOK Try.prog 12 (block_Height.sem k) :=
  callPure_ok (C := block_Height.ctx k) (block_Height.gok k) Try.mix (c := Func.code Try.f12) (ann := block_Height.ann k) (tin := block_Height.tin) (tout := block_Height.tout) (fun x K => block_Height.c k x.1 K) Try.func12 (by kernel_rfl) (by kernel_rfl) AnnOK.nil (block_Height.body k)

/-! 14 bedrock/bedrocklaw11.one -/
abbrev bedrocklaw11_one.l0.σ : Type := Int × (Int × ((List (((List Int) × (Int × Unit)) × (ByteArray × (Int × Unit)))) × ((List (Int × (ByteArray × Unit))) × (Int × Unit)))) × (Int × (Unit × (Unit × (Int × Unit)))) × (Int × (Unit × (Unit × (Int × Unit)))) × (List ((List Int) × (Int × (ByteArray × (Int × Unit))))) × Unit
abbrev bedrocklaw11_one.l0.τ : Type := ((Int × ((List (((List Int) × (Int × Unit)) × (ByteArray × (Int × Unit)))) × ((List (Int × (ByteArray × Unit))) × (Int × Unit)))) × (Int × (Unit × (Unit × (Int × Unit)))) × (Int × (Unit × (Unit × (Int × Unit)))) × (List ((List Int) × (Int × (ByteArray × (Int × Unit))))) × Unit)
def bedrocklaw11_one.l0.r (k : Nat) {ρ : Type} (x : bedrocklaw11_one.l0.σ) (kn : bedrocklaw11_one.l0.σ → Option ρ) (ke : bedrocklaw11_one.l0.τ → Option ρ) : Option ρ :=
  let v2 : (List (((List Int) × (Int × Unit)) × (ByteArray × (Int × Unit)))) := x.2.1.2.1
  let v3 : Int := (((List.length v2) : Nat) : Int)
  bif (decide (x.1 < v3)) then (let v4 : (List (((List Int) × (Int × Unit)) × (ByteArray × (Int × Unit)))) := x.2.1.2.1
  bif (decide (((0 : Int) ≤ x.1) ∧ (x.1 < (((List.length v4) : Nat) : Int)))) then (let v5 : (List Int) := (List.getD v4 (Int.toNat x.1) (((List.replicate 32 (0 : Int)), ((0 : Int), ())), (ByteArray.empty, ((0 : Int), ())))).1.1
  let v6 : (List (((List Int) × (Int × Unit)) × (ByteArray × (Int × Unit)))) := x.2.1.2.1
  bif (decide (((0 : Int) ≤ x.1) ∧ (x.1 < (((List.length v6) : Nat) : Int)))) then (let v7 : Int := (List.getD v6 (Int.toNat x.1) (((List.replicate 32 (0 : Int)), ((0 : Int), ())), (ByteArray.empty, ((0 : Int), ())))).1.2.1
  let v8 : (List (((List Int) × (Int × Unit)) × (ByteArray × (Int × Unit)))) := x.2.1.2.1
  bif (decide (((0 : Int) ≤ x.1) ∧ (x.1 < (((List.length v8) : Nat) : Int)))) then (let v9 : ByteArray := (List.getD v8 (Int.toNat x.1) (((List.replicate 32 (0 : Int)), ((0 : Int), ())), (ByteArray.empty, ((0 : Int), ())))).2.1
  let v10 : (List (((List Int) × (Int × Unit)) × (ByteArray × (Int × Unit)))) := x.2.1.2.1
  bif (decide (((0 : Int) ≤ x.1) ∧ (x.1 < (((List.length v10) : Nat) : Int)))) then (let v11 : Int := (List.getD v10 (Int.toNat x.1) (((List.replicate 32 (0 : Int)), ((0 : Int), ())), (ByteArray.empty, ((0 : Int), ())))).2.2.1
  bif (Nat.ble (((List.length x.2.2.2.2.1) + (List.length (List.set (List.replicate 1 ((List.replicate 32 (0 : Int)), ((0 : Int), (ByteArray.empty, ((0 : Int), ()))))) 0 (v5, (v7, (v9, (v11, ()))))))) * 64) 140737488355328) then (let v12 : Int := (IntKind.wrap IntKind.i64 (x.1 + (1 : Int)))
  kn (v12, ((x.2.1.1, (x.2.1.2.1, (x.2.1.2.2.1, (x.2.1.2.2.2.1, ())))), ((x.2.2.1.1, ((), ((), (x.2.2.1.2.2.2.1, ())))), ((x.2.2.2.1.1, ((), ((), (x.2.2.2.1.2.2.2.1, ())))), ((x.2.2.2.2.1 ++ (List.set (List.replicate 1 ((List.replicate 32 (0 : Int)), ((0 : Int), (ByteArray.empty, ((0 : Int), ()))))) 0 (v5, (v7, (v9, (v11, ())))))), ())))))) else (none)) else (none)) else (none)) else (none)) else (none)) else (ke ((x.2.1.1, (x.2.1.2.1, (x.2.1.2.2.1, (x.2.1.2.2.2.1, ())))), ((x.2.2.1.1, ((), ((), (x.2.2.1.2.2.2.1, ())))), ((x.2.2.2.1.1, ((), ((), (x.2.2.2.1.2.2.2.1, ())))), (x.2.2.2.2.1, ())))))
def bedrocklaw11_one.l0 (k : Nat) : Nat → bedrocklaw11_one.l0.σ → Option bedrocklaw11_one.l0.τ := loopJ (bedrocklaw11_one.l0.r k)
def bedrocklaw11_one.l0.T : StT := ⟨us 1 ++ .ptr 0 [] :: .ptr 1 [] :: .ptr 2 [] :: .dat (.int .i64) :: us 71, [.dat (.pair (.int .u32) (.pair (.sl (.pair (.pair (.arr 32 (.int .u8)) (.pair (.int .u32) .unit)) (.pair .str (.pair (.int .u32) .unit)))) (.pair (.sl (.pair (.int .u64) (.pair .str .unit))) (.pair (.int .u32) .unit)))), .pair (.dat (.int .u32)) (.pair (.nils) (.pair (.nils) (.dat (.pair (.int .u32) .unit)))), .pair (.dat (.int .u32)) (.pair (.vsl 3) (.pair (.nils) (.dat (.pair (.int .u32) .unit)))), .vec (.pair (.arr 32 (.int .u8)) (.pair (.int .u32) (.pair .str (.pair (.int .u32) .unit))))]⟩
def bedrocklaw11_one.l0.os : List Out := [⟨(.exit 0), [.mask [1, 2, 3], .auto 0], ⟨us 1 ++ .ptr 0 [] :: .ptr 1 [] :: .ptr 2 [] :: us 72, [.dat (.pair (.int .u32) (.pair (.sl (.pair (.pair (.arr 32 (.int .u8)) (.pair (.int .u32) .unit)) (.pair .str (.pair (.int .u32) .unit)))) (.pair (.sl (.pair (.int .u64) (.pair .str .unit))) (.pair (.int .u32) .unit)))), .pair (.dat (.int .u32)) (.pair (.nils) (.pair (.nils) (.dat (.pair (.int .u32) .unit)))), .pair (.dat (.int .u32)) (.pair (.vsl 3) (.pair (.nils) (.dat (.pair (.int .u32) .unit)))), .vec (.pair (.arr 32 (.int .u8)) (.pair (.int .u32) (.pair .str (.pair (.int .u32) .unit))))]⟩⟩]
abbrev bedrocklaw11_one.l1.σ : Type := Int × (Int × ((List (((List Int) × (Int × Unit)) × (ByteArray × (Int × Unit)))) × ((List (Int × (ByteArray × Unit))) × (Int × Unit)))) × (Int × (Unit × (Unit × (Int × Unit)))) × (Int × (Unit × (Unit × (Int × Unit)))) × (List ((List Int) × (Int × (ByteArray × (Int × Unit))))) × (List (Int × (ByteArray × Unit))) × Unit
abbrev bedrocklaw11_one.l1.τ : Type := ((Int × (Unit × (Unit × (Int × Unit)))) × (Int × (Unit × (Unit × (Int × Unit)))) × (List ((List Int) × (Int × (ByteArray × (Int × Unit))))) × (List (Int × (ByteArray × Unit))) × Unit)
def bedrocklaw11_one.l1.r (k : Nat) {ρ : Type} (x : bedrocklaw11_one.l1.σ) (kn : bedrocklaw11_one.l1.σ → Option ρ) (ke : bedrocklaw11_one.l1.τ → Option ρ) : Option ρ :=
  let v14 : (List (Int × (ByteArray × Unit))) := x.2.1.2.2.1
  let v15 : Int := (((List.length v14) : Nat) : Int)
  bif (decide (x.1 < v15)) then (let v16 : (List (Int × (ByteArray × Unit))) := x.2.1.2.2.1
  bif (decide (((0 : Int) ≤ x.1) ∧ (x.1 < (((List.length v16) : Nat) : Int)))) then (let v17 : Int := (List.getD v16 (Int.toNat x.1) ((0 : Int), (ByteArray.empty, ()))).1
  let v18 : (List (Int × (ByteArray × Unit))) := x.2.1.2.2.1
  bif (decide (((0 : Int) ≤ x.1) ∧ (x.1 < (((List.length v18) : Nat) : Int)))) then (let v19 : ByteArray := (List.getD v18 (Int.toNat x.1) ((0 : Int), (ByteArray.empty, ()))).2.1
  bif (Nat.ble (((List.length x.2.2.2.2.2.1) + (List.length (List.set (List.replicate 1 ((0 : Int), (ByteArray.empty, ()))) 0 (v17, (v19, ()))))) * 24) 140737488355328) then (let v20 : Int := (IntKind.wrap IntKind.i64 (x.1 + (1 : Int)))
  kn (v20, ((x.2.1.1, (x.2.1.2.1, (x.2.1.2.2.1, (x.2.1.2.2.2.1, ())))), ((x.2.2.1.1, ((), ((), (x.2.2.1.2.2.2.1, ())))), ((x.2.2.2.1.1, ((), ((), (x.2.2.2.1.2.2.2.1, ())))), (x.2.2.2.2.1, ((x.2.2.2.2.2.1 ++ (List.set (List.replicate 1 ((0 : Int), (ByteArray.empty, ()))) 0 (v17, (v19, ())))), ()))))))) else (none)) else (none)) else (none)) else (ke ((x.2.2.1.1, ((), ((), (x.2.2.1.2.2.2.1, ())))), ((x.2.2.2.1.1, ((), ((), (x.2.2.2.1.2.2.2.1, ())))), (x.2.2.2.2.1, (x.2.2.2.2.2.1, ())))))
def bedrocklaw11_one.l1 (k : Nat) : Nat → bedrocklaw11_one.l1.σ → Option bedrocklaw11_one.l1.τ := loopJ (bedrocklaw11_one.l1.r k)
def bedrocklaw11_one.l1.T : StT := ⟨us 1 ++ .ptr 0 [] :: .ptr 1 [] :: .ptr 2 [] :: us 1 ++ .dat (.int .i64) :: us 70, [.dat (.pair (.int .u32) (.pair (.sl (.pair (.pair (.arr 32 (.int .u8)) (.pair (.int .u32) .unit)) (.pair .str (.pair (.int .u32) .unit)))) (.pair (.sl (.pair (.int .u64) (.pair .str .unit))) (.pair (.int .u32) .unit)))), .pair (.dat (.int .u32)) (.pair (.nils) (.pair (.nils) (.dat (.pair (.int .u32) .unit)))), .pair (.dat (.int .u32)) (.pair (.vsl 3) (.pair (.vsl 4) (.dat (.pair (.int .u32) .unit)))), .vec (.pair (.arr 32 (.int .u8)) (.pair (.int .u32) (.pair .str (.pair (.int .u32) .unit)))), .vec (.pair (.int .u64) (.pair .str .unit))]⟩
def bedrocklaw11_one.l1.os : List Out := [⟨(.exit 2), [.mask [2, 3], .auto 0], ⟨us 2 ++ .ptr 0 [] :: .ptr 1 [] :: us 72, [.pair (.dat (.int .u32)) (.pair (.nils) (.pair (.nils) (.dat (.pair (.int .u32) .unit)))), .pair (.dat (.int .u32)) (.pair (.vsl 2) (.pair (.vsl 3) (.dat (.pair (.int .u32) .unit)))), .vec (.pair (.arr 32 (.int .u8)) (.pair (.int .u32) (.pair .str (.pair (.int .u32) .unit)))), .vec (.pair (.int .u64) (.pair .str .unit))]⟩⟩]
def bedrocklaw11_one.c (k : Nat) {ρ : Type} (t : (Int × ((List (((List Int) × (Int × Unit)) × (ByteArray × (Int × Unit)))) × ((List (Int × (ByteArray × Unit))) × (Int × Unit))))) (K : (Int × ((List ((List Int) × (Int × (ByteArray × (Int × Unit))))) × ((List (Int × (ByteArray × Unit))) × (Int × Unit)))) × Unit → Option ρ) : Option ρ :=
  let v0 : Int := t.1
  let v1 : Int := t.2.2.2.1
  (bedrocklaw11_one.l0 k k ((0 : Int), ((t.1, (t.2.1, (t.2.2.1, (t.2.2.2.1, ())))), (((0 : Int), ((), ((), ((0 : Int), ())))), ((v0, ((), ((), (v1, ())))), ([], ())))))).bind fun t13 => (bedrocklaw11_one.l1 k k ((0 : Int), ((t13.1.1, (t13.1.2.1, (t13.1.2.2.1, (t13.1.2.2.2.1, ())))), ((t13.2.1.1, ((), ((), (t13.2.1.2.2.2.1, ())))), ((t13.2.2.1.1, ((), ((), (t13.2.2.1.2.2.2.1, ())))), (t13.2.2.2.1, ([], ()))))))).bind fun t21 => K ((t21.2.1.1, (t21.2.2.1, (t21.2.2.2.1, (t21.2.1.2.2.2.1, ())))), ())
def bedrocklaw11_one (k : Nat) (t : (Int × ((List (((List Int) × (Int × Unit)) × (ByteArray × (Int × Unit)))) × ((List (Int × (ByteArray × Unit))) × (Int × Unit))))) : Option ((Int × ((List ((List Int) × (Int × (ByteArray × (Int × Unit))))) × ((List (Int × (ByteArray × Unit))) × (Int × Unit)))) × Unit) := bedrocklaw11_one.c k t some
def bedrocklaw11_one.tin : List Ty := [(.pair (.int .u32) (.pair (.sl (.pair (.pair (.arr 32 (.int .u8)) (.pair (.int .u32) .unit)) (.pair .str (.pair (.int .u32) .unit)))) (.pair (.sl (.pair (.int .u64) (.pair .str .unit))) (.pair (.int .u32) .unit))))]
def bedrocklaw11_one.tout : List Ty := [(.pair (.int .u32) (.pair (.sl (.pair (.arr 32 (.int .u8)) (.pair (.int .u32) (.pair .str (.pair (.int .u32) .unit))))) (.pair (.sl (.pair (.int .u64) (.pair .str .unit))) (.pair (.int .u32) .unit))))]
def bedrocklaw11_one.sem (k : Nat) : CallSem := callPure bedrocklaw11_one.tin bedrocklaw11_one.tout fun x => bedrocklaw11_one k x.1
noncomputable def bedrocklaw11_one.ctx (k : Nat) : Ctx := ⟨Try.prog, gam []⟩
theorem bedrocklaw11_one.gok (k : Nat) : ∀ f, SemOK Try.prog f ((bedrocklaw11_one.ctx k).Γ f) := gam_nil
theorem bedrocklaw11_one.l0.round (k : Nat) : RoundIs (bedrocklaw11_one.ctx k) (codeAt (Func.code Try.f14) [1, 1, 0, 1, 0, 0]) (.nil) bedrocklaw11_one.l0.T [.mask [1, 2, 3, 4], .auto 0] bedrocklaw11_one.l0.os (bedrocklaw11_one.l0.r k) := by
  intro ρ x kn ke; kernel_rfl
theorem bedrocklaw11_one.l0.ok (k : Nat) : StOK 0 Try.prog (.loop (codeAt (Func.code Try.f14) [1, 1, 0, 1, 0, 0])) (pieceSem bedrocklaw11_one.l0.T bedrocklaw11_one.l0.os (bedrocklaw11_one.l0 k k)) :=
  loop_ok (C := bedrocklaw11_one.ctx k) (bedrocklaw11_one.gok k) Try.mix AnnOK.nil (by kernel_rfl) (by kernel_rfl) (by kernel_rfl) (bedrocklaw11_one.l0.round k) k
theorem bedrocklaw11_one.l1.round (k : Nat) : RoundIs (bedrocklaw11_one.ctx k) (codeAt (Func.code Try.f14) [1, 1, 1, 0, 1, 0, 0]) (.nil) bedrocklaw11_one.l1.T [.mask [1, 2, 3, 5], .auto 0] bedrocklaw11_one.l1.os (bedrocklaw11_one.l1.r k) := by
  intro ρ x kn ke; kernel_rfl
theorem bedrocklaw11_one.l1.ok (k : Nat) : StOK 0 Try.prog (.loop (codeAt (Func.code Try.f14) [1, 1, 1, 0, 1, 0, 0])) (pieceSem bedrocklaw11_one.l1.T bedrocklaw11_one.l1.os (bedrocklaw11_one.l1 k k)) :=
  loop_ok (C := bedrocklaw11_one.ctx k) (bedrocklaw11_one.gok k) Try.mix AnnOK.nil (by kernel_rfl) (by kernel_rfl) (by kernel_rfl) (bedrocklaw11_one.l1.round k) k
def bedrocklaw11_one.ann (k : Nat) : Ann := .node [] none (.nil) (.node [] none (.nil) (.node [] none (.node [] none (.nil) (.node [] none (.node [.mask [1, 2, 3, 4], .auto 0, .own (.blk 2 [1]) (.pair (.arr 32 (.int .u8)) (.pair (.int .u32) (.pair .str (.pair (.int .u32) .unit))))] (some (pieceSem bedrocklaw11_one.l0.T bedrocklaw11_one.l0.os (bedrocklaw11_one.l0 k k))) .nil .nil) (.nil))) (.node [] none (.node [] none (.nil) (.node [] none (.node [.mask [1, 2, 3, 5], .auto 0, .own (.blk 2 [2]) (.pair (.int .u64) (.pair .str .unit))] (some (pieceSem bedrocklaw11_one.l1.T bedrocklaw11_one.l1.os (bedrocklaw11_one.l1 k k))) .nil .nil) (.nil))) (.nil))))
theorem bedrocklaw11_one.body (k : Nat) : BodyIs (bedrocklaw11_one.ctx k) Try.f14 (Func.code Try.f14) (bedrocklaw11_one.ann k) bedrocklaw11_one.tin bedrocklaw11_one.tout (fun x K => bedrocklaw11_one.c k x.1 K) := by
  intro ρ x K; kernel_rfl
theorem bedrocklaw11_one.sem_ok (k : Nat) : SemOK Try.prog 14 (bedrocklaw11_one.sem k) :=
  callPure_ok (C := bedrocklaw11_one.ctx k) (bedrocklaw11_one.gok k) Try.mix (c := Func.code Try.f14) (ann := bedrocklaw11_one.ann k) (tin := bedrocklaw11_one.tin) (tout := bedrocklaw11_one.tout) (fun x K => bedrocklaw11_one.c k x.1 K) Try.func14 (by kernel_rfl) (by kernel_rfl) (AnnOK.seq AnnOK.nil (AnnOK.seq AnnOK.nil (AnnOK.seq (AnnOK.seq AnnOK.nil (AnnOK.block (AnnOK.loop (by kernel_rfl) (bedrocklaw11_one.l0.ok k)))) (AnnOK.seq (AnnOK.seq AnnOK.nil (AnnOK.block (AnnOK.loop (by kernel_rfl) (bedrocklaw11_one.l1.ok k)))) AnnOK.nil)))) (bedrocklaw11_one.body k)

/-! 16 bedrock/bedrockref10.Base -/
def bedrockref10_Base.c (k : Nat) {ρ : Type} (t : (Int × ((List ((List Int) × (Int × (ByteArray × (Int × Unit))))) × ((List (Int × (ByteArray × Unit))) × (Int × Unit))))) (K : Bool × Unit → Option ρ) : Option ρ :=
  let v0 : (List ((List Int) × (Int × (ByteArray × (Int × Unit))))) := t.2.1
  let v1 : Int := (((List.length v0) : Nat) : Int)
  bif (v1 == (1 : Int)) then (let v2 : (List ((List Int) × (Int × (ByteArray × (Int × Unit))))) := t.2.1
  bif (decide (((0 : Int) ≤ (0 : Int)) ∧ ((0 : Int) < (((List.length v2) : Nat) : Int)))) then (let v3 : (List Int) := (List.getD v2 0 ((List.replicate 32 (0 : Int)), ((0 : Int), (ByteArray.empty, ((0 : Int), ()))))).1
  let v4 : (List Int) := (List.replicate 32 (0 : Int))
  bif (decide (v3 = v4)) then (let v5 : (List ((List Int) × (Int × (ByteArray × (Int × Unit))))) := t.2.1
  bif (decide (((0 : Int) ≤ (0 : Int)) ∧ ((0 : Int) < (((List.length v5) : Nat) : Int)))) then (let v6 : Int := (List.getD v5 0 ((List.replicate 32 (0 : Int)), ((0 : Int), (ByteArray.empty, ((0 : Int), ()))))).2.1
  K ((v6 == (4294967295 : Int)), ())) else (none)) else (K (false, ()))) else (none)) else (K (false, ()))
def bedrockref10_Base (k : Nat) (t : (Int × ((List ((List Int) × (Int × (ByteArray × (Int × Unit))))) × ((List (Int × (ByteArray × Unit))) × (Int × Unit))))) : Option (Bool × Unit) := bedrockref10_Base.c k t some
def bedrockref10_Base.tin : List Ty := [(.pair (.int .u32) (.pair (.sl (.pair (.arr 32 (.int .u8)) (.pair (.int .u32) (.pair .str (.pair (.int .u32) .unit))))) (.pair (.sl (.pair (.int .u64) (.pair .str .unit))) (.pair (.int .u32) .unit))))]
def bedrockref10_Base.tout : List Ty := [.bool]
def bedrockref10_Base.sem (k : Nat) : CallSem := callPure bedrockref10_Base.tin bedrockref10_Base.tout fun x => bedrockref10_Base k x.1
noncomputable def bedrockref10_Base.ctx (k : Nat) : Ctx := ⟨Try.prog, gam []⟩
theorem bedrockref10_Base.gok (k : Nat) : ∀ f, SemOK Try.prog f ((bedrockref10_Base.ctx k).Γ f) := gam_nil
def bedrockref10_Base.ann (k : Nat) : Ann := .nil
theorem bedrockref10_Base.body (k : Nat) : BodyIs (bedrockref10_Base.ctx k) Try.f16 (Func.code Try.f16) (bedrockref10_Base.ann k) bedrockref10_Base.tin bedrockref10_Base.tout (fun x K => bedrockref10_Base.c k x.1 K) := by
  intro ρ x K; kernel_rfl
theorem bedrockref10_Base.sem_ok (k : Nat) : SemOK Try.prog 16 (bedrockref10_Base.sem k) :=
  callPure_ok (C := bedrockref10_Base.ctx k) (bedrockref10_Base.gok k) Try.mix (c := Func.code Try.f16) (ann := bedrockref10_Base.ann k) (tin := bedrockref10_Base.tin) (tout := bedrockref10_Base.tout) (fun x K => bedrockref10_Base.c k x.1 K) Try.func16 (by kernel_rfl) (by kernel_rfl) AnnOK.nil (bedrockref10_Base.body k)

/-! 34 bedrock/bedrockref01.Get -/
abbrev bedrockref01_Get.l0.σ : Type := ByteArray × Int × Int × Unit
abbrev bedrockref01_Get.l0.τ : Type := (Int × Unit)
def bedrockref01_Get.l0.r (k : Nat) {ρ : Type} (x : bedrockref01_Get.l0.σ) (kn : bedrockref01_Get.l0.σ → Option ρ) (ke : bedrockref01_Get.l0.τ → Option ρ) : Option ρ :=
  bif (decide (x.2.2.1 ≥ (0 : Int))) then (let v1 : Int := (IntKind.wrap IntKind.u64 (x.2.1 * (256 : Int)))
  bif (decide (((0 : Int) ≤ x.2.2.1) ∧ (x.2.2.1 < (((ByteArray.size x.1) : Nat) : Int)))) then (let v2 : Int := (byteAt x.1 (Int.toNat x.2.2.1))
  let v3 : Int := (IntKind.wrap IntKind.u64 (v1 + (IntKind.wrap IntKind.u64 v2)))
  let v4 : Int := (IntKind.wrap IntKind.i64 (x.2.2.1 - (1 : Int)))
  kn (x.1, (v3, (v4, ())))) else (none)) else (ke (x.2.1, ()))
def bedrockref01_Get.l0 (k : Nat) : Nat → bedrockref01_Get.l0.σ → Option bedrockref01_Get.l0.τ := loopJ (bedrockref01_Get.l0.r k)
def bedrockref01_Get.l0.T : StT := ⟨.dat .str :: us 2 ++ .dat (.int .u64) :: .dat (.int .i64) :: us 15, []⟩
def bedrockref01_Get.l0.os : List Out := [⟨(.exit 0), [.mask [3], .auto 0], ⟨us 3 ++ .dat (.int .u64) :: us 16, []⟩⟩]
def bedrockref01_Get.c (k : Nat) {ρ : Type} (s : ByteArray) (K : Int × Unit → Option ρ) : Option ρ :=
  let v0 : Int := (IntKind.wrap IntKind.i64 ((((ByteArray.size s) : Nat) : Int) - (1 : Int)))
  (bedrockref01_Get.l0 k k (s, ((0 : Int), (v0, ())))).bind fun t5 => K (t5.1, ())
def bedrockref01_Get (k : Nat) (s : ByteArray) : Option (Int × Unit) := bedrockref01_Get.c k s some
def bedrockref01_Get.tin : List Ty := [.str]
def bedrockref01_Get.tout : List Ty := [(.int .u64)]
def bedrockref01_Get.sem (k : Nat) : CallSem := callPure bedrockref01_Get.tin bedrockref01_Get.tout fun x => bedrockref01_Get k x.1
noncomputable def bedrockref01_Get.ctx (k : Nat) : Ctx := ⟨Try.prog, gam []⟩
theorem bedrockref01_Get.gok (k : Nat) : ∀ f, SemOK Try.prog f ((bedrockref01_Get.ctx k).Γ f) := gam_nil
theorem bedrockref01_Get.l0.round (k : Nat) : RoundIs (bedrockref01_Get.ctx k) (codeAt (Func.code Try.f34) [1, 1, 0, 1, 0, 0]) (.nil) bedrockref01_Get.l0.T [.mask [0, 3, 4], .auto 0] bedrockref01_Get.l0.os (bedrockref01_Get.l0.r k) := by
  intro ρ x kn ke; kernel_rfl
theorem bedrockref01_Get.l0.ok (k : Nat) : StOK 0 Try.prog (.loop (codeAt (Func.code Try.f34) [1, 1, 0, 1, 0, 0])) (pieceSem bedrockref01_Get.l0.T bedrockref01_Get.l0.os (bedrockref01_Get.l0 k k)) :=
  loop_ok (C := bedrockref01_Get.ctx k) (bedrockref01_Get.gok k) Try.mix AnnOK.nil (by kernel_rfl) (by kernel_rfl) (by kernel_rfl) (bedrockref01_Get.l0.round k) k
def bedrockref01_Get.ann (k : Nat) : Ann := .node [] none (.nil) (.node [] none (.nil) (.node [] none (.node [] none (.nil) (.node [] none (.node [] (some (pieceSem bedrockref01_Get.l0.T bedrockref01_Get.l0.os (bedrockref01_Get.l0 k k))) .nil .nil) (.nil))) (.nil)))
theorem bedrockref01_Get.body (k : Nat) : BodyIs (bedrockref01_Get.ctx k) Try.f34 (Func.code Try.f34) (bedrockref01_Get.ann k) bedrockref01_Get.tin bedrockref01_Get.tout (fun x K => bedrockref01_Get.c k x.1 K) := by
  intro ρ x K; kernel_rfl
theorem bedrockref01_Get.sem_ok (k : Nat) : SemOK Try.prog 34 (bedrockref01_Get.sem k) :=
  callPure_ok (C := bedrockref01_Get.ctx k) (bedrockref01_Get.gok k) Try.mix (c := Func.code Try.f34) (ann := bedrockref01_Get.ann k) (tin := bedrockref01_Get.tin) (tout := bedrockref01_Get.tout) (fun x K => bedrockref01_Get.c k x.1 K) Try.func34 (by kernel_rfl) (by kernel_rfl) (AnnOK.seq AnnOK.nil (AnnOK.seq AnnOK.nil (AnnOK.seq (AnnOK.seq AnnOK.nil (AnnOK.block (AnnOK.loop (by kernel_rfl) (bedrockref01_Get.l0.ok k)))) AnnOK.nil))) (bedrockref01_Get.body k)

/-! 13 bedrock/bedrockref11.Height -/
abbrev bedrockref11_Height.p0.σ : Type := (Int × ((List ((List Int) × (Int × (ByteArray × (Int × Unit))))) × ((List (Int × (ByteArray × Unit))) × (Int × Unit)))) × Unit
abbrev bedrockref11_Height.p0.τ : Type := (Int × Bool × Unit) ⊕ ((Int × ((List ((List Int) × (Int × (ByteArray × (Int × Unit))))) × ((List (Int × (ByteArray × Unit))) × (Int × Unit)))) × Unit)
def bedrockref11_Height.p0.r (k : Nat) {ρ : Type} (x : bedrockref11_Height.p0.σ) (K : bedrockref11_Height.p0.τ → Option ρ) : Option ρ :=
  (bedrockref10_Base k (x.1.1, (x.1.2.1, (x.1.2.2.1, (x.1.2.2.2.1, ()))))).bind fun t0 => bif (!t0.1) then (K (.inl ((0 : Int), (false, ())))) else (let v1 : (List ((List Int) × (Int × (ByteArray × (Int × Unit))))) := x.1.2.1
  bif (decide (((0 : Int) ≤ (0 : Int)) ∧ ((0 : Int) < (((List.length v1) : Nat) : Int)))) then (let v2 : ByteArray := (List.getD v1 0 ((List.replicate 32 (0 : Int)), ((0 : Int), (ByteArray.empty, ((0 : Int), ()))))).2.2.1
  bif (decide ((((ByteArray.size v2) : Nat) : Int) < (4 : Int))) then (K (.inl ((0 : Int), (false, ())))) else (K (.inr ((x.1.1, (x.1.2.1, (x.1.2.2.1, (x.1.2.2.2.1, ())))), ())))) else (none))
def bedrockref11_Height.p0 (k : Nat) (x : bedrockref11_Height.p0.σ) : Option bedrockref11_Height.p0.τ := bedrockref11_Height.p0.r k x some
def bedrockref11_Height.p0.T : StT := ⟨us 1 ++ .ptr 0 [] :: us 26, [.dat (.pair (.int .u32) (.pair (.sl (.pair (.arr 32 (.int .u8)) (.pair (.int .u32) (.pair .str (.pair (.int .u32) .unit))))) (.pair (.sl (.pair (.int .u64) (.pair .str .unit))) (.pair (.int .u32) .unit))))]⟩
def bedrockref11_Height.p0.os : List Out := [⟨.ret, [.mask [2, 3], .auto 0], ⟨us 2 ++ .dat (.int .i64) :: .dat .bool :: us 24, []⟩⟩, ⟨.normal, [.mask [1], .auto 0], ⟨us 1 ++ .ptr 0 [] :: us 26, [.dat (.pair (.int .u32) (.pair (.sl (.pair (.arr 32 (.int .u8)) (.pair (.int .u32) (.pair .str (.pair (.int .u32) .unit))))) (.pair (.sl (.pair (.int .u64) (.pair .str .unit))) (.pair (.int .u32) .unit))))]⟩⟩]
def bedrockref11_Height.c (k : Nat) {ρ : Type} (t : (Int × ((List ((List Int) × (Int × (ByteArray × (Int × Unit))))) × ((List (Int × (ByteArray × Unit))) × (Int × Unit))))) (K : Int × Bool × Unit → Option ρ) : Option ρ :=
  (bedrockref11_Height.p0 k ((t.1, (t.2.1, (t.2.2.1, (t.2.2.2.1, ())))), ())).bind fun t3 => (match t3 with | .inl t4 => (K (t4.1, (t4.2.1, ()))) | .inr (t5) => (let v6 : (List ((List Int) × (Int × (ByteArray × (Int × Unit))))) := t5.1.2.1
  bif (decide (((0 : Int) ≤ (0 : Int)) ∧ ((0 : Int) < (((List.length v6) : Nat) : Int)))) then (let v7 : ByteArray := (List.getD v6 0 ((List.replicate 32 (0 : Int)), ((0 : Int), (ByteArray.empty, ((0 : Int), ()))))).2.2.1
  bif (decide (((0 : Int) ≤ (0 : Int)) ∧ (((0 : Int) ≤ (4 : Int)) ∧ ((4 : Int) ≤ (((ByteArray.size v7) : Nat) : Int))))) then ((bedrockref01_Get k (ByteArray.extract v7 0 4)).bind fun t8 => bif (decide (t8.1 > (2147483647 : Int))) then (K ((0 : Int), (false, ()))) else (let v9 : Int := (IntKind.wrap IntKind.i64 t8.1)
  K (v9, (true, ())))) else (none)) else (none)))
def bedrockref11_Height (k : Nat) (t : (Int × ((List ((List Int) × (Int × (ByteArray × (Int × Unit))))) × ((List (Int × (ByteArray × Unit))) × (Int × Unit))))) : Option (Int × Bool × Unit) := bedrockref11_Height.c k t some
def bedrockref11_Height.tin : List Ty := [(.pair (.int .u32) (.pair (.sl (.pair (.arr 32 (.int .u8)) (.pair (.int .u32) (.pair .str (.pair (.int .u32) .unit))))) (.pair (.sl (.pair (.int .u64) (.pair .str .unit))) (.pair (.int .u32) .unit))))]
def bedrockref11_Height.tout : List Ty := [(.int .i64), .bool]
def bedrockref11_Height.sem (k : Nat) : CallSem := callPure bedrockref11_Height.tin bedrockref11_Height.tout fun x => bedrockref11_Height k x.1
noncomputable def bedrockref11_Height.ctx (k : Nat) : Ctx := ⟨Try.prog, gam [(16, (bedrockref10_Base.sem k)), (34, (bedrockref01_Get.sem k))]⟩
theorem bedrockref11_Height.gok (k : Nat) : ∀ f, SemOK Try.prog f ((bedrockref11_Height.ctx k).Γ f) := (gam_cons (bedrockref10_Base.sem_ok k) (gam_cons (bedrockref01_Get.sem_ok k) gam_nil))
theorem bedrockref11_Height.p0.is (k : Nat) : PieceIs (bedrockref11_Height.ctx k) (codeAt (Func.code Try.f13) [1, 0]) (.nil) bedrockref11_Height.p0.T bedrockref11_Height.p0.os (bedrockref11_Height.p0.r k) := by
  intro ρ x K; kernel_rfl
theorem bedrockref11_Height.p0.ok (k : Nat) : StOK 0 Try.prog (codeAt (Func.code Try.f13) [1, 0]) (pieceSem bedrockref11_Height.p0.T bedrockref11_Height.p0.os (bedrockref11_Height.p0 k)) :=
  piece_ok (C := bedrockref11_Height.ctx k) (T := bedrockref11_Height.p0.T) (os := bedrockref11_Height.p0.os) (bedrockref11_Height.gok k) Try.mix (fun x K => bedrockref11_Height.p0.r k x K) AnnOK.nil (by kernel_rfl) (by kernel_rfl) (bedrockref11_Height.p0.is k)
def bedrockref11_Height.ann (k : Nat) : Ann := .node [] none (.nil) (.node [] none (.node [.mask [1], .auto 0] (some (pieceSem bedrockref11_Height.p0.T bedrockref11_Height.p0.os (bedrockref11_Height.p0 k))) .nil .nil) (.nil))
theorem bedrockref11_Height.body (k : Nat) : BodyIs (bedrockref11_Height.ctx k) Try.f13 (Func.code Try.f13) (bedrockref11_Height.ann k) bedrockref11_Height.tin bedrockref11_Height.tout (fun x K => bedrockref11_Height.c k x.1 K) := by
  intro ρ x K; kernel_rfl
theorem bedrockref11_Height.sem_ok (k : Nat) : SemOK Try.prog 13 (bedrockref11_Height.sem k) :=
  callPure_ok (C := bedrockref11_Height.ctx k) (bedrockref11_Height.gok k) Try.mix (c := Func.code Try.f13) (ann := bedrockref11_Height.ann k) (tin := bedrockref11_Height.tin) (tout := bedrockref11_Height.tout) (fun x K => bedrockref11_Height.c k x.1 K) Try.func13 (by kernel_rfl) (by kernel_rfl) (AnnOK.seq AnnOK.nil (AnnOK.seq (AnnOK.loop (by kernel_rfl) (bedrockref11_Height.p0.ok k)) AnnOK.nil)) (bedrockref11_Height.body k)

/-! 17 bedrock/block.Reward -/
def block_Reward.c (k : Nat) {ρ : Type} (height : Int) (K : Int × Unit → Option ρ) : Option ρ :=
  bif (decide (height < (0 : Int))) then (K ((0 : Int), ())) else (let v0 : Int := (IntKind.wrap IntKind.i64 (Int.tdiv height (64 : Int)))
  bif (decide ((0 : Int) ≤ v0)) then (let v1 : Int := (shrOp IntKind.u64 (5000 : Int) v0)
  K (v1, ())) else (none))
def block_Reward (k : Nat) (height : Int) : Option (Int × Unit) := block_Reward.c k height some
def block_Reward.tin : List Ty := [(.int .i64)]
def block_Reward.tout : List Ty := [(.int .u64)]
def block_Reward.sem (k : Nat) : CallSem := callPure block_Reward.tin block_Reward.tout fun x => block_Reward k x.1
noncomputable def block_Reward.ctx (k : Nat) : Ctx := ⟨Try.prog, gam []⟩
theorem block_Reward.gok (k : Nat) : ∀ f, SemOK Try.prog f ((block_Reward.ctx k).Γ f) := gam_nil
def block_Reward.ann (k : Nat) : Ann := .nil
theorem block_Reward.body (k : Nat) : BodyIs (block_Reward.ctx k) Try.f17 (Func.code Try.f17) (block_Reward.ann k) block_Reward.tin block_Reward.tout (fun x K => block_Reward.c k x.1 K) := by
  intro ρ x K; kernel_rfl
theorem block_Reward.sem_ok (k : Nat) : SemOK Try.prog 17 (block_Reward.sem k) :=
  callPure_ok (C := block_Reward.ctx k) (block_Reward.gok k) Try.mix (c := Func.code Try.f17) (ann := block_Reward.ann k) (tin := block_Reward.tin) (tout := block_Reward.tout) (fun x K => block_Reward.c k x.1 K) Try.func17 (by kernel_rfl) (by kernel_rfl) AnnOK.nil (block_Reward.body k)

/-! 18 bedrock/bedrockref11.Reward -/
abbrev bedrockref11_Reward.l0.σ : Type := Int × Int × Int × Unit
abbrev bedrockref11_Reward.l0.τ : Type := (Int × Unit)
def bedrockref11_Reward.l0.r (k : Nat) {ρ : Type} (x : bedrockref11_Reward.l0.σ) (kn : bedrockref11_Reward.l0.σ → Option ρ) (ke : bedrockref11_Reward.l0.τ → Option ρ) : Option ρ :=
  let v0 : Int := (IntKind.wrap IntKind.i64 (Int.tdiv x.1 (64 : Int)))
  bif (decide (x.2.2.1 < v0)) then (bif (decide (x.2.1 > (0 : Int))) then (let v1 : Int := (IntKind.wrap IntKind.u64 (Int.tdiv x.2.1 (2 : Int)))
  let v2 : Int := (IntKind.wrap IntKind.i64 (x.2.2.1 + (1 : Int)))
  kn (x.1, (v1, (v2, ())))) else (ke (x.2.1, ()))) else (ke (x.2.1, ()))
def bedrockref11_Reward.l0 (k : Nat) : Nat → bedrockref11_Reward.l0.σ → Option bedrockref11_Reward.l0.τ := loopJ (bedrockref11_Reward.l0.r k)
def bedrockref11_Reward.l0.T : StT := ⟨.dat (.int .i64) :: us 2 ++ .dat (.int .u64) :: .dat (.int .i64) :: us 15, []⟩
def bedrockref11_Reward.l0.os : List Out := [⟨(.exit 0), [.mask [3], .auto 0], ⟨us 3 ++ .dat (.int .u64) :: us 16, []⟩⟩]
def bedrockref11_Reward.c (k : Nat) {ρ : Type} (height : Int) (K : Int × Unit → Option ρ) : Option ρ :=
  bif (decide (height < (0 : Int))) then (K ((0 : Int), ())) else ((bedrockref11_Reward.l0 k k (height, ((5000 : Int), ((0 : Int), ())))).bind fun t3 => K (t3.1, ()))
def bedrockref11_Reward (k : Nat) (height : Int) : Option (Int × Unit) := bedrockref11_Reward.c k height some
def bedrockref11_Reward.tin : List Ty := [(.int .i64)]
def bedrockref11_Reward.tout : List Ty := [(.int .u64)]
def bedrockref11_Reward.sem (k : Nat) : CallSem := callPure bedrockref11_Reward.tin bedrockref11_Reward.tout fun x => bedrockref11_Reward k x.1
noncomputable def bedrockref11_Reward.ctx (k : Nat) : Ctx := ⟨Try.prog, gam []⟩
theorem bedrockref11_Reward.gok (k : Nat) : ∀ f, SemOK Try.prog f ((bedrockref11_Reward.ctx k).Γ f) := gam_nil
theorem bedrockref11_Reward.l0.round (k : Nat) : RoundIs (bedrockref11_Reward.ctx k) (codeAt (Func.code Try.f18) [1, 1, 1, 0, 1, 0, 0]) (.nil) bedrockref11_Reward.l0.T [.mask [0, 3, 4], .auto 0] bedrockref11_Reward.l0.os (bedrockref11_Reward.l0.r k) := by
  intro ρ x kn ke; kernel_rfl
theorem bedrockref11_Reward.l0.ok (k : Nat) : StOK 0 Try.prog (.loop (codeAt (Func.code Try.f18) [1, 1, 1, 0, 1, 0, 0])) (pieceSem bedrockref11_Reward.l0.T bedrockref11_Reward.l0.os (bedrockref11_Reward.l0 k k)) :=
  loop_ok (C := bedrockref11_Reward.ctx k) (bedrockref11_Reward.gok k) Try.mix AnnOK.nil (by kernel_rfl) (by kernel_rfl) (by kernel_rfl) (bedrockref11_Reward.l0.round k) k
def bedrockref11_Reward.ann (k : Nat) : Ann := .node [] none (.nil) (.node [] none (.nil) (.node [] none (.nil) (.node [] none (.node [] none (.nil) (.node [] none (.node [] (some (pieceSem bedrockref11_Reward.l0.T bedrockref11_Reward.l0.os (bedrockref11_Reward.l0 k k))) .nil .nil) (.nil))) (.nil))))
theorem bedrockref11_Reward.body (k : Nat) : BodyIs (bedrockref11_Reward.ctx k) Try.f18 (Func.code Try.f18) (bedrockref11_Reward.ann k) bedrockref11_Reward.tin bedrockref11_Reward.tout (fun x K => bedrockref11_Reward.c k x.1 K) := by
  intro ρ x K; kernel_rfl
theorem bedrockref11_Reward.sem_ok (k : Nat) : SemOK Try.prog 18 (bedrockref11_Reward.sem k) :=
  callPure_ok (C := bedrockref11_Reward.ctx k) (bedrockref11_Reward.gok k) Try.mix (c := Func.code Try.f18) (ann := bedrockref11_Reward.ann k) (tin := bedrockref11_Reward.tin) (tout := bedrockref11_Reward.tout) (fun x K => bedrockref11_Reward.c k x.1 K) Try.func18 (by kernel_rfl) (by kernel_rfl) (AnnOK.seq AnnOK.nil (AnnOK.seq AnnOK.nil (AnnOK.seq AnnOK.nil (AnnOK.seq (AnnOK.seq AnnOK.nil (AnnOK.block (AnnOK.loop (by kernel_rfl) (bedrockref11_Reward.l0.ok k)))) AnnOK.nil)))) (bedrockref11_Reward.body k)

/-! 19 bedrock/bedrockref01.Low -/
abbrev bedrockref01_Low.l0.σ : Type := Int × Int × ByteArray × Int × Unit
abbrev bedrockref01_Low.l0.τ : Type := (ByteArray × Unit)
def bedrockref01_Low.l0.r (k : Nat) {ρ : Type} (x : bedrockref01_Low.l0.σ) (kn : bedrockref01_Low.l0.σ → Option ρ) (ke : bedrockref01_Low.l0.τ → Option ρ) : Option ρ :=
  bif (decide (x.2.2.2.1 < x.2.1)) then (let v0 : Int := (Int.tmod x.1 (256 : Int))
  let v1 : ByteArray := (bytesOf (List.set (List.replicate 1 (0 : Int)) 0 (IntKind.wrap IntKind.u8 v0)))
  bif (Nat.ble ((ByteArray.size x.2.2.1) + (ByteArray.size v1)) 9223372036854775807) then (let v2 : ByteArray := (x.2.2.1 ++ v1)
  let v3 : Int := (IntKind.wrap IntKind.u64 (Int.tdiv x.1 (256 : Int)))
  let v4 : Int := (IntKind.wrap IntKind.i64 (x.2.2.2.1 + (1 : Int)))
  kn (v3, (x.2.1, (v2, (v4, ()))))) else (none)) else (ke (x.2.2.1, ()))
def bedrockref01_Low.l0 (k : Nat) : Nat → bedrockref01_Low.l0.σ → Option bedrockref01_Low.l0.τ := loopJ (bedrockref01_Low.l0.r k)
def bedrockref01_Low.l0.T : StT := ⟨.dat (.int .u64) :: .dat (.int .i64) :: us 3 ++ .dat .str :: .dat (.int .i64) :: us 15, []⟩
def bedrockref01_Low.l0.os : List Out := [⟨(.exit 0), [.mask [5], .auto 0], ⟨us 5 ++ .dat .str :: us 16, []⟩⟩]
def bedrockref01_Low.c (k : Nat) {ρ : Type} (n : Int) (bytes : Int) (K : ByteArray × Unit → Option ρ) : Option ρ :=
  (bedrockref01_Low.l0 k k (n, (bytes, ((⟨(List.toArray [])⟩ : ByteArray), ((0 : Int), ()))))).bind fun t5 => K (t5.1, ())
def bedrockref01_Low (k : Nat) (n : Int) (bytes : Int) : Option (ByteArray × Unit) := bedrockref01_Low.c k n bytes some
def bedrockref01_Low.tin : List Ty := [(.int .u64), (.int .i64)]
def bedrockref01_Low.tout : List Ty := [.str]
def bedrockref01_Low.sem (k : Nat) : CallSem := callPure bedrockref01_Low.tin bedrockref01_Low.tout fun x => bedrockref01_Low k x.1 x.2.1
noncomputable def bedrockref01_Low.ctx (k : Nat) : Ctx := ⟨Try.prog, gam []⟩
theorem bedrockref01_Low.gok (k : Nat) : ∀ f, SemOK Try.prog f ((bedrockref01_Low.ctx k).Γ f) := gam_nil
theorem bedrockref01_Low.l0.round (k : Nat) : RoundIs (bedrockref01_Low.ctx k) (codeAt (Func.code Try.f19) [1, 1, 0, 1, 0, 0]) (.nil) bedrockref01_Low.l0.T [.mask [0, 1, 5, 6], .auto 0] bedrockref01_Low.l0.os (bedrockref01_Low.l0.r k) := by
  intro ρ x kn ke; kernel_rfl
theorem bedrockref01_Low.l0.ok (k : Nat) : StOK 0 Try.prog (.loop (codeAt (Func.code Try.f19) [1, 1, 0, 1, 0, 0])) (pieceSem bedrockref01_Low.l0.T bedrockref01_Low.l0.os (bedrockref01_Low.l0 k k)) :=
  loop_ok (C := bedrockref01_Low.ctx k) (bedrockref01_Low.gok k) Try.mix AnnOK.nil (by kernel_rfl) (by kernel_rfl) (by kernel_rfl) (bedrockref01_Low.l0.round k) k
def bedrockref01_Low.ann (k : Nat) : Ann := .node [] none (.nil) (.node [] none (.nil) (.node [] none (.node [] none (.nil) (.node [] none (.node [] (some (pieceSem bedrockref01_Low.l0.T bedrockref01_Low.l0.os (bedrockref01_Low.l0 k k))) .nil .nil) (.nil))) (.nil)))
theorem bedrockref01_Low.body (k : Nat) : BodyIs (bedrockref01_Low.ctx k) Try.f19 (Func.code Try.f19) (bedrockref01_Low.ann k) bedrockref01_Low.tin bedrockref01_Low.tout (fun x K => bedrockref01_Low.c k x.1 x.2.1 K) := by
  intro ρ x K; kernel_rfl
theorem bedrockref01_Low.sem_ok (k : Nat) : SemOK Try.prog 19 (bedrockref01_Low.sem k) :=
  callPure_ok (C := bedrockref01_Low.ctx k) (bedrockref01_Low.gok k) Try.mix (c := Func.code Try.f19) (ann := bedrockref01_Low.ann k) (tin := bedrockref01_Low.tin) (tout := bedrockref01_Low.tout) (fun x K => bedrockref01_Low.c k x.1 x.2.1 K) Try.func19 (by kernel_rfl) (by kernel_rfl) (AnnOK.seq AnnOK.nil (AnnOK.seq AnnOK.nil (AnnOK.seq (AnnOK.seq AnnOK.nil (AnnOK.block (AnnOK.loop (by kernel_rfl) (bedrockref01_Low.l0.ok k)))) AnnOK.nil))) (bedrockref01_Low.body k)

/-! 4 bedrock/bedrocklaw11.BlockBases -/
abbrev bedrocklaw11_BlockBases.p0.σ : Type := Int × Int × Bool × Int × Bool × (Int × (ByteArray × ((List (Int × (ByteArray × Unit))) × ((Int × ((List (((List Int) × (Int × Unit)) × (ByteArray × (Int × Unit)))) × ((List (Int × (ByteArray × Unit))) × (Int × Unit)))) × Unit)))) × (Int × ((List (((List Int) × (Int × Unit)) × (ByteArray × (Int × Unit)))) × ((List (Int × (ByteArray × Unit))) × (Int × Unit)))) × Unit
abbrev bedrocklaw11_BlockBases.p0.τ : Type := (Bool × Unit) ⊕ (Int × (Int × (ByteArray × ((List (Int × (ByteArray × Unit))) × ((Int × ((List (((List Int) × (Int × Unit)) × (ByteArray × (Int × Unit)))) × ((List (Int × (ByteArray × Unit))) × (Int × Unit)))) × Unit)))) × (Int × ((List (((List Int) × (Int × Unit)) × (ByteArray × (Int × Unit)))) × ((List (Int × (ByteArray × Unit))) × (Int × Unit)))) × Unit)
def bedrocklaw11_BlockBases.p0.r (k : Nat) {ρ : Type} (x : bedrocklaw11_BlockBases.p0.σ) (K : bedrocklaw11_BlockBases.p0.τ → Option ρ) : Option ρ :=
  (bedrocklaw11_awake k ).bind fun t10 => bif (!t10.1) then (K (.inl (false, ()))) else (bif (x.2.1 != x.2.2.2.1) then (K (.inl (false, ()))) else (bif (!(x.2.2.1 == x.2.2.2.2.1)) then (K (.inl (false, ()))) else ((block_IsCoinbase k (x.2.2.2.2.2.1.2.2.2.1.1, (x.2.2.2.2.2.1.2.2.2.1.2.1, (x.2.2.2.2.2.1.2.2.2.1.2.2.1, (x.2.2.2.2.2.1.2.2.2.1.2.2.2.1, ()))))).bind fun t11 => (bedrocklaw11_one k (x.2.2.2.2.2.1.2.2.2.1.1, (x.2.2.2.2.2.1.2.2.2.1.2.1, (x.2.2.2.2.2.1.2.2.2.1.2.2.1, (x.2.2.2.2.2.1.2.2.2.1.2.2.2.1, ()))))).bind fun t12 => (bedrockref10_Base k (t12.1.1, (t12.1.2.1, (t12.1.2.2.1, (t12.1.2.2.2.1, ()))))).bind fun t13 => bif (!(t11.1 == t13.1)) then (K (.inl (false, ()))) else (let v14 : Int := x.2.2.2.2.2.1.1
  (block_Reward k v14).bind fun t15 => let v16 : Int := x.2.2.2.2.2.1.1
  (bedrockref11_Reward k v16).bind fun t17 => bif (t15.1 != t17.1) then (K (.inl (false, ()))) else (K (.inr (x.1, ((x.2.2.2.2.2.1.1, (x.2.2.2.2.2.1.2.1, (x.2.2.2.2.2.1.2.2.1, ((x.2.2.2.2.2.1.2.2.2.1.1, (x.2.2.2.2.2.1.2.2.2.1.2.1, (x.2.2.2.2.2.1.2.2.2.1.2.2.1, (x.2.2.2.2.2.1.2.2.2.1.2.2.2.1, ())))), ())))), ((x.2.2.2.2.2.2.1.1, (x.2.2.2.2.2.2.1.2.1, (x.2.2.2.2.2.2.1.2.2.1, (x.2.2.2.2.2.2.1.2.2.2.1, ())))), ())))))))))
def bedrocklaw11_BlockBases.p0 (k : Nat) (x : bedrocklaw11_BlockBases.p0.σ) : Option bedrocklaw11_BlockBases.p0.τ := bedrocklaw11_BlockBases.p0.r k x some
def bedrocklaw11_BlockBases.p0.T : StT := ⟨us 1 ++ .ptr 0 [] :: us 1 ++ .ptr 1 [] :: .dat (.int .i64) :: .dat (.int .i64) :: .dat .bool :: .dat (.int .i64) :: .dat .bool :: us 184, [.dat (.pair (.int .i64) (.pair .str (.pair (.sl (.pair (.int .u64) (.pair .str .unit))) (.pair (.pair (.int .u32) (.pair (.sl (.pair (.pair (.arr 32 (.int .u8)) (.pair (.int .u32) .unit)) (.pair .str (.pair (.int .u32) .unit)))) (.pair (.sl (.pair (.int .u64) (.pair .str .unit))) (.pair (.int .u32) .unit)))) .unit)))), .dat (.pair (.int .u32) (.pair (.sl (.pair (.pair (.arr 32 (.int .u8)) (.pair (.int .u32) .unit)) (.pair .str (.pair (.int .u32) .unit)))) (.pair (.sl (.pair (.int .u64) (.pair .str .unit))) (.pair (.int .u32) .unit))))]⟩
def bedrocklaw11_BlockBases.p0.os : List Out := [⟨.ret, [.mask [2], .auto 0], ⟨us 2 ++ .dat .bool :: us 190, []⟩⟩, ⟨.normal, [.mask [1, 3, 4], .auto 0], ⟨us 1 ++ .ptr 0 [] :: us 1 ++ .ptr 1 [] :: .dat (.int .i64) :: us 188, [.dat (.pair (.int .i64) (.pair .str (.pair (.sl (.pair (.int .u64) (.pair .str .unit))) (.pair (.pair (.int .u32) (.pair (.sl (.pair (.pair (.arr 32 (.int .u8)) (.pair (.int .u32) .unit)) (.pair .str (.pair (.int .u32) .unit)))) (.pair (.sl (.pair (.int .u64) (.pair .str .unit))) (.pair (.int .u32) .unit)))) .unit)))), .dat (.pair (.int .u32) (.pair (.sl (.pair (.pair (.arr 32 (.int .u8)) (.pair (.int .u32) .unit)) (.pair .str (.pair (.int .u32) .unit)))) (.pair (.sl (.pair (.int .u64) (.pair .str .unit))) (.pair (.int .u32) .unit))))]⟩⟩]
abbrev bedrocklaw11_BlockBases.p1.σ : Type := Int × (Int × (ByteArray × ((List (Int × (ByteArray × Unit))) × ((Int × ((List (((List Int) × (Int × Unit)) × (ByteArray × (Int × Unit)))) × ((List (Int × (ByteArray × Unit))) × (Int × Unit)))) × Unit)))) × (Int × ((List (((List Int) × (Int × Unit)) × (ByteArray × (Int × Unit)))) × ((List (Int × (ByteArray × Unit))) × (Int × Unit)))) × Unit
abbrev bedrocklaw11_BlockBases.p1.τ : Type := (Bool × Unit) ⊕ (Int × (Int × (ByteArray × ((List (Int × (ByteArray × Unit))) × ((Int × ((List (((List Int) × (Int × Unit)) × (ByteArray × (Int × Unit)))) × ((List (Int × (ByteArray × Unit))) × (Int × Unit)))) × Unit)))) × (Int × ((List (((List Int) × (Int × Unit)) × (ByteArray × (Int × Unit)))) × ((List (Int × (ByteArray × Unit))) × (Int × Unit)))) × Unit)
def bedrocklaw11_BlockBases.p1.r (k : Nat) {ρ : Type} (x : bedrocklaw11_BlockBases.p1.σ) (K : bedrocklaw11_BlockBases.p1.τ → Option ρ) : Option ρ :=
  let v21 : Int := x.2.1.1
  bif (decide (v21 < (0 : Int))) then (bif (x.1 == (1 : Int)) then (let v22 : (List (((List Int) × (Int × Unit)) × (ByteArray × (Int × Unit)))) := x.2.2.1.2.1
  let v23 : Int := (((List.length v22) : Nat) : Int)
  bif (v23 == (0 : Int)) then (let v24 : (List (Int × (ByteArray × Unit))) := x.2.2.1.2.2.1
  let v25 : Int := (((List.length v24) : Nat) : Int)
  K (.inl ((v25 == (0 : Int)), ()))) else (K (.inl (false, ())))) else (K (.inl (false, ())))) else (let v26 : Int := x.2.1.1
  bif (decide (v26 > (2147483647 : Int))) then (bif (x.1 == (1 : Int)) then (let v27 : (List (((List Int) × (Int × Unit)) × (ByteArray × (Int × Unit)))) := x.2.2.1.2.1
  let v28 : Int := (((List.length v27) : Nat) : Int)
  bif (v28 == (0 : Int)) then (let v29 : (List (Int × (ByteArray × Unit))) := x.2.2.1.2.2.1
  let v30 : Int := (((List.length v29) : Nat) : Int)
  K (.inl ((v30 == (0 : Int)), ()))) else (K (.inl (false, ())))) else (K (.inl (false, ())))) else (let v31 : ByteArray := x.2.1.2.1
  bif (decide ((((ByteArray.size v31) : Nat) : Int) > (96 : Int))) then (bif (x.1 == (1 : Int)) then (let v32 : (List (((List Int) × (Int × Unit)) × (ByteArray × (Int × Unit)))) := x.2.2.1.2.1
  let v33 : Int := (((List.length v32) : Nat) : Int)
  bif (v33 == (0 : Int)) then (let v34 : (List (Int × (ByteArray × Unit))) := x.2.2.1.2.2.1
  let v35 : Int := (((List.length v34) : Nat) : Int)
  K (.inl ((v35 == (0 : Int)), ()))) else (K (.inl (false, ())))) else (K (.inl (false, ())))) else (K (.inr (x.1, ((x.2.1.1, (x.2.1.2.1, (x.2.1.2.2.1, ((x.2.1.2.2.2.1.1, (x.2.1.2.2.2.1.2.1, (x.2.1.2.2.2.1.2.2.1, (x.2.1.2.2.2.1.2.2.2.1, ())))), ())))), ((x.2.2.1.1, (x.2.2.1.2.1, (x.2.2.1.2.2.1, (x.2.2.1.2.2.2.1, ())))), ())))))))
def bedrocklaw11_BlockBases.p1 (k : Nat) (x : bedrocklaw11_BlockBases.p1.σ) : Option bedrocklaw11_BlockBases.p1.τ := bedrocklaw11_BlockBases.p1.r k x some
def bedrocklaw11_BlockBases.p1.T : StT := ⟨us 1 ++ .ptr 0 [] :: us 1 ++ .ptr 1 [] :: .dat (.int .i64) :: us 188, [.dat (.pair (.int .i64) (.pair .str (.pair (.sl (.pair (.int .u64) (.pair .str .unit))) (.pair (.pair (.int .u32) (.pair (.sl (.pair (.pair (.arr 32 (.int .u8)) (.pair (.int .u32) .unit)) (.pair .str (.pair (.int .u32) .unit)))) (.pair (.sl (.pair (.int .u64) (.pair .str .unit))) (.pair (.int .u32) .unit)))) .unit)))), .dat (.pair (.int .u32) (.pair (.sl (.pair (.pair (.arr 32 (.int .u8)) (.pair (.int .u32) .unit)) (.pair .str (.pair (.int .u32) .unit)))) (.pair (.sl (.pair (.int .u64) (.pair .str .unit))) (.pair (.int .u32) .unit))))]⟩
def bedrocklaw11_BlockBases.p1.os : List Out := [⟨.ret, [.mask [2], .auto 0], ⟨us 2 ++ .dat .bool :: us 190, []⟩⟩, ⟨.normal, [.mask [1, 3, 4], .auto 0], ⟨us 1 ++ .ptr 0 [] :: us 1 ++ .ptr 1 [] :: .dat (.int .i64) :: us 188, [.dat (.pair (.int .i64) (.pair .str (.pair (.sl (.pair (.int .u64) (.pair .str .unit))) (.pair (.pair (.int .u32) (.pair (.sl (.pair (.pair (.arr 32 (.int .u8)) (.pair (.int .u32) .unit)) (.pair .str (.pair (.int .u32) .unit)))) (.pair (.sl (.pair (.int .u64) (.pair .str .unit))) (.pair (.int .u32) .unit)))) .unit)))), .dat (.pair (.int .u32) (.pair (.sl (.pair (.pair (.arr 32 (.int .u8)) (.pair (.int .u32) .unit)) (.pair .str (.pair (.int .u32) .unit)))) (.pair (.sl (.pair (.int .u64) (.pair .str .unit))) (.pair (.int .u32) .unit))))]⟩⟩]
abbrev bedrocklaw11_BlockBases.p2.σ : Type := Int × (Int × (ByteArray × ((List (Int × (ByteArray × Unit))) × ((Int × ((List (((List Int) × (Int × Unit)) × (ByteArray × (Int × Unit)))) × ((List (Int × (ByteArray × Unit))) × (Int × Unit)))) × Unit)))) × (Int × ((List (((List Int) × (Int × Unit)) × (ByteArray × (Int × Unit)))) × ((List (Int × (ByteArray × Unit))) × (Int × Unit)))) × (Int × ((List ((List Int) × (Int × (ByteArray × (Int × Unit))))) × ((List (Int × (ByteArray × Unit))) × (Int × Unit)))) × Unit
abbrev bedrocklaw11_BlockBases.p2.τ : Type := (Bool × Unit) ⊕ ((Int × (ByteArray × ((List (Int × (ByteArray × Unit))) × ((Int × ((List (((List Int) × (Int × Unit)) × (ByteArray × (Int × Unit)))) × ((List (Int × (ByteArray × Unit))) × (Int × Unit)))) × Unit)))) × (Int × ((List (((List Int) × (Int × Unit)) × (ByteArray × (Int × Unit)))) × ((List (Int × (ByteArray × Unit))) × (Int × Unit)))) × (Int × ((List ((List Int) × (Int × (ByteArray × (Int × Unit))))) × ((List (Int × (ByteArray × Unit))) × (Int × Unit)))) × Unit)
def bedrocklaw11_BlockBases.p2.r (k : Nat) {ρ : Type} (x : bedrocklaw11_BlockBases.p2.σ) (K : bedrocklaw11_BlockBases.p2.τ → Option ρ) : Option ρ :=
  bif (x.1 != (0 : Int)) then (K (.inl (false, ()))) else ((bedrockref10_Base k (x.2.2.2.1.1, (x.2.2.2.1.2.1, (x.2.2.2.1.2.2.1, (x.2.2.2.1.2.2.2.1, ()))))).bind fun t40 => bif (!t40.1) then (K (.inl (false, ()))) else (let v41 : Int := x.2.2.2.1.1
  bif (v41 != (1 : Int)) then (K (.inl (false, ()))) else (let v42 : Int := x.2.2.2.1.2.2.2.1
  bif (v42 != (0 : Int)) then (K (.inl (false, ()))) else (let v43 : (List ((List Int) × (Int × (ByteArray × (Int × Unit))))) := x.2.2.2.1.2.1
  bif (decide (((0 : Int) ≤ (0 : Int)) ∧ ((0 : Int) < (((List.length v43) : Nat) : Int)))) then (let v44 : ByteArray := (List.getD v43 0 ((List.replicate 32 (0 : Int)), ((0 : Int), (ByteArray.empty, ((0 : Int), ()))))).2.2.1
  let v45 : Int := x.2.1.1
  (bedrockref01_Low k (IntKind.wrap IntKind.u64 v45) (4 : Int)).bind fun t46 => let v47 : ByteArray := x.2.1.2.1
  bif (Nat.ble ((ByteArray.size t46.1) + (ByteArray.size v47)) 9223372036854775807) then (let v48 : ByteArray := (t46.1 ++ v47)
  bif (!(strEq v44 v48)) then (K (.inl (false, ()))) else (let v49 : (List ((List Int) × (Int × (ByteArray × (Int × Unit))))) := x.2.2.2.1.2.1
  bif (decide (((0 : Int) ≤ (0 : Int)) ∧ ((0 : Int) < (((List.length v49) : Nat) : Int)))) then (let v50 : Int := (List.getD v49 0 ((List.replicate 32 (0 : Int)), ((0 : Int), (ByteArray.empty, ((0 : Int), ()))))).2.2.2.1
  bif (v50 != (4294967295 : Int)) then (K (.inl (false, ()))) else (let v51 : (List (Int × (ByteArray × Unit))) := x.2.2.2.1.2.2.1
  let v52 : Int := (((List.length v51) : Nat) : Int)
  let v53 : (List (Int × (ByteArray × Unit))) := x.2.1.2.2.1
  let v54 : Int := (((List.length v53) : Nat) : Int)
  bif (v52 != v54) then (K (.inl (false, ()))) else (K (.inr ((x.2.1.1, (x.2.1.2.1, (x.2.1.2.2.1, ((x.2.1.2.2.2.1.1, (x.2.1.2.2.2.1.2.1, (x.2.1.2.2.2.1.2.2.1, (x.2.1.2.2.2.1.2.2.2.1, ())))), ())))), ((x.2.2.1.1, (x.2.2.1.2.1, (x.2.2.1.2.2.1, (x.2.2.1.2.2.2.1, ())))), ((x.2.2.2.1.1, (x.2.2.2.1.2.1, (x.2.2.2.1.2.2.1, (x.2.2.2.1.2.2.2.1, ())))), ()))))))) else (none))) else (none)) else (none)))))
def bedrocklaw11_BlockBases.p2 (k : Nat) (x : bedrocklaw11_BlockBases.p2.σ) : Option bedrocklaw11_BlockBases.p2.τ := bedrocklaw11_BlockBases.p2.r k x some
def bedrocklaw11_BlockBases.p2.T : StT := ⟨us 1 ++ .ptr 0 [] :: us 1 ++ .ptr 1 [] :: .dat (.int .i64) :: us 4 ++ .ptr 2 [] :: us 183, [.dat (.pair (.int .i64) (.pair .str (.pair (.sl (.pair (.int .u64) (.pair .str .unit))) (.pair (.pair (.int .u32) (.pair (.sl (.pair (.pair (.arr 32 (.int .u8)) (.pair (.int .u32) .unit)) (.pair .str (.pair (.int .u32) .unit)))) (.pair (.sl (.pair (.int .u64) (.pair .str .unit))) (.pair (.int .u32) .unit)))) .unit)))), .dat (.pair (.int .u32) (.pair (.sl (.pair (.pair (.arr 32 (.int .u8)) (.pair (.int .u32) .unit)) (.pair .str (.pair (.int .u32) .unit)))) (.pair (.sl (.pair (.int .u64) (.pair .str .unit))) (.pair (.int .u32) .unit)))), .dat (.pair (.int .u32) (.pair (.sl (.pair (.arr 32 (.int .u8)) (.pair (.int .u32) (.pair .str (.pair (.int .u32) .unit))))) (.pair (.sl (.pair (.int .u64) (.pair .str .unit))) (.pair (.int .u32) .unit))))]⟩
def bedrocklaw11_BlockBases.p2.os : List Out := [⟨.ret, [.mask [2], .auto 0], ⟨us 2 ++ .dat .bool :: us 190, []⟩⟩, ⟨.normal, [.mask [1, 3, 9], .auto 0], ⟨us 1 ++ .ptr 0 [] :: us 1 ++ .ptr 1 [] :: us 5 ++ .ptr 2 [] :: us 183, [.dat (.pair (.int .i64) (.pair .str (.pair (.sl (.pair (.int .u64) (.pair .str .unit))) (.pair (.pair (.int .u32) (.pair (.sl (.pair (.pair (.arr 32 (.int .u8)) (.pair (.int .u32) .unit)) (.pair .str (.pair (.int .u32) .unit)))) (.pair (.sl (.pair (.int .u64) (.pair .str .unit))) (.pair (.int .u32) .unit)))) .unit)))), .dat (.pair (.int .u32) (.pair (.sl (.pair (.pair (.arr 32 (.int .u8)) (.pair (.int .u32) .unit)) (.pair .str (.pair (.int .u32) .unit)))) (.pair (.sl (.pair (.int .u64) (.pair .str .unit))) (.pair (.int .u32) .unit)))), .dat (.pair (.int .u32) (.pair (.sl (.pair (.arr 32 (.int .u8)) (.pair (.int .u32) (.pair .str (.pair (.int .u32) .unit))))) (.pair (.sl (.pair (.int .u64) (.pair .str .unit))) (.pair (.int .u32) .unit))))]⟩⟩]
abbrev bedrocklaw11_BlockBases.l3.σ : Type := Int × (Int × (ByteArray × ((List (Int × (ByteArray × Unit))) × ((Int × ((List (((List Int) × (Int × Unit)) × (ByteArray × (Int × Unit)))) × ((List (Int × (ByteArray × Unit))) × (Int × Unit)))) × Unit)))) × (Int × ((List (((List Int) × (Int × Unit)) × (ByteArray × (Int × Unit)))) × ((List (Int × (ByteArray × Unit))) × (Int × Unit)))) × (Int × ((List ((List Int) × (Int × (ByteArray × (Int × Unit))))) × ((List (Int × (ByteArray × Unit))) × (Int × Unit)))) × Unit
abbrev bedrocklaw11_BlockBases.l3.τ : Type := (Bool × Unit) ⊕ ((Int × (ByteArray × ((List (Int × (ByteArray × Unit))) × ((Int × ((List (((List Int) × (Int × Unit)) × (ByteArray × (Int × Unit)))) × ((List (Int × (ByteArray × Unit))) × (Int × Unit)))) × Unit)))) × (Int × ((List (((List Int) × (Int × Unit)) × (ByteArray × (Int × Unit)))) × ((List (Int × (ByteArray × Unit))) × (Int × Unit)))) × Unit)
def bedrocklaw11_BlockBases.l3.r (k : Nat) {ρ : Type} (x : bedrocklaw11_BlockBases.l3.σ) (kn : bedrocklaw11_BlockBases.l3.σ → Option ρ) (ke : bedrocklaw11_BlockBases.l3.τ → Option ρ) : Option ρ :=
  let v58 : (List (Int × (ByteArray × Unit))) := x.2.2.2.1.2.2.1
  let v59 : Int := (((List.length v58) : Nat) : Int)
  bif (decide (x.1 < v59)) then (let v60 : (List (Int × (ByteArray × Unit))) := x.2.2.2.1.2.2.1
  bif (decide (((0 : Int) ≤ x.1) ∧ (x.1 < (((List.length v60) : Nat) : Int)))) then (let v61 : Int := (List.getD v60 (Int.toNat x.1) ((0 : Int), (ByteArray.empty, ()))).1
  let v62 : (List (Int × (ByteArray × Unit))) := x.2.1.2.2.1
  bif (decide (((0 : Int) ≤ x.1) ∧ (x.1 < (((List.length v62) : Nat) : Int)))) then (let v63 : Int := (List.getD v62 (Int.toNat x.1) ((0 : Int), (ByteArray.empty, ()))).1
  bif (v61 != v63) then (ke (.inl (false, ()))) else (let v64 : (List (Int × (ByteArray × Unit))) := x.2.2.2.1.2.2.1
  bif (decide (((0 : Int) ≤ x.1) ∧ (x.1 < (((List.length v64) : Nat) : Int)))) then (let v65 : ByteArray := (List.getD v64 (Int.toNat x.1) ((0 : Int), (ByteArray.empty, ()))).2.1
  let v66 : (List (Int × (ByteArray × Unit))) := x.2.1.2.2.1
  bif (decide (((0 : Int) ≤ x.1) ∧ (x.1 < (((List.length v66) : Nat) : Int)))) then (let v67 : ByteArray := (List.getD v66 (Int.toNat x.1) ((0 : Int), (ByteArray.empty, ()))).2.1
  bif (!(strEq v65 v67)) then (ke (.inl (false, ()))) else (let v68 : Int := (IntKind.wrap IntKind.i64 (x.1 + (1 : Int)))
  kn (v68, ((x.2.1.1, (x.2.1.2.1, (x.2.1.2.2.1, ((x.2.1.2.2.2.1.1, (x.2.1.2.2.2.1.2.1, (x.2.1.2.2.2.1.2.2.1, (x.2.1.2.2.2.1.2.2.2.1, ())))), ())))), ((x.2.2.1.1, (x.2.2.1.2.1, (x.2.2.1.2.2.1, (x.2.2.1.2.2.2.1, ())))), ((x.2.2.2.1.1, (x.2.2.2.1.2.1, (x.2.2.2.1.2.2.1, (x.2.2.2.1.2.2.2.1, ())))), ())))))) else (none)) else (none))) else (none)) else (none)) else (ke (.inr ((x.2.1.1, (x.2.1.2.1, (x.2.1.2.2.1, ((x.2.1.2.2.2.1.1, (x.2.1.2.2.2.1.2.1, (x.2.1.2.2.2.1.2.2.1, (x.2.1.2.2.2.1.2.2.2.1, ())))), ())))), ((x.2.2.1.1, (x.2.2.1.2.1, (x.2.2.1.2.2.1, (x.2.2.1.2.2.2.1, ())))), ()))))
def bedrocklaw11_BlockBases.l3 (k : Nat) : Nat → bedrocklaw11_BlockBases.l3.σ → Option bedrocklaw11_BlockBases.l3.τ := loopJ (bedrocklaw11_BlockBases.l3.r k)
def bedrocklaw11_BlockBases.l3.T : StT := ⟨us 1 ++ .ptr 0 [] :: us 1 ++ .ptr 1 [] :: us 5 ++ .ptr 2 [] :: .dat (.int .i64) :: us 182, [.dat (.pair (.int .i64) (.pair .str (.pair (.sl (.pair (.int .u64) (.pair .str .unit))) (.pair (.pair (.int .u32) (.pair (.sl (.pair (.pair (.arr 32 (.int .u8)) (.pair (.int .u32) .unit)) (.pair .str (.pair (.int .u32) .unit)))) (.pair (.sl (.pair (.int .u64) (.pair .str .unit))) (.pair (.int .u32) .unit)))) .unit)))), .dat (.pair (.int .u32) (.pair (.sl (.pair (.pair (.arr 32 (.int .u8)) (.pair (.int .u32) .unit)) (.pair .str (.pair (.int .u32) .unit)))) (.pair (.sl (.pair (.int .u64) (.pair .str .unit))) (.pair (.int .u32) .unit)))), .dat (.pair (.int .u32) (.pair (.sl (.pair (.arr 32 (.int .u8)) (.pair (.int .u32) (.pair .str (.pair (.int .u32) .unit))))) (.pair (.sl (.pair (.int .u64) (.pair .str .unit))) (.pair (.int .u32) .unit))))]⟩
def bedrocklaw11_BlockBases.l3.os : List Out := [⟨.ret, [.mask [2], .auto 0], ⟨us 2 ++ .dat .bool :: us 190, []⟩⟩, ⟨(.exit 0), [.mask [1, 3], .auto 0], ⟨us 1 ++ .ptr 0 [] :: us 1 ++ .ptr 1 [] :: us 189, [.dat (.pair (.int .i64) (.pair .str (.pair (.sl (.pair (.int .u64) (.pair .str .unit))) (.pair (.pair (.int .u32) (.pair (.sl (.pair (.pair (.arr 32 (.int .u8)) (.pair (.int .u32) .unit)) (.pair .str (.pair (.int .u32) .unit)))) (.pair (.sl (.pair (.int .u64) (.pair .str .unit))) (.pair (.int .u32) .unit)))) .unit)))), .dat (.pair (.int .u32) (.pair (.sl (.pair (.pair (.arr 32 (.int .u8)) (.pair (.int .u32) .unit)) (.pair .str (.pair (.int .u32) .unit)))) (.pair (.sl (.pair (.int .u64) (.pair .str .unit))) (.pair (.int .u32) .unit))))]⟩⟩]
def bedrocklaw11_BlockBases.c (k : Nat) {ρ : Type} (x_0 : (Int × (ByteArray × ((List (Int × (ByteArray × Unit))) × ((Int × ((List (((List Int) × (Int × Unit)) × (ByteArray × (Int × Unit)))) × ((List (Int × (ByteArray × Unit))) × (Int × Unit)))) × Unit))))) (K : Bool × Unit → Option ρ) : Option ρ :=
  let v0 : Int := x_0.1
  let v1 : ByteArray := x_0.2.1
  let v2 : (List (Int × (ByteArray × Unit))) := x_0.2.2.1
  (block_Coinbase k v0 v1 v2).bind fun t3 => let v4 : Int := t3.2.1
  (block_Height k (x_0.2.2.2.1.1, (x_0.2.2.2.1.2.1, (x_0.2.2.2.1.2.2.1, (x_0.2.2.2.1.2.2.2.1, ()))))).bind fun t5 => let v6 : Int := t5.1
  (bedrocklaw11_one k (x_0.2.2.2.1.1, (x_0.2.2.2.1.2.1, (x_0.2.2.2.1.2.2.1, (x_0.2.2.2.1.2.2.2.1, ()))))).bind fun t7 => (bedrockref11_Height k (t7.1.1, (t7.1.2.1, (t7.1.2.2.1, (t7.1.2.2.2.1, ()))))).bind fun t8 => let v9 : Int := t8.1
  (bedrocklaw11_BlockBases.p0 k (v4, (v6, (t5.2.1, (v9, (t8.2.1, ((x_0.1, (x_0.2.1, (x_0.2.2.1, ((x_0.2.2.2.1.1, (x_0.2.2.2.1.2.1, (x_0.2.2.2.1.2.2.1, (x_0.2.2.2.1.2.2.2.1, ())))), ())))), ((t3.1.1, (t3.1.2.1, (t3.1.2.2.1, (t3.1.2.2.2.1, ())))), ())))))))).bind fun t18 => (match t18 with | .inl t19 => (K (t19.1, ())) | .inr (t20) => ((bedrocklaw11_BlockBases.p1 k (t20.1, ((t20.2.1.1, (t20.2.1.2.1, (t20.2.1.2.2.1, ((t20.2.1.2.2.2.1.1, (t20.2.1.2.2.2.1.2.1, (t20.2.1.2.2.2.1.2.2.1, (t20.2.1.2.2.2.1.2.2.2.1, ())))), ())))), ((t20.2.2.1.1, (t20.2.2.1.2.1, (t20.2.2.1.2.2.1, (t20.2.2.1.2.2.2.1, ())))), ())))).bind fun t36 => (match t36 with | .inl t37 => (K (t37.1, ())) | .inr (t38) => ((bedrocklaw11_one k (t38.2.2.1.1, (t38.2.2.1.2.1, (t38.2.2.1.2.2.1, (t38.2.2.1.2.2.2.1, ()))))).bind fun t39 => (bedrocklaw11_BlockBases.p2 k (t38.1, ((t38.2.1.1, (t38.2.1.2.1, (t38.2.1.2.2.1, ((t38.2.1.2.2.2.1.1, (t38.2.1.2.2.2.1.2.1, (t38.2.1.2.2.2.1.2.2.1, (t38.2.1.2.2.2.1.2.2.2.1, ())))), ())))), ((t38.2.2.1.1, (t38.2.2.1.2.1, (t38.2.2.1.2.2.1, (t38.2.2.1.2.2.2.1, ())))), ((t39.1.1, (t39.1.2.1, (t39.1.2.2.1, (t39.1.2.2.2.1, ())))), ()))))).bind fun t55 => (match t55 with | .inl t56 => (K (t56.1, ())) | .inr (t57) => ((bedrocklaw11_BlockBases.l3 k k ((0 : Int), ((t57.1.1, (t57.1.2.1, (t57.1.2.2.1, ((t57.1.2.2.2.1.1, (t57.1.2.2.2.1.2.1, (t57.1.2.2.2.1.2.2.1, (t57.1.2.2.2.1.2.2.2.1, ())))), ())))), ((t57.2.1.1, (t57.2.1.2.1, (t57.2.1.2.2.1, (t57.2.1.2.2.2.1, ())))), ((t57.2.2.1.1, (t57.2.2.1.2.1, (t57.2.2.1.2.2.1, (t57.2.2.1.2.2.2.1, ())))), ()))))).bind fun t69 => (match t69 with | .inl t70 => (K (t70.1, ())) | .inr (t71) => ((block_Height k (t71.2.1.1, (t71.2.1.2.1, (t71.2.1.2.2.1, (t71.2.1.2.2.2.1, ()))))).bind fun t72 => let v73 : Int := t72.1
  bif t72.2.1 then (let v74 : Int := t71.1.1
  K ((v73 == v74), ())) else (K (false, ()))))))))))
def bedrocklaw11_BlockBases (k : Nat) (x_0 : (Int × (ByteArray × ((List (Int × (ByteArray × Unit))) × ((Int × ((List (((List Int) × (Int × Unit)) × (ByteArray × (Int × Unit)))) × ((List (Int × (ByteArray × Unit))) × (Int × Unit)))) × Unit))))) : Option (Bool × Unit) := bedrocklaw11_BlockBases.c k x_0 some
def bedrocklaw11_BlockBases.tin : List Ty := [(.pair (.int .i64) (.pair .str (.pair (.sl (.pair (.int .u64) (.pair .str .unit))) (.pair (.pair (.int .u32) (.pair (.sl (.pair (.pair (.arr 32 (.int .u8)) (.pair (.int .u32) .unit)) (.pair .str (.pair (.int .u32) .unit)))) (.pair (.sl (.pair (.int .u64) (.pair .str .unit))) (.pair (.int .u32) .unit)))) .unit))))]
def bedrocklaw11_BlockBases.tout : List Ty := [.bool]
def bedrocklaw11_BlockBases.sem (k : Nat) : CallSem := callPure bedrocklaw11_BlockBases.tin bedrocklaw11_BlockBases.tout fun x => bedrocklaw11_BlockBases k x.1
noncomputable def bedrocklaw11_BlockBases.ctx (k : Nat) : Ctx := ⟨Try.prog, gam [(11, (block_Coinbase.sem k)), (12, (block_Height.sem k)), (14, (bedrocklaw11_one.sem k)), (13, (bedrockref11_Height.sem k)), (8, (bedrocklaw11_awake.sem k)), (15, (block_IsCoinbase.sem k)), (16, (bedrockref10_Base.sem k)), (17, (block_Reward.sem k)), (18, (bedrockref11_Reward.sem k)), (19, (bedrockref01_Low.sem k))]⟩
theorem bedrocklaw11_BlockBases.gok (k : Nat) : ∀ f, SemOK Try.prog f ((bedrocklaw11_BlockBases.ctx k).Γ f) := (gam_cons (block_Coinbase.sem_ok k) (gam_cons (block_Height.sem_ok k) (gam_cons (bedrocklaw11_one.sem_ok k) (gam_cons (bedrockref11_Height.sem_ok k) (gam_cons (bedrocklaw11_awake.sem_ok k) (gam_cons (block_IsCoinbase.sem_ok k) (gam_cons (bedrockref10_Base.sem_ok k) (gam_cons (block_Reward.sem_ok k) (gam_cons (bedrockref11_Reward.sem_ok k) (gam_cons (bedrockref01_Low.sem_ok k) gam_nil))))))))))
theorem bedrocklaw11_BlockBases.p0.is (k : Nat) : PieceIs (bedrocklaw11_BlockBases.ctx k) (codeAt (Func.code Try.f4) [1, 1, 1, 1, 0]) (.nil) bedrocklaw11_BlockBases.p0.T bedrocklaw11_BlockBases.p0.os (bedrocklaw11_BlockBases.p0.r k) := by
  intro ρ x K; kernel_rfl
theorem bedrocklaw11_BlockBases.p0.ok (k : Nat) : StOK 0 Try.prog (codeAt (Func.code Try.f4) [1, 1, 1, 1, 0]) (pieceSem bedrocklaw11_BlockBases.p0.T bedrocklaw11_BlockBases.p0.os (bedrocklaw11_BlockBases.p0 k)) :=
  piece_ok (C := bedrocklaw11_BlockBases.ctx k) (T := bedrocklaw11_BlockBases.p0.T) (os := bedrocklaw11_BlockBases.p0.os) (bedrocklaw11_BlockBases.gok k) Try.mix (fun x K => bedrocklaw11_BlockBases.p0.r k x K) AnnOK.nil (by kernel_rfl) (by kernel_rfl) (bedrocklaw11_BlockBases.p0.is k)
theorem bedrocklaw11_BlockBases.p1.is (k : Nat) : PieceIs (bedrocklaw11_BlockBases.ctx k) (codeAt (Func.code Try.f4) [1, 1, 1, 1, 1, 0]) (.nil) bedrocklaw11_BlockBases.p1.T bedrocklaw11_BlockBases.p1.os (bedrocklaw11_BlockBases.p1.r k) := by
  intro ρ x K; kernel_rfl
theorem bedrocklaw11_BlockBases.p1.ok (k : Nat) : StOK 0 Try.prog (codeAt (Func.code Try.f4) [1, 1, 1, 1, 1, 0]) (pieceSem bedrocklaw11_BlockBases.p1.T bedrocklaw11_BlockBases.p1.os (bedrocklaw11_BlockBases.p1 k)) :=
  piece_ok (C := bedrocklaw11_BlockBases.ctx k) (T := bedrocklaw11_BlockBases.p1.T) (os := bedrocklaw11_BlockBases.p1.os) (bedrocklaw11_BlockBases.gok k) Try.mix (fun x K => bedrocklaw11_BlockBases.p1.r k x K) AnnOK.nil (by kernel_rfl) (by kernel_rfl) (bedrocklaw11_BlockBases.p1.is k)
theorem bedrocklaw11_BlockBases.p2.is (k : Nat) : PieceIs (bedrocklaw11_BlockBases.ctx k) (codeAt (Func.code Try.f4) [1, 1, 1, 1, 1, 1, 1, 0]) (.nil) bedrocklaw11_BlockBases.p2.T bedrocklaw11_BlockBases.p2.os (bedrocklaw11_BlockBases.p2.r k) := by
  intro ρ x K; kernel_rfl
theorem bedrocklaw11_BlockBases.p2.ok (k : Nat) : StOK 0 Try.prog (codeAt (Func.code Try.f4) [1, 1, 1, 1, 1, 1, 1, 0]) (pieceSem bedrocklaw11_BlockBases.p2.T bedrocklaw11_BlockBases.p2.os (bedrocklaw11_BlockBases.p2 k)) :=
  piece_ok (C := bedrocklaw11_BlockBases.ctx k) (T := bedrocklaw11_BlockBases.p2.T) (os := bedrocklaw11_BlockBases.p2.os) (bedrocklaw11_BlockBases.gok k) Try.mix (fun x K => bedrocklaw11_BlockBases.p2.r k x K) AnnOK.nil (by kernel_rfl) (by kernel_rfl) (bedrocklaw11_BlockBases.p2.is k)
theorem bedrocklaw11_BlockBases.l3.round (k : Nat) : RoundIs (bedrocklaw11_BlockBases.ctx k) (codeAt (Func.code Try.f4) [1, 1, 1, 1, 1, 1, 1, 1, 0, 1, 0, 0]) (.nil) bedrocklaw11_BlockBases.l3.T [.mask [1, 3, 9, 10], .auto 0] bedrocklaw11_BlockBases.l3.os (bedrocklaw11_BlockBases.l3.r k) := by
  intro ρ x kn ke; kernel_rfl
theorem bedrocklaw11_BlockBases.l3.ok (k : Nat) : StOK 0 Try.prog (.loop (codeAt (Func.code Try.f4) [1, 1, 1, 1, 1, 1, 1, 1, 0, 1, 0, 0])) (pieceSem bedrocklaw11_BlockBases.l3.T bedrocklaw11_BlockBases.l3.os (bedrocklaw11_BlockBases.l3 k k)) :=
  loop_ok (C := bedrocklaw11_BlockBases.ctx k) (bedrocklaw11_BlockBases.gok k) Try.mix AnnOK.nil (by kernel_rfl) (by kernel_rfl) (by kernel_rfl) (bedrocklaw11_BlockBases.l3.round k) k
def bedrocklaw11_BlockBases.ann (k : Nat) : Ann := .node [] none (.nil) (.node [] none (.nil) (.node [] none (.nil) (.node [] none (.nil) (.node [] none (.node [.mask [1, 3, 4, 5, 6, 7, 8], .auto 0] (some (pieceSem bedrocklaw11_BlockBases.p0.T bedrocklaw11_BlockBases.p0.os (bedrocklaw11_BlockBases.p0 k))) .nil .nil) (.node [] none (.node [.mask [1, 3, 4], .auto 0] (some (pieceSem bedrocklaw11_BlockBases.p1.T bedrocklaw11_BlockBases.p1.os (bedrocklaw11_BlockBases.p1 k))) .nil .nil) (.node [] none (.nil) (.node [] none (.node [.mask [1, 3, 4, 9], .auto 0] (some (pieceSem bedrocklaw11_BlockBases.p2.T bedrocklaw11_BlockBases.p2.os (bedrocklaw11_BlockBases.p2 k))) .nil .nil) (.node [] none (.node [] none (.nil) (.node [] none (.node [.mask [1, 3, 9, 10], .auto 0] (some (pieceSem bedrocklaw11_BlockBases.l3.T bedrocklaw11_BlockBases.l3.os (bedrocklaw11_BlockBases.l3 k k))) .nil .nil) (.nil))) (.nil)))))))))
theorem bedrocklaw11_BlockBases.body (k : Nat) : BodyIs (bedrocklaw11_BlockBases.ctx k) Try.f4 (Func.code Try.f4) (bedrocklaw11_BlockBases.ann k) bedrocklaw11_BlockBases.tin bedrocklaw11_BlockBases.tout (fun x K => bedrocklaw11_BlockBases.c k x.1 K) := by
  intro ρ x K; kernel_rfl
theorem bedrocklaw11_BlockBases.sem_ok (k : Nat) : SemOK Try.prog 4 (bedrocklaw11_BlockBases.sem k) :=
  callPure_ok (C := bedrocklaw11_BlockBases.ctx k) (bedrocklaw11_BlockBases.gok k) Try.mix (c := Func.code Try.f4) (ann := bedrocklaw11_BlockBases.ann k) (tin := bedrocklaw11_BlockBases.tin) (tout := bedrocklaw11_BlockBases.tout) (fun x K => bedrocklaw11_BlockBases.c k x.1 K) Try.func4 (by kernel_rfl) (by kernel_rfl) (AnnOK.seq AnnOK.nil (AnnOK.seq AnnOK.nil (AnnOK.seq AnnOK.nil (AnnOK.seq AnnOK.nil (AnnOK.seq (AnnOK.loop (by kernel_rfl) (bedrocklaw11_BlockBases.p0.ok k)) (AnnOK.seq (AnnOK.loop (by kernel_rfl) (bedrocklaw11_BlockBases.p1.ok k)) (AnnOK.seq AnnOK.nil (AnnOK.seq (AnnOK.loop (by kernel_rfl) (bedrocklaw11_BlockBases.p2.ok k)) (AnnOK.seq (AnnOK.seq AnnOK.nil (AnnOK.block (AnnOK.loop (by kernel_rfl) (bedrocklaw11_BlockBases.l3.ok k)))) AnnOK.nil))))))))) (bedrocklaw11_BlockBases.body k)

end Go.Am
namespace Go.Am
open Go Go.Proofs
set_option maxRecDepth 100000
/-! 22 bedrock/bedrocklaw11.head -/
def bedrocklaw11_head.c (k : Nat) {ρ : Type} (h : (Int × ((List Int) × ((List Int) × (Int × (Int × (Int × Unit))))))) (K : (Int × ((List Int) × ((List Int) × (Int × (Int × (Int × Unit)))))) × Unit → Option ρ) : Option ρ :=
  let v0 : Int := h.1
  let v1 : (List Int) := h.2.1
  let v2 : (List Int) := h.2.2.1
  let v3 : Int := h.2.2.2.1
  let v4 : Int := h.2.2.2.2.1
  let v5 : Int := h.2.2.2.2.2.1
  K ((v0, (v1, (v2, (v3, (v4, (v5, ())))))), ())
def bedrocklaw11_head (k : Nat) (h : (Int × ((List Int) × ((List Int) × (Int × (Int × (Int × Unit))))))) : Option ((Int × ((List Int) × ((List Int) × (Int × (Int × (Int × Unit)))))) × Unit) := bedrocklaw11_head.c k h some
def bedrocklaw11_head.tin : List Ty := [(.pair (.int .u32) (.pair (.arr 32 (.int .u8)) (.pair (.arr 32 (.int .u8)) (.pair (.int .u32) (.pair (.int .u32) (.pair (.int .u32) .unit))))))]
def bedrocklaw11_head.tout : List Ty := [(.pair (.int .u32) (.pair (.arr 32 (.int .u8)) (.pair (.arr 32 (.int .u8)) (.pair (.int .u32) (.pair (.int .u32) (.pair (.int .u32) .unit))))))]
def bedrocklaw11_head.sem (k : Nat) : CallSem := callPure bedrocklaw11_head.tin bedrocklaw11_head.tout fun x => bedrocklaw11_head k x.1
noncomputable def bedrocklaw11_head.ctx (k : Nat) : Ctx := ⟨Try.prog, gam []⟩
theorem bedrocklaw11_head.gok (k : Nat) : ∀ f, SemOK Try.prog f ((bedrocklaw11_head.ctx k).Γ f) := gam_nil
def bedrocklaw11_head.ann (k : Nat) : Ann := .nil
theorem bedrocklaw11_head.body (k : Nat) : BodyIs (bedrocklaw11_head.ctx k) Try.f22 (Func.code Try.f22) (bedrocklaw11_head.ann k) bedrocklaw11_head.tin bedrocklaw11_head.tout (fun x K => bedrocklaw11_head.c k x.1 K) := by
  intro ρ x K; kernel_rfl
theorem bedrocklaw11_head.sem_ok (k : Nat) : SemOK Try.prog 22 (bedrocklaw11_head.sem k) :=
  callPure_ok (C := bedrocklaw11_head.ctx k) (bedrocklaw11_head.gok k) Try.mix (c := Func.code Try.f22) (ann := bedrocklaw11_head.ann k) (tin := bedrocklaw11_head.tin) (tout := bedrocklaw11_head.tout) (fun x K => bedrocklaw11_head.c k x.1 K) Try.func22 (by kernel_rfl) (by kernel_rfl) AnnOK.nil (bedrocklaw11_head.body k)

/-! 6 bedrock/bedrocklaw11.ref -/
abbrev bedrocklaw11_ref.l0.σ : Type := Int × ((Int × ((List Int) × ((List Int) × (Int × (Int × (Int × Unit)))))) × ((List (Int × ((List (((List Int) × (Int × Unit)) × (ByteArray × (Int × Unit)))) × ((List (Int × (ByteArray × Unit))) × (Int × Unit))))) × Unit)) × ((Int × ((List Int) × ((List Int) × (Int × (Int × (Int × Unit)))))) × (Unit × Unit)) × ((Int × ((List Int) × ((List Int) × (Int × (Int × (Int × Unit)))))) × (Unit × Unit)) × (List (Int × ((List ((List Int) × (Int × (ByteArray × (Int × Unit))))) × ((List (Int × (ByteArray × Unit))) × (Int × Unit))))) × Unit
abbrev bedrocklaw11_ref.l0.τ : Type := (((Int × ((List Int) × ((List Int) × (Int × (Int × (Int × Unit)))))) × (Unit × Unit)) × ((Int × ((List Int) × ((List Int) × (Int × (Int × (Int × Unit)))))) × (Unit × Unit)) × (List (Int × ((List ((List Int) × (Int × (ByteArray × (Int × Unit))))) × ((List (Int × (ByteArray × Unit))) × (Int × Unit))))) × Unit)
def bedrocklaw11_ref.l0.r (k : Nat) {ρ : Type} (x : bedrocklaw11_ref.l0.σ) (kn : bedrocklaw11_ref.l0.σ → Option ρ) (ke : bedrocklaw11_ref.l0.τ → Option ρ) : Option ρ :=
  let v1 : (List (Int × ((List (((List Int) × (Int × Unit)) × (ByteArray × (Int × Unit)))) × ((List (Int × (ByteArray × Unit))) × (Int × Unit))))) := x.2.1.2.1
  let v2 : Int := (((List.length v1) : Nat) : Int)
  bif (decide (x.1 < v2)) then (let v3 : (List (Int × ((List (((List Int) × (Int × Unit)) × (ByteArray × (Int × Unit)))) × ((List (Int × (ByteArray × Unit))) × (Int × Unit))))) := x.2.1.2.1
  bif (decide (((0 : Int) ≤ x.1) ∧ (x.1 < (((List.length v3) : Nat) : Int)))) then ((bedrocklaw11_one k ((List.getD v3 (Int.toNat x.1) ((0 : Int), ([], ([], ((0 : Int), ()))))).1, ((List.getD v3 (Int.toNat x.1) ((0 : Int), ([], ([], ((0 : Int), ()))))).2.1, ((List.getD v3 (Int.toNat x.1) ((0 : Int), ([], ([], ((0 : Int), ()))))).2.2.1, ((List.getD v3 (Int.toNat x.1) ((0 : Int), ([], ([], ((0 : Int), ()))))).2.2.2.1, ()))))).bind fun t4 => bif (Nat.ble (((List.length x.2.2.2.2.1) + (List.length (List.set (List.replicate 1 ((0 : Int), ([], ([], ((0 : Int), ()))))) 0 (t4.1.1, (t4.1.2.1, (t4.1.2.2.1, (t4.1.2.2.2.1, ()))))))) * 64) 140737488355328) then (let v5 : Int := (IntKind.wrap IntKind.i64 (x.1 + (1 : Int)))
  kn (v5, (((x.2.1.1.1, (x.2.1.1.2.1, (x.2.1.1.2.2.1, (x.2.1.1.2.2.2.1, (x.2.1.1.2.2.2.2.1, (x.2.1.1.2.2.2.2.2.1, ())))))), (x.2.1.2.1, ())), (((x.2.2.1.1.1, (x.2.2.1.1.2.1, (x.2.2.1.1.2.2.1, (x.2.2.1.1.2.2.2.1, (x.2.2.1.1.2.2.2.2.1, (x.2.2.1.1.2.2.2.2.2.1, ())))))), ((), ())), (((x.2.2.2.1.1.1, (x.2.2.2.1.1.2.1, (x.2.2.2.1.1.2.2.1, (x.2.2.2.1.1.2.2.2.1, (x.2.2.2.1.1.2.2.2.2.1, (x.2.2.2.1.1.2.2.2.2.2.1, ())))))), ((), ())), ((x.2.2.2.2.1 ++ (List.set (List.replicate 1 ((0 : Int), ([], ([], ((0 : Int), ()))))) 0 (t4.1.1, (t4.1.2.1, (t4.1.2.2.1, (t4.1.2.2.2.1, ())))))), ())))))) else (none)) else (none)) else (ke (((x.2.2.1.1.1, (x.2.2.1.1.2.1, (x.2.2.1.1.2.2.1, (x.2.2.1.1.2.2.2.1, (x.2.2.1.1.2.2.2.2.1, (x.2.2.1.1.2.2.2.2.2.1, ())))))), ((), ())), (((x.2.2.2.1.1.1, (x.2.2.2.1.1.2.1, (x.2.2.2.1.1.2.2.1, (x.2.2.2.1.1.2.2.2.1, (x.2.2.2.1.1.2.2.2.2.1, (x.2.2.2.1.1.2.2.2.2.2.1, ())))))), ((), ())), (x.2.2.2.2.1, ()))))
def bedrocklaw11_ref.l0 (k : Nat) : Nat → bedrocklaw11_ref.l0.σ → Option bedrocklaw11_ref.l0.τ := loopJ (bedrocklaw11_ref.l0.r k)
def bedrocklaw11_ref.l0.T : StT := ⟨us 1 ++ .ptr 0 [] :: .ptr 1 [] :: .ptr 2 [] :: .dat (.int .i64) :: us 23, [.dat (.pair (.pair (.int .u32) (.pair (.arr 32 (.int .u8)) (.pair (.arr 32 (.int .u8)) (.pair (.int .u32) (.pair (.int .u32) (.pair (.int .u32) .unit)))))) (.pair (.sl (.pair (.int .u32) (.pair (.sl (.pair (.pair (.arr 32 (.int .u8)) (.pair (.int .u32) .unit)) (.pair .str (.pair (.int .u32) .unit)))) (.pair (.sl (.pair (.int .u64) (.pair .str .unit))) (.pair (.int .u32) .unit))))) .unit)), .pair (.dat (.pair (.int .u32) (.pair (.arr 32 (.int .u8)) (.pair (.arr 32 (.int .u8)) (.pair (.int .u32) (.pair (.int .u32) (.pair (.int .u32) .unit))))))) (.pair (.nils) (.dat .unit)), .pair (.dat (.pair (.int .u32) (.pair (.arr 32 (.int .u8)) (.pair (.arr 32 (.int .u8)) (.pair (.int .u32) (.pair (.int .u32) (.pair (.int .u32) .unit))))))) (.pair (.vsl 3) (.dat .unit)), .vec (.pair (.int .u32) (.pair (.sl (.pair (.arr 32 (.int .u8)) (.pair (.int .u32) (.pair .str (.pair (.int .u32) .unit))))) (.pair (.sl (.pair (.int .u64) (.pair .str .unit))) (.pair (.int .u32) .unit))))]⟩
def bedrocklaw11_ref.l0.os : List Out := [⟨(.exit 0), [.mask [2, 3], .auto 0], ⟨us 2 ++ .ptr 0 [] :: .ptr 1 [] :: us 24, [.pair (.dat (.pair (.int .u32) (.pair (.arr 32 (.int .u8)) (.pair (.arr 32 (.int .u8)) (.pair (.int .u32) (.pair (.int .u32) (.pair (.int .u32) .unit))))))) (.pair (.nils) (.dat .unit)), .pair (.dat (.pair (.int .u32) (.pair (.arr 32 (.int .u8)) (.pair (.arr 32 (.int .u8)) (.pair (.int .u32) (.pair (.int .u32) (.pair (.int .u32) .unit))))))) (.pair (.vsl 2) (.dat .unit)), .vec (.pair (.int .u32) (.pair (.sl (.pair (.arr 32 (.int .u8)) (.pair (.int .u32) (.pair .str (.pair (.int .u32) .unit))))) (.pair (.sl (.pair (.int .u64) (.pair .str .unit))) (.pair (.int .u32) .unit))))]⟩⟩]
def bedrocklaw11_ref.c (k : Nat) {ρ : Type} (b : ((Int × ((List Int) × ((List Int) × (Int × (Int × (Int × Unit)))))) × ((List (Int × ((List (((List Int) × (Int × Unit)) × (ByteArray × (Int × Unit)))) × ((List (Int × (ByteArray × Unit))) × (Int × Unit))))) × Unit))) (K : ((Int × ((List Int) × ((List Int) × (Int × (Int × (Int × Unit)))))) × ((List (Int × ((List ((List Int) × (Int × (ByteArray × (Int × Unit))))) × ((List (Int × (ByteArray × Unit))) × (Int × Unit))))) × Unit)) × Unit → Option ρ) : Option ρ :=
  (bedrocklaw11_head k (b.1.1, (b.1.2.1, (b.1.2.2.1, (b.1.2.2.2.1, (b.1.2.2.2.2.1, (b.1.2.2.2.2.2.1, ()))))))).bind fun t0 => (bedrocklaw11_ref.l0 k k ((0 : Int), (((b.1.1, (b.1.2.1, (b.1.2.2.1, (b.1.2.2.2.1, (b.1.2.2.2.2.1, (b.1.2.2.2.2.2.1, ())))))), (b.2.1, ())), ((((0 : Int), ((List.replicate 32 (0 : Int)), ((List.replicate 32 (0 : Int)), ((0 : Int), ((0 : Int), ((0 : Int), ())))))), ((), ())), (((t0.1.1, (t0.1.2.1, (t0.1.2.2.1, (t0.1.2.2.2.1, (t0.1.2.2.2.2.1, (t0.1.2.2.2.2.2.1, ())))))), ((), ())), ([], ())))))).bind fun t6 => K (((t6.2.1.1.1, (t6.2.1.1.2.1, (t6.2.1.1.2.2.1, (t6.2.1.1.2.2.2.1, (t6.2.1.1.2.2.2.2.1, (t6.2.1.1.2.2.2.2.2.1, ())))))), (t6.2.2.1, ())), ())
def bedrocklaw11_ref (k : Nat) (b : ((Int × ((List Int) × ((List Int) × (Int × (Int × (Int × Unit)))))) × ((List (Int × ((List (((List Int) × (Int × Unit)) × (ByteArray × (Int × Unit)))) × ((List (Int × (ByteArray × Unit))) × (Int × Unit))))) × Unit))) : Option (((Int × ((List Int) × ((List Int) × (Int × (Int × (Int × Unit)))))) × ((List (Int × ((List ((List Int) × (Int × (ByteArray × (Int × Unit))))) × ((List (Int × (ByteArray × Unit))) × (Int × Unit))))) × Unit)) × Unit) := bedrocklaw11_ref.c k b some
def bedrocklaw11_ref.tin : List Ty := [(.pair (.pair (.int .u32) (.pair (.arr 32 (.int .u8)) (.pair (.arr 32 (.int .u8)) (.pair (.int .u32) (.pair (.int .u32) (.pair (.int .u32) .unit)))))) (.pair (.sl (.pair (.int .u32) (.pair (.sl (.pair (.pair (.arr 32 (.int .u8)) (.pair (.int .u32) .unit)) (.pair .str (.pair (.int .u32) .unit)))) (.pair (.sl (.pair (.int .u64) (.pair .str .unit))) (.pair (.int .u32) .unit))))) .unit))]
def bedrocklaw11_ref.tout : List Ty := [(.pair (.pair (.int .u32) (.pair (.arr 32 (.int .u8)) (.pair (.arr 32 (.int .u8)) (.pair (.int .u32) (.pair (.int .u32) (.pair (.int .u32) .unit)))))) (.pair (.sl (.pair (.int .u32) (.pair (.sl (.pair (.arr 32 (.int .u8)) (.pair (.int .u32) (.pair .str (.pair (.int .u32) .unit))))) (.pair (.sl (.pair (.int .u64) (.pair .str .unit))) (.pair (.int .u32) .unit))))) .unit))]
def bedrocklaw11_ref.sem (k : Nat) : CallSem := callPure bedrocklaw11_ref.tin bedrocklaw11_ref.tout fun x => bedrocklaw11_ref k x.1
noncomputable def bedrocklaw11_ref.ctx (k : Nat) : Ctx := ⟨Try.prog, gam [(22, (bedrocklaw11_head.sem k)), (14, (bedrocklaw11_one.sem k))]⟩
theorem bedrocklaw11_ref.gok (k : Nat) : ∀ f, SemOK Try.prog f ((bedrocklaw11_ref.ctx k).Γ f) := (gam_cons (bedrocklaw11_head.sem_ok k) (gam_cons (bedrocklaw11_one.sem_ok k) gam_nil))
theorem bedrocklaw11_ref.l0.round (k : Nat) : RoundIs (bedrocklaw11_ref.ctx k) (codeAt (Func.code Try.f6) [1, 1, 0, 1, 0, 0]) (.nil) bedrocklaw11_ref.l0.T [.mask [1, 2, 3, 4], .auto 0] bedrocklaw11_ref.l0.os (bedrocklaw11_ref.l0.r k) := by
  intro ρ x kn ke; kernel_rfl
theorem bedrocklaw11_ref.l0.ok (k : Nat) : StOK 0 Try.prog (.loop (codeAt (Func.code Try.f6) [1, 1, 0, 1, 0, 0])) (pieceSem bedrocklaw11_ref.l0.T bedrocklaw11_ref.l0.os (bedrocklaw11_ref.l0 k k)) :=
  loop_ok (C := bedrocklaw11_ref.ctx k) (bedrocklaw11_ref.gok k) Try.mix AnnOK.nil (by kernel_rfl) (by kernel_rfl) (by kernel_rfl) (bedrocklaw11_ref.l0.round k) k
def bedrocklaw11_ref.ann (k : Nat) : Ann := .node [] none (.nil) (.node [] none (.nil) (.node [] none (.node [] none (.nil) (.node [] none (.node [.mask [1, 2, 3, 4], .auto 0, .own (.blk 2 [1]) (.pair (.int .u32) (.pair (.sl (.pair (.arr 32 (.int .u8)) (.pair (.int .u32) (.pair .str (.pair (.int .u32) .unit))))) (.pair (.sl (.pair (.int .u64) (.pair .str .unit))) (.pair (.int .u32) .unit))))] (some (pieceSem bedrocklaw11_ref.l0.T bedrocklaw11_ref.l0.os (bedrocklaw11_ref.l0 k k))) .nil .nil) (.nil))) (.nil)))
theorem bedrocklaw11_ref.body (k : Nat) : BodyIs (bedrocklaw11_ref.ctx k) Try.f6 (Func.code Try.f6) (bedrocklaw11_ref.ann k) bedrocklaw11_ref.tin bedrocklaw11_ref.tout (fun x K => bedrocklaw11_ref.c k x.1 K) := by
  intro ρ x K; kernel_rfl
theorem bedrocklaw11_ref.sem_ok (k : Nat) : SemOK Try.prog 6 (bedrocklaw11_ref.sem k) :=
  callPure_ok (C := bedrocklaw11_ref.ctx k) (bedrocklaw11_ref.gok k) Try.mix (c := Func.code Try.f6) (ann := bedrocklaw11_ref.ann k) (tin := bedrocklaw11_ref.tin) (tout := bedrocklaw11_ref.tout) (fun x K => bedrocklaw11_ref.c k x.1 K) Try.func6 (by kernel_rfl) (by kernel_rfl) (AnnOK.seq AnnOK.nil (AnnOK.seq AnnOK.nil (AnnOK.seq (AnnOK.seq AnnOK.nil (AnnOK.block (AnnOK.loop (by kernel_rfl) (bedrocklaw11_ref.l0.ok k)))) AnnOK.nil))) (bedrocklaw11_ref.body k)

/-! 7 bedrock/bedrockref11.Root -/
abbrev bedrockref11_Root.l0.σ : Type := (List (Int × ((List ((List Int) × (Int × (ByteArray × (Int × Unit))))) × ((List (Int × (ByteArray × Unit))) × (Int × Unit))))) × Int × (List Int) × (List (List Int)) × Unit
abbrev bedrockref11_Root.l0.τ : Type := ((List Int) × (List (List Int)) × Unit)
def bedrockref11_Root.l0.r (k : Nat) {ρ : Type} (x : bedrockref11_Root.l0.σ) (kn : bedrockref11_Root.l0.σ → Option ρ) (ke : bedrockref11_Root.l0.τ → Option ρ) : Option ρ :=
  let v0 : Int := (((List.length x.1) : Nat) : Int)
  bif (decide (x.2.1 < v0)) then (bif (decide (((0 : Int) ≤ x.2.1) ∧ (x.2.1 < (((List.length x.1) : Nat) : Int)))) then ((bedrockref10_ID k ((List.getD x.1 (Int.toNat x.2.1) ((0 : Int), ([], ([], ((0 : Int), ()))))).1, ((List.getD x.1 (Int.toNat x.2.1) ((0 : Int), ([], ([], ((0 : Int), ()))))).2.1, ((List.getD x.1 (Int.toNat x.2.1) ((0 : Int), ([], ([], ((0 : Int), ()))))).2.2.1, ((List.getD x.1 (Int.toNat x.2.1) ((0 : Int), ([], ([], ((0 : Int), ()))))).2.2.2.1, ()))))).bind fun t1 => let v2 : (List Int) := t1.1
  bif (!t1.2.1) then (let v3 : (List Int) := (List.replicate 32 (0 : Int))
  bif (Nat.ble (((List.length x.2.2.2.1) + (List.length (List.set (List.replicate 1 (List.replicate 32 (0 : Int))) 0 v3))) * 32) 140737488355328) then (let v4 : Int := (IntKind.wrap IntKind.i64 (x.2.1 + (1 : Int)))
  kn (x.1, (v4, (x.2.2.1, ((x.2.2.2.1 ++ (List.set (List.replicate 1 (List.replicate 32 (0 : Int))) 0 v3)), ()))))) else (none)) else (bif (Nat.ble (((List.length x.2.2.2.1) + (List.length (List.set (List.replicate 1 (List.replicate 32 (0 : Int))) 0 v2))) * 32) 140737488355328) then (let v5 : Int := (IntKind.wrap IntKind.i64 (x.2.1 + (1 : Int)))
  kn (x.1, (v5, (x.2.2.1, ((x.2.2.2.1 ++ (List.set (List.replicate 1 (List.replicate 32 (0 : Int))) 0 v2)), ()))))) else (none))) else (none)) else (ke (x.2.2.1, (x.2.2.2.1, ())))
def bedrockref11_Root.l0 (k : Nat) : Nat → bedrockref11_Root.l0.σ → Option bedrockref11_Root.l0.τ := loopJ (bedrockref11_Root.l0.r k)
def bedrockref11_Root.l0.T : StT := ⟨.dat (.sl (.pair (.int .u32) (.pair (.sl (.pair (.arr 32 (.int .u8)) (.pair (.int .u32) (.pair .str (.pair (.int .u32) .unit))))) (.pair (.sl (.pair (.int .u64) (.pair .str .unit))) (.pair (.int .u32) .unit))))) :: us 1 ++ .ptr 0 [] :: us 1 ++ .vsl 1 :: .dat (.int .i64) :: us 28, [.dat (.arr 32 (.int .u8)), .vec (.arr 32 (.int .u8))]⟩
def bedrockref11_Root.l0.os : List Out := [⟨(.exit 0), [.mask [2, 4], .auto 0], ⟨us 2 ++ .ptr 0 [] :: us 1 ++ .vsl 1 :: us 29, [.dat (.arr 32 (.int .u8)), .vec (.arr 32 (.int .u8))]⟩⟩]
def bedrockref11_Root.c (k : Nat) {ρ : Type} (txs : (List (Int × ((List ((List Int) × (Int × (ByteArray × (Int × Unit))))) × ((List (Int × (ByteArray × Unit))) × (Int × Unit)))))) (K : (List Int) × Bool × Unit → Option ρ) : Option ρ :=
  (bedrockref11_Root.l0 k k (txs, ((0 : Int), ((List.replicate 32 (0 : Int)), ((List.replicate 0 (List.replicate 32 (0 : Int))), ()))))).bind fun t6 => (bedrockref06_Root k t6.2.1).bind fun t7 => let v8 : (List Int) := t7.1
  K (v8, (t7.2.1, ()))
def bedrockref11_Root (k : Nat) (txs : (List (Int × ((List ((List Int) × (Int × (ByteArray × (Int × Unit))))) × ((List (Int × (ByteArray × Unit))) × (Int × Unit)))))) : Option ((List Int) × Bool × Unit) := bedrockref11_Root.c k txs some
def bedrockref11_Root.tin : List Ty := [(.sl (.pair (.int .u32) (.pair (.sl (.pair (.arr 32 (.int .u8)) (.pair (.int .u32) (.pair .str (.pair (.int .u32) .unit))))) (.pair (.sl (.pair (.int .u64) (.pair .str .unit))) (.pair (.int .u32) .unit)))))]
def bedrockref11_Root.tout : List Ty := [(.arr 32 (.int .u8)), .bool]
def bedrockref11_Root.sem (k : Nat) : CallSem := callPure bedrockref11_Root.tin bedrockref11_Root.tout fun x => bedrockref11_Root k x.1
noncomputable def bedrockref11_Root.ctx (k : Nat) : Ctx := ⟨Try.prog, gam [(23, (bedrockref10_ID.sem k)), (24, (bedrockref06_Root.sem k))]⟩
theorem bedrockref11_Root.gok (k : Nat) : ∀ f, SemOK Try.prog f ((bedrockref11_Root.ctx k).Γ f) := (gam_cons (bedrockref10_ID.sem_ok k) (gam_cons (bedrockref06_Root.sem_ok k) gam_nil))
theorem bedrockref11_Root.l0.round (k : Nat) : RoundIs (bedrockref11_Root.ctx k) (codeAt (Func.code Try.f7) [1, 1, 0, 1, 0, 0]) (.nil) bedrockref11_Root.l0.T [.mask [0, 2, 4, 5], .auto 0] bedrockref11_Root.l0.os (bedrockref11_Root.l0.r k) := by
  intro ρ x kn ke; kernel_rfl
theorem bedrockref11_Root.l0.ok (k : Nat) : StOK 0 Try.prog (.loop (codeAt (Func.code Try.f7) [1, 1, 0, 1, 0, 0])) (pieceSem bedrockref11_Root.l0.T bedrockref11_Root.l0.os (bedrockref11_Root.l0 k k)) :=
  loop_ok (C := bedrockref11_Root.ctx k) (bedrockref11_Root.gok k) Try.mix AnnOK.nil (by kernel_rfl) (by kernel_rfl) (by kernel_rfl) (bedrockref11_Root.l0.round k) k
def bedrockref11_Root.ann (k : Nat) : Ann := .node [] none (.nil) (.node [] none (.nil) (.node [] none (.node [] none (.nil) (.node [] none (.node [.mask [0, 2, 4, 5], .auto 0] (some (pieceSem bedrockref11_Root.l0.T bedrockref11_Root.l0.os (bedrockref11_Root.l0 k k))) .nil .nil) (.nil))) (.nil)))
theorem bedrockref11_Root.body (k : Nat) : BodyIs (bedrockref11_Root.ctx k) Try.f7 (Func.code Try.f7) (bedrockref11_Root.ann k) bedrockref11_Root.tin bedrockref11_Root.tout (fun x K => bedrockref11_Root.c k x.1 K) := by
  intro ρ x K; kernel_rfl
theorem bedrockref11_Root.sem_ok (k : Nat) : SemOK Try.prog 7 (bedrockref11_Root.sem k) :=
  callPure_ok (C := bedrockref11_Root.ctx k) (bedrockref11_Root.gok k) Try.mix (c := Func.code Try.f7) (ann := bedrockref11_Root.ann k) (tin := bedrockref11_Root.tin) (tout := bedrockref11_Root.tout) (fun x K => bedrockref11_Root.c k x.1 K) Try.func7 (by kernel_rfl) (by kernel_rfl) (AnnOK.seq AnnOK.nil (AnnOK.seq AnnOK.nil (AnnOK.seq (AnnOK.seq AnnOK.nil (AnnOK.block (AnnOK.loop (by kernel_rfl) (bedrockref11_Root.l0.ok k)))) AnnOK.nil))) (bedrockref11_Root.body k)

/-! 10 bedrock/bedrockref11.Whole -/
def bedrockref11_Whole.c (k : Nat) {ρ : Type} (b : ((Int × ((List Int) × ((List Int) × (Int × (Int × (Int × Unit)))))) × ((List (Int × ((List ((List Int) × (Int × (ByteArray × (Int × Unit))))) × ((List (Int × (ByteArray × Unit))) × (Int × Unit))))) × Unit))) (K : Bool × Unit → Option ρ) : Option ρ :=
  let v0 : (List (Int × ((List ((List Int) × (Int × (ByteArray × (Int × Unit))))) × ((List (Int × (ByteArray × Unit))) × (Int × Unit))))) := b.2.1
  (bedrockref11_Root k v0).bind fun t1 => let v2 : (List Int) := t1.1
  let v3 : (List (Int × ((List ((List Int) × (Int × (ByteArray × (Int × Unit))))) × ((List (Int × (ByteArray × Unit))) × (Int × Unit))))) := b.2.1
  let v4 : Int := (((List.length v3) : Nat) : Int)
  bif (decide (v4 > (0 : Int))) then (let v5 : (List Int) := b.1.2.2.1
  bif (decide (v2 = v5)) then (K ((!t1.2.1), ())) else (K (false, ()))) else (K (false, ()))
def bedrockref11_Whole (k : Nat) (b : ((Int × ((List Int) × ((List Int) × (Int × (Int × (Int × Unit)))))) × ((List (Int × ((List ((List Int) × (Int × (ByteArray × (Int × Unit))))) × ((List (Int × (ByteArray × Unit))) × (Int × Unit))))) × Unit))) : Option (Bool × Unit) := bedrockref11_Whole.c k b some
def bedrockref11_Whole.tin : List Ty := [(.pair (.pair (.int .u32) (.pair (.arr 32 (.int .u8)) (.pair (.arr 32 (.int .u8)) (.pair (.int .u32) (.pair (.int .u32) (.pair (.int .u32) .unit)))))) (.pair (.sl (.pair (.int .u32) (.pair (.sl (.pair (.arr 32 (.int .u8)) (.pair (.int .u32) (.pair .str (.pair (.int .u32) .unit))))) (.pair (.sl (.pair (.int .u64) (.pair .str .unit))) (.pair (.int .u32) .unit))))) .unit))]
def bedrockref11_Whole.tout : List Ty := [.bool]
def bedrockref11_Whole.sem (k : Nat) : CallSem := callPure bedrockref11_Whole.tin bedrockref11_Whole.tout fun x => bedrockref11_Whole k x.1
noncomputable def bedrockref11_Whole.ctx (k : Nat) : Ctx := ⟨Try.prog, gam [(7, (bedrockref11_Root.sem k))]⟩
theorem bedrockref11_Whole.gok (k : Nat) : ∀ f, SemOK Try.prog f ((bedrockref11_Whole.ctx k).Γ f) := (gam_cons (bedrockref11_Root.sem_ok k) gam_nil)
def bedrockref11_Whole.ann (k : Nat) : Ann := .nil
theorem bedrockref11_Whole.body (k : Nat) : BodyIs (bedrockref11_Whole.ctx k) Try.f10 (Func.code Try.f10) (bedrockref11_Whole.ann k) bedrockref11_Whole.tin bedrockref11_Whole.tout (fun x K => bedrockref11_Whole.c k x.1 K) := by
  intro ρ x K; kernel_rfl
theorem bedrockref11_Whole.sem_ok (k : Nat) : SemOK Try.prog 10 (bedrockref11_Whole.sem k) :=
  callPure_ok (C := bedrockref11_Whole.ctx k) (bedrockref11_Whole.gok k) Try.mix (c := Func.code Try.f10) (ann := bedrockref11_Whole.ann k) (tin := bedrockref11_Whole.tin) (tout := bedrockref11_Whole.tout) (fun x K => bedrockref11_Whole.c k x.1 K) Try.func10 (by kernel_rfl) (by kernel_rfl) AnnOK.nil (bedrockref11_Whole.body k)

/-! 3 bedrock/bedrocklaw11.BlockRoots -/
abbrev bedrocklaw11_BlockRoots.p0.σ : Type := Bool × Bool × Bool × ((Int × ((List Int) × ((List Int) × (Int × (Int × (Int × Unit)))))) × ((List (Int × ((List (((List Int) × (Int × Unit)) × (ByteArray × (Int × Unit)))) × ((List (Int × (ByteArray × Unit))) × (Int × Unit))))) × Unit)) × (List Int) × ((Int × ((List Int) × ((List Int) × (Int × (Int × (Int × Unit)))))) × ((List (Int × ((List ((List Int) × (Int × (ByteArray × (Int × Unit))))) × ((List (Int × (ByteArray × Unit))) × (Int × Unit))))) × Unit)) × (List Int) × Unit
abbrev bedrocklaw11_BlockRoots.p0.τ : Type := (Bool × Bool × ((Int × ((List Int) × ((List Int) × (Int × (Int × (Int × Unit)))))) × ((List (Int × ((List (((List Int) × (Int × Unit)) × (ByteArray × (Int × Unit)))) × ((List (Int × (ByteArray × Unit))) × (Int × Unit))))) × Unit)) × (List Int) × ((Int × ((List Int) × ((List Int) × (Int × (Int × (Int × Unit)))))) × ((List (Int × ((List ((List Int) × (Int × (ByteArray × (Int × Unit))))) × ((List (Int × (ByteArray × Unit))) × (Int × Unit))))) × Unit)) × (List Int) × Unit)
def bedrocklaw11_BlockRoots.p0.r (k : Nat) {ρ : Type} (x : bedrocklaw11_BlockRoots.p0.σ) (K : bedrocklaw11_BlockRoots.p0.τ → Option ρ) : Option ρ :=
  bif x.1 then (let v7 : (List Int) := x.2.2.2.2.2.2.1
  let v8 : (List Int) := x.2.2.2.2.2.2.1
  K (x.2.1, (x.2.2.1, (((x.2.2.2.1.1.1, (x.2.2.2.1.1.2.1, (v7, (x.2.2.2.1.1.2.2.2.1, (x.2.2.2.1.1.2.2.2.2.1, (x.2.2.2.1.1.2.2.2.2.2.1, ())))))), (x.2.2.2.1.2.1, ())), (x.2.2.2.2.1, (((x.2.2.2.2.2.1.1.1, (x.2.2.2.2.2.1.1.2.1, (v8, (x.2.2.2.2.2.1.1.2.2.2.1, (x.2.2.2.2.2.1.1.2.2.2.2.1, (x.2.2.2.2.2.1.1.2.2.2.2.2.1, ())))))), (x.2.2.2.2.2.1.2.1, ())), (x.2.2.2.2.2.2.1, ()))))))) else (K (x.2.1, (x.2.2.1, (((x.2.2.2.1.1.1, (x.2.2.2.1.1.2.1, (x.2.2.2.1.1.2.2.1, (x.2.2.2.1.1.2.2.2.1, (x.2.2.2.1.1.2.2.2.2.1, (x.2.2.2.1.1.2.2.2.2.2.1, ())))))), (x.2.2.2.1.2.1, ())), (x.2.2.2.2.1, (((x.2.2.2.2.2.1.1.1, (x.2.2.2.2.2.1.1.2.1, (x.2.2.2.2.2.1.1.2.2.1, (x.2.2.2.2.2.1.1.2.2.2.1, (x.2.2.2.2.2.1.1.2.2.2.2.1, (x.2.2.2.2.2.1.1.2.2.2.2.2.1, ())))))), (x.2.2.2.2.2.1.2.1, ())), (x.2.2.2.2.2.2.1, ())))))))
def bedrocklaw11_BlockRoots.p0 (k : Nat) (x : bedrocklaw11_BlockRoots.p0.σ) : Option bedrocklaw11_BlockRoots.p0.τ := bedrocklaw11_BlockRoots.p0.r k x some
def bedrocklaw11_BlockRoots.p0.T : StT := ⟨us 1 ++ .dat .bool :: .ptr 0 [] :: us 2 ++ .ptr 1 [] :: .dat .bool :: .ptr 2 [] :: .ptr 3 [] :: .dat .bool :: us 39, [.dat (.pair (.pair (.int .u32) (.pair (.arr 32 (.int .u8)) (.pair (.arr 32 (.int .u8)) (.pair (.int .u32) (.pair (.int .u32) (.pair (.int .u32) .unit)))))) (.pair (.sl (.pair (.int .u32) (.pair (.sl (.pair (.pair (.arr 32 (.int .u8)) (.pair (.int .u32) .unit)) (.pair .str (.pair (.int .u32) .unit)))) (.pair (.sl (.pair (.int .u64) (.pair .str .unit))) (.pair (.int .u32) .unit))))) .unit)), .dat (.arr 32 (.int .u8)), .dat (.pair (.pair (.int .u32) (.pair (.arr 32 (.int .u8)) (.pair (.arr 32 (.int .u8)) (.pair (.int .u32) (.pair (.int .u32) (.pair (.int .u32) .unit)))))) (.pair (.sl (.pair (.int .u32) (.pair (.sl (.pair (.arr 32 (.int .u8)) (.pair (.int .u32) (.pair .str (.pair (.int .u32) .unit))))) (.pair (.sl (.pair (.int .u64) (.pair .str .unit))) (.pair (.int .u32) .unit))))) .unit)), .dat (.arr 32 (.int .u8))]⟩
def bedrocklaw11_BlockRoots.p0.os : List Out := [⟨.normal, [.mask [2, 5, 6, 7, 8, 9], .auto 0], ⟨us 2 ++ .ptr 0 [] :: us 2 ++ .ptr 1 [] :: .dat .bool :: .ptr 2 [] :: .ptr 3 [] :: .dat .bool :: us 39, [.dat (.pair (.pair (.int .u32) (.pair (.arr 32 (.int .u8)) (.pair (.arr 32 (.int .u8)) (.pair (.int .u32) (.pair (.int .u32) (.pair (.int .u32) .unit)))))) (.pair (.sl (.pair (.int .u32) (.pair (.sl (.pair (.pair (.arr 32 (.int .u8)) (.pair (.int .u32) .unit)) (.pair .str (.pair (.int .u32) .unit)))) (.pair (.sl (.pair (.int .u64) (.pair .str .unit))) (.pair (.int .u32) .unit))))) .unit)), .dat (.arr 32 (.int .u8)), .dat (.pair (.pair (.int .u32) (.pair (.arr 32 (.int .u8)) (.pair (.arr 32 (.int .u8)) (.pair (.int .u32) (.pair (.int .u32) (.pair (.int .u32) .unit)))))) (.pair (.sl (.pair (.int .u32) (.pair (.sl (.pair (.arr 32 (.int .u8)) (.pair (.int .u32) (.pair .str (.pair (.int .u32) .unit))))) (.pair (.sl (.pair (.int .u64) (.pair .str .unit))) (.pair (.int .u32) .unit))))) .unit)), .dat (.arr 32 (.int .u8))]⟩⟩]
def bedrocklaw11_BlockRoots.c (k : Nat) {ρ : Type} (b : ((Int × ((List Int) × ((List Int) × (Int × (Int × (Int × Unit)))))) × ((List (Int × ((List (((List Int) × (Int × Unit)) × (ByteArray × (Int × Unit)))) × ((List (Int × (ByteArray × Unit))) × (Int × Unit))))) × Unit))) (fix : Bool) (K : Bool × Unit → Option ρ) : Option ρ :=
  let v0 : (List (Int × ((List (((List Int) × (Int × Unit)) × (ByteArray × (Int × Unit)))) × ((List (Int × (ByteArray × Unit))) × (Int × Unit))))) := b.2.1
  (block_Root k v0).bind fun t1 => let v2 : (List Int) := t1.1
  (bedrocklaw11_ref k ((b.1.1, (b.1.2.1, (b.1.2.2.1, (b.1.2.2.2.1, (b.1.2.2.2.2.1, (b.1.2.2.2.2.2.1, ())))))), (b.2.1, ()))).bind fun t3 => let v4 : (List (Int × ((List ((List Int) × (Int × (ByteArray × (Int × Unit))))) × ((List (Int × (ByteArray × Unit))) × (Int × Unit))))) := t3.1.2.1
  (bedrockref11_Root k v4).bind fun t5 => let v6 : (List Int) := t5.1
  (bedrocklaw11_BlockRoots.p0 k (fix, (t1.2.1, (t5.2.1, (((b.1.1, (b.1.2.1, (b.1.2.2.1, (b.1.2.2.2.1, (b.1.2.2.2.2.1, (b.1.2.2.2.2.2.1, ())))))), (b.2.1, ())), (v2, (((t3.1.1.1, (t3.1.1.2.1, (t3.1.1.2.2.1, (t3.1.1.2.2.2.1, (t3.1.1.2.2.2.2.1, (t3.1.1.2.2.2.2.2.1, ())))))), (t3.1.2.1, ())), (v6, ())))))))).bind fun t9 => (bedrocklaw11_awake k ).bind fun t10 => bif t10.1 then (let v11 : (List Int) := t9.2.2.2.1
  let v12 : (List Int) := t9.2.2.2.2.2.1
  bif (decide (v11 = v12)) then (bif (t9.1 == t9.2.1) then ((block_Whole k ((t9.2.2.1.1.1, (t9.2.2.1.1.2.1, (t9.2.2.1.1.2.2.1, (t9.2.2.1.1.2.2.2.1, (t9.2.2.1.1.2.2.2.2.1, (t9.2.2.1.1.2.2.2.2.2.1, ())))))), (t9.2.2.1.2.1, ()))).bind fun t13 => (bedrockref11_Whole k ((t9.2.2.2.2.1.1.1, (t9.2.2.2.2.1.1.2.1, (t9.2.2.2.2.1.1.2.2.1, (t9.2.2.2.2.1.1.2.2.2.1, (t9.2.2.2.2.1.1.2.2.2.2.1, (t9.2.2.2.2.1.1.2.2.2.2.2.1, ())))))), (t9.2.2.2.2.1.2.1, ()))).bind fun t14 => K ((t13.1 == t14.1), ())) else (K (false, ()))) else (K (false, ()))) else (K (false, ()))
def bedrocklaw11_BlockRoots (k : Nat) (b : ((Int × ((List Int) × ((List Int) × (Int × (Int × (Int × Unit)))))) × ((List (Int × ((List (((List Int) × (Int × Unit)) × (ByteArray × (Int × Unit)))) × ((List (Int × (ByteArray × Unit))) × (Int × Unit))))) × Unit))) (fix : Bool) : Option (Bool × Unit) := bedrocklaw11_BlockRoots.c k b fix some
def bedrocklaw11_BlockRoots.tin : List Ty := [(.pair (.pair (.int .u32) (.pair (.arr 32 (.int .u8)) (.pair (.arr 32 (.int .u8)) (.pair (.int .u32) (.pair (.int .u32) (.pair (.int .u32) .unit)))))) (.pair (.sl (.pair (.int .u32) (.pair (.sl (.pair (.pair (.arr 32 (.int .u8)) (.pair (.int .u32) .unit)) (.pair .str (.pair (.int .u32) .unit)))) (.pair (.sl (.pair (.int .u64) (.pair .str .unit))) (.pair (.int .u32) .unit))))) .unit)), .bool]
def bedrocklaw11_BlockRoots.tout : List Ty := [.bool]
def bedrocklaw11_BlockRoots.sem (k : Nat) : CallSem := callPure bedrocklaw11_BlockRoots.tin bedrocklaw11_BlockRoots.tout fun x => bedrocklaw11_BlockRoots k x.1 x.2.1
noncomputable def bedrocklaw11_BlockRoots.ctx (k : Nat) : Ctx := ⟨Try.prog, gam [(5, (block_Root.sem k)), (6, (bedrocklaw11_ref.sem k)), (7, (bedrockref11_Root.sem k)), (8, (bedrocklaw11_awake.sem k)), (9, (block_Whole.sem k)), (10, (bedrockref11_Whole.sem k))]⟩
theorem bedrocklaw11_BlockRoots.gok (k : Nat) : ∀ f, SemOK Try.prog f ((bedrocklaw11_BlockRoots.ctx k).Γ f) := (gam_cons (block_Root.sem_ok k) (gam_cons (bedrocklaw11_ref.sem_ok k) (gam_cons (bedrockref11_Root.sem_ok k) (gam_cons (bedrocklaw11_awake.sem_ok k) (gam_cons (block_Whole.sem_ok k) (gam_cons (bedrockref11_Whole.sem_ok k) gam_nil))))))
theorem bedrocklaw11_BlockRoots.p0.is (k : Nat) : PieceIs (bedrocklaw11_BlockRoots.ctx k) (codeAt (Func.code Try.f3) [1, 1, 1, 1, 0]) (.nil) bedrocklaw11_BlockRoots.p0.T bedrocklaw11_BlockRoots.p0.os (bedrocklaw11_BlockRoots.p0.r k) := by
  intro ρ x K; kernel_rfl
theorem bedrocklaw11_BlockRoots.p0.ok (k : Nat) : StOK 0 Try.prog (codeAt (Func.code Try.f3) [1, 1, 1, 1, 0]) (pieceSem bedrocklaw11_BlockRoots.p0.T bedrocklaw11_BlockRoots.p0.os (bedrocklaw11_BlockRoots.p0 k)) :=
  piece_ok (C := bedrocklaw11_BlockRoots.ctx k) (T := bedrocklaw11_BlockRoots.p0.T) (os := bedrocklaw11_BlockRoots.p0.os) (bedrocklaw11_BlockRoots.gok k) Try.mix (fun x K => bedrocklaw11_BlockRoots.p0.r k x K) AnnOK.nil (by kernel_rfl) (by kernel_rfl) (bedrocklaw11_BlockRoots.p0.is k)
def bedrocklaw11_BlockRoots.ann (k : Nat) : Ann := .node [] none (.nil) (.node [] none (.nil) (.node [] none (.nil) (.node [] none (.nil) (.node [] none (.node [.mask [1, 2, 5, 6, 7, 8, 9], .auto 0] (some (pieceSem bedrocklaw11_BlockRoots.p0.T bedrocklaw11_BlockRoots.p0.os (bedrocklaw11_BlockRoots.p0 k))) .nil .nil) (.nil)))))
theorem bedrocklaw11_BlockRoots.body (k : Nat) : BodyIs (bedrocklaw11_BlockRoots.ctx k) Try.f3 (Func.code Try.f3) (bedrocklaw11_BlockRoots.ann k) bedrocklaw11_BlockRoots.tin bedrocklaw11_BlockRoots.tout (fun x K => bedrocklaw11_BlockRoots.c k x.1 x.2.1 K) := by
  intro ρ x K; kernel_rfl
theorem bedrocklaw11_BlockRoots.sem_ok (k : Nat) : SemOK Try.prog 3 (bedrocklaw11_BlockRoots.sem k) :=
  callPure_ok (C := bedrocklaw11_BlockRoots.ctx k) (bedrocklaw11_BlockRoots.gok k) Try.mix (c := Func.code Try.f3) (ann := bedrocklaw11_BlockRoots.ann k) (tin := bedrocklaw11_BlockRoots.tin) (tout := bedrocklaw11_BlockRoots.tout) (fun x K => bedrocklaw11_BlockRoots.c k x.1 x.2.1 K) Try.func3 (by kernel_rfl) (by kernel_rfl) (AnnOK.seq AnnOK.nil (AnnOK.seq AnnOK.nil (AnnOK.seq AnnOK.nil (AnnOK.seq AnnOK.nil (AnnOK.seq (AnnOK.loop (by kernel_rfl) (bedrocklaw11_BlockRoots.p0.ok k)) AnnOK.nil))))) (bedrocklaw11_BlockRoots.body k)

end Go.Am
