/- A part of a proof: a machine of abstract values that tells what functions of the program compute, and the plain facts on them. -/
import Derived.Test.YtpcjmcpghhmidaaAm7
import Derived.KernelRfl
set_option linter.unusedVariables false
set_option linter.unusedSimpArgs false
set_option linter.unnecessarySimpa false
set_option linter.unusedSectionVars false
namespace Go.Am
open Go Go.Proofs
set_option maxRecDepth 100000
/-! 76 bedrock/num.NewWriter · with blocks -/
abbrev num_NewWriter.τ : Type := (((Unit × (Unit × Unit)) × Unit) × (List Int) × Unit)
def num_NewWriter.c (k : Nat) {ρ : Type}  (K : num_NewWriter.τ → Option ρ) : Option ρ :=
  K ((((), ((), ())), ()), ([], ()))
def num_NewWriter (k : Nat)  : Option num_NewWriter.τ := num_NewWriter.c k  some
def num_NewWriter.T : CallT := ⟨[], [], 0⟩
def num_NewWriter.os : List Out := [⟨.ret, [.auto 0], ⟨[.ptr 0 []], [.pair (.pair (.sfp 0 [0] 180) (.pair (.vbs 1) (.dat .unit))) (.dat .unit), .vec (.int .u8)]⟩⟩]
def num_NewWriter.sem (k : Nat) : CallSem := callH num_NewWriter.T num_NewWriter.os fun x => num_NewWriter k 
noncomputable def num_NewWriter.ctx (k : Nat) : Ctx := ⟨Try.prog, gam []⟩
theorem num_NewWriter.gok (k : Nat) : ∀ f, SemOK Try.prog f ((num_NewWriter.ctx k).Γ f) := gam_nil
def num_NewWriter.ann (k : Nat) : Ann := .nil
theorem num_NewWriter.body (k : Nat) : BodyH (num_NewWriter.ctx k) Try.f76 (Func.code Try.f76) (num_NewWriter.ann k) num_NewWriter.T num_NewWriter.os (fun x K => num_NewWriter.c k  K) := by
  intro ρ x K; kernel_rfl
theorem num_NewWriter.sem_ok (k : Nat) : SemOK Try.prog 76 (num_NewWriter.sem k) :=
  callH_ok (C := num_NewWriter.ctx k) (num_NewWriter.gok k) Try.mix (c := Func.code Try.f76) (ann := num_NewWriter.ann k) (T := num_NewWriter.T) (os := num_NewWriter.os) (fun x K => num_NewWriter.c k  K) Try.func76 (by kernel_rfl) (by kernel_rfl) AnnOK.nil (num_NewWriter.body k) (by kernel_rfl) (by kernel_rfl) (by kernel_rfl)

/-! 106 (*strings.Builder).WriteString · with blocks -/
abbrev strings_Builder_WriteString.τ : Type := (Int × ((Unit × (Unit × Unit)) × Unit) × (List Int) × Unit)
def strings_Builder_WriteString.c (k : Nat) {ρ : Type} (s : ByteArray) (b0 : ((Unit × (Unit × Unit)) × Unit)) (b1 : (List Int)) (K : strings_Builder_WriteString.τ → Option ρ) : Option ρ :=
  bif (Nat.ble (((List.length b1) + (List.length (ofBytes s))) * 1) 140737488355328) then (K ((((ByteArray.size s) : Nat) : Int), ((((), ((), ())), ()), ((b1 ++ (ofBytes s)), ())))) else (none)
def strings_Builder_WriteString (k : Nat) (s : ByteArray) (b0 : ((Unit × (Unit × Unit)) × Unit)) (b1 : (List Int)) : Option strings_Builder_WriteString.τ := strings_Builder_WriteString.c k s b0 b1 some
def strings_Builder_WriteString.T : CallT := ⟨[.ptr 0 [0], .dat .str], [.pair (.pair (.sfp 0 [0] 180) (.pair (.vbs 1) (.dat .unit))) (.dat .unit), .vec (.int .u8)], 1⟩
def strings_Builder_WriteString.os : List Out := [⟨.ret, [.freeze (.slot 0), .auto 1], ⟨[.dat (.int .i64), .undef], [.pair (.pair (.sfp 0 [0] 180) (.pair (.vbs 1) (.dat .unit))) (.dat .unit), .vec (.int .u8)]⟩⟩]
def strings_Builder_WriteString.sem (k : Nat) : CallSem := callH strings_Builder_WriteString.T strings_Builder_WriteString.os fun x => strings_Builder_WriteString k x.1 x.2.1 x.2.2.1
noncomputable def strings_Builder_WriteString.ctx (k : Nat) : Ctx := ⟨Try.prog, gam [(124, (ccSem 180 2))]⟩
theorem strings_Builder_WriteString.gok (k : Nat) : ∀ f, SemOK Try.prog f ((strings_Builder_WriteString.ctx k).Γ f) := (gam_cons Bld.copyCheck gam_nil)
def strings_Builder_WriteString.ann (k : Nat) : Ann := .nil
theorem strings_Builder_WriteString.body (k : Nat) : BodyH (strings_Builder_WriteString.ctx k) Try.f106 (Func.code Try.f106) (strings_Builder_WriteString.ann k) strings_Builder_WriteString.T strings_Builder_WriteString.os (fun x K => strings_Builder_WriteString.c k x.1 x.2.1 x.2.2.1 K) := by
  intro ρ x K; kernel_rfl
theorem strings_Builder_WriteString.sem_ok (k : Nat) : SemOK Try.prog 106 (strings_Builder_WriteString.sem k) :=
  callH_ok (C := strings_Builder_WriteString.ctx k) (strings_Builder_WriteString.gok k) Try.mix (c := Func.code Try.f106) (ann := strings_Builder_WriteString.ann k) (T := strings_Builder_WriteString.T) (os := strings_Builder_WriteString.os) (fun x K => strings_Builder_WriteString.c k x.1 x.2.1 x.2.2.1 K) Try.func106 (by kernel_rfl) (by kernel_rfl) AnnOK.nil (strings_Builder_WriteString.body k) (by kernel_rfl) (by kernel_rfl) (by kernel_rfl)

/-! 95 (*bedrock/num.Writer).Bytes · with blocks -/
abbrev num_Writer_Bytes.τ : Type := (((Unit × (Unit × Unit)) × Unit) × (List Int) × Unit)
def num_Writer_Bytes.c (k : Nat) {ρ : Type} (s : ByteArray) (b0 : ((Unit × (Unit × Unit)) × Unit)) (b1 : (List Int)) (K : num_Writer_Bytes.τ → Option ρ) : Option ρ :=
  (strings_Builder_WriteString k s (((), ((), ())), ()) b1).bind fun t0 => K ((((), ((), ())), ()), (t0.2.2.1, ()))
def num_Writer_Bytes (k : Nat) (s : ByteArray) (b0 : ((Unit × (Unit × Unit)) × Unit)) (b1 : (List Int)) : Option num_Writer_Bytes.τ := num_Writer_Bytes.c k s b0 b1 some
def num_Writer_Bytes.T : CallT := ⟨[.ptr 0 [], .dat .str], [.pair (.pair (.sfp 0 [0] 180) (.pair (.vbs 1) (.dat .unit))) (.dat .unit), .vec (.int .u8)], 1⟩
def num_Writer_Bytes.os : List Out := [⟨.ret, [.auto 1], ⟨[], [.pair (.pair (.sfp 0 [0] 180) (.pair (.vbs 1) (.dat .unit))) (.dat .unit), .vec (.int .u8)]⟩⟩]
def num_Writer_Bytes.sem (k : Nat) : CallSem := callH num_Writer_Bytes.T num_Writer_Bytes.os fun x => num_Writer_Bytes k x.1 x.2.1 x.2.2.1
noncomputable def num_Writer_Bytes.ctx (k : Nat) : Ctx := ⟨Try.prog, gam [(106, (strings_Builder_WriteString.sem k))]⟩
theorem num_Writer_Bytes.gok (k : Nat) : ∀ f, SemOK Try.prog f ((num_Writer_Bytes.ctx k).Γ f) := (gam_cons (strings_Builder_WriteString.sem_ok k) gam_nil)
def num_Writer_Bytes.ann (k : Nat) : Ann := .nil
theorem num_Writer_Bytes.body (k : Nat) : BodyH (num_Writer_Bytes.ctx k) Try.f95 (Func.code Try.f95) (num_Writer_Bytes.ann k) num_Writer_Bytes.T num_Writer_Bytes.os (fun x K => num_Writer_Bytes.c k x.1 x.2.1 x.2.2.1 K) := by
  intro ρ x K; kernel_rfl
theorem num_Writer_Bytes.sem_ok (k : Nat) : SemOK Try.prog 95 (num_Writer_Bytes.sem k) :=
  callH_ok (C := num_Writer_Bytes.ctx k) (num_Writer_Bytes.gok k) Try.mix (c := Func.code Try.f95) (ann := num_Writer_Bytes.ann k) (T := num_Writer_Bytes.T) (os := num_Writer_Bytes.os) (fun x K => num_Writer_Bytes.c k x.1 x.2.1 x.2.2.1 K) Try.func95 (by kernel_rfl) (by kernel_rfl) AnnOK.nil (num_Writer_Bytes.body k) (by kernel_rfl) (by kernel_rfl) (by kernel_rfl)

/-! 109 bedrock/num.lay -/
abbrev num_lay.l0.σ : Type := Int × Int × Int × (List Int) × Unit
abbrev num_lay.l0.τ : Type := ((List Int) × Unit)
def num_lay.l0.r (k : Nat) {ρ : Type} (x : num_lay.l0.σ) (kn : num_lay.l0.σ → Option ρ) (ke : num_lay.l0.τ → Option ρ) : Option ρ :=
  bif (decide (x.2.2.1 < x.2.1)) then (let v1 : Int := (IntKind.wrap IntKind.i64 ((8 : Int) * x.2.2.1))
  bif (decide ((0 : Int) ≤ v1)) then (let v2 : Int := (shrOp IntKind.u64 x.1 v1)
  bif (decide (((0 : Int) ≤ x.2.2.1) ∧ (x.2.2.1 < (((List.length x.2.2.2.1) : Nat) : Int)))) then (let v3 : Int := (IntKind.wrap IntKind.i64 (x.2.2.1 + (1 : Int)))
  kn (x.1, (x.2.1, (v3, ((List.set x.2.2.2.1 (Int.toNat x.2.2.1) (IntKind.wrap IntKind.u8 v2)), ()))))) else (none)) else (none)) else (ke (x.2.2.2.1, ()))
def num_lay.l0 (k : Nat) : Nat → num_lay.l0.σ → Option num_lay.l0.τ := loopJ (num_lay.l0.r k)
def num_lay.l0.T : StT := ⟨.dat (.int .u64) :: us 4 ++ .vsl 0 :: us 4 ++ .dat (.int .i64) :: .dat (.int .i64) :: us 13, [.vec (.int .u8)]⟩
def num_lay.l0.os : List Out := [⟨(.exit 0), [.mask [5], .auto 0], ⟨us 5 ++ .vsl 0 :: us 19, [.vec (.int .u8)]⟩⟩]
def num_lay.c (k : Nat) {ρ : Type} (n : Int) (bytes : Int) (K : ByteArray × Unit → Option ρ) : Option ρ :=
  bif ((decide (((0 : Int) ≤ bytes) ∧ (bytes ≤ bytes))) && (Nat.ble ((Int.toNat bytes) * 1) 140737488355328)) then (let v0 : Int := (((List.length (List.replicate (Int.toNat bytes) (0 : Int))) : Nat) : Int)
  (num_lay.l0 k k (n, (v0, ((0 : Int), ((List.replicate (Int.toNat bytes) (0 : Int)), ()))))).bind fun t4 => K ((bytesOf t4.1), ())) else (none)
def num_lay (k : Nat) (n : Int) (bytes : Int) : Option (ByteArray × Unit) := num_lay.c k n bytes some
def num_lay.tin : List Ty := [(.int .u64), (.int .i64)]
def num_lay.tout : List Ty := [.str]
def num_lay.sem (k : Nat) : CallSem := callPure num_lay.tin num_lay.tout fun x => num_lay k x.1 x.2.1
noncomputable def num_lay.ctx (k : Nat) : Ctx := ⟨Try.prog, gam []⟩
theorem num_lay.gok (k : Nat) : ∀ f, SemOK Try.prog f ((num_lay.ctx k).Γ f) := gam_nil
theorem num_lay.l0.round (k : Nat) : RoundIs (num_lay.ctx k) (codeAt (Func.code Try.f109) [1, 1, 0, 1, 0, 0]) (.nil) num_lay.l0.T [.mask [0, 5, 10, 11], .auto 0] num_lay.l0.os (num_lay.l0.r k) := by
  intro ρ x kn ke; kernel_rfl
theorem num_lay.l0.ok (k : Nat) : StOK 0 Try.prog (.loop (codeAt (Func.code Try.f109) [1, 1, 0, 1, 0, 0])) (pieceSem num_lay.l0.T num_lay.l0.os (num_lay.l0 k k)) :=
  loop_ok (C := num_lay.ctx k) (num_lay.gok k) Try.mix AnnOK.nil (by kernel_rfl) (by kernel_rfl) (by kernel_rfl) (num_lay.l0.round k) k
def num_lay.ann (k : Nat) : Ann := .node [] none (.nil) (.node [] none (.nil) (.node [] none (.node [] none (.nil) (.node [] none (.node [.mask [0, 5, 10, 11], .auto 0] (some (pieceSem num_lay.l0.T num_lay.l0.os (num_lay.l0 k k))) .nil .nil) (.nil))) (.nil)))
theorem num_lay.body (k : Nat) : BodyIs (num_lay.ctx k) Try.f109 (Func.code Try.f109) (num_lay.ann k) num_lay.tin num_lay.tout (fun x K => num_lay.c k x.1 x.2.1 K) := by
  intro ρ x K; kernel_rfl
theorem num_lay.sem_ok (k : Nat) : SemOK Try.prog 109 (num_lay.sem k) :=
  callPure_ok (C := num_lay.ctx k) (num_lay.gok k) Try.mix (c := Func.code Try.f109) (ann := num_lay.ann k) (tin := num_lay.tin) (tout := num_lay.tout) (fun x K => num_lay.c k x.1 x.2.1 K) Try.func109 (by kernel_rfl) (by kernel_rfl) (AnnOK.seq AnnOK.nil (AnnOK.seq AnnOK.nil (AnnOK.seq (AnnOK.seq AnnOK.nil (AnnOK.block (AnnOK.loop (by kernel_rfl) (num_lay.l0.ok k)))) AnnOK.nil))) (num_lay.body k)

/-! 81 (*bedrock/num.Writer).U64 · with blocks -/
abbrev num_Writer_U64.τ : Type := (((Unit × (Unit × Unit)) × Unit) × (List Int) × Unit)
def num_Writer_U64.c (k : Nat) {ρ : Type} (n : Int) (b0 : ((Unit × (Unit × Unit)) × Unit)) (b1 : (List Int)) (K : num_Writer_U64.τ → Option ρ) : Option ρ :=
  (num_lay k n (8 : Int)).bind fun t0 => (num_Writer_Bytes k t0.1 (((), ((), ())), ()) b1).bind fun t1 => K ((((), ((), ())), ()), (t1.2.1, ()))
def num_Writer_U64 (k : Nat) (n : Int) (b0 : ((Unit × (Unit × Unit)) × Unit)) (b1 : (List Int)) : Option num_Writer_U64.τ := num_Writer_U64.c k n b0 b1 some
def num_Writer_U64.T : CallT := ⟨[.ptr 0 [], .dat (.int .u64)], [.pair (.pair (.sfp 0 [0] 180) (.pair (.vbs 1) (.dat .unit))) (.dat .unit), .vec (.int .u8)], 1⟩
def num_Writer_U64.os : List Out := [⟨.ret, [.auto 1], ⟨[], [.pair (.pair (.sfp 0 [0] 180) (.pair (.vbs 1) (.dat .unit))) (.dat .unit), .vec (.int .u8)]⟩⟩]
def num_Writer_U64.sem (k : Nat) : CallSem := callH num_Writer_U64.T num_Writer_U64.os fun x => num_Writer_U64 k x.1 x.2.1 x.2.2.1
noncomputable def num_Writer_U64.ctx (k : Nat) : Ctx := ⟨Try.prog, gam [(109, (num_lay.sem k)), (95, (num_Writer_Bytes.sem k))]⟩
theorem num_Writer_U64.gok (k : Nat) : ∀ f, SemOK Try.prog f ((num_Writer_U64.ctx k).Γ f) := (gam_cons (num_lay.sem_ok k) (gam_cons (num_Writer_Bytes.sem_ok k) gam_nil))
def num_Writer_U64.ann (k : Nat) : Ann := .nil
theorem num_Writer_U64.body (k : Nat) : BodyH (num_Writer_U64.ctx k) Try.f81 (Func.code Try.f81) (num_Writer_U64.ann k) num_Writer_U64.T num_Writer_U64.os (fun x K => num_Writer_U64.c k x.1 x.2.1 x.2.2.1 K) := by
  intro ρ x K; kernel_rfl
theorem num_Writer_U64.sem_ok (k : Nat) : SemOK Try.prog 81 (num_Writer_U64.sem k) :=
  callH_ok (C := num_Writer_U64.ctx k) (num_Writer_U64.gok k) Try.mix (c := Func.code Try.f81) (ann := num_Writer_U64.ann k) (T := num_Writer_U64.T) (os := num_Writer_U64.os) (fun x K => num_Writer_U64.c k x.1 x.2.1 x.2.2.1 K) Try.func81 (by kernel_rfl) (by kernel_rfl) AnnOK.nil (num_Writer_U64.body k) (by kernel_rfl) (by kernel_rfl) (by kernel_rfl)

/-! 82 (*bedrock/num.Writer).Text · with blocks -/
abbrev num_Writer_Text.τ : Type := (ByteArray × Unit)
def num_Writer_Text.c (k : Nat) {ρ : Type} (b0 : ((Unit × (Unit × Unit)) × Unit)) (b1 : (List Int)) (K : num_Writer_Text.τ → Option ρ) : Option ρ :=
  bif (Nat.ble (List.length b1) 9223372036854775807) then (K ((bytesOf b1), ())) else (none)
def num_Writer_Text (k : Nat) (b0 : ((Unit × (Unit × Unit)) × Unit)) (b1 : (List Int)) : Option num_Writer_Text.τ := num_Writer_Text.c k b0 b1 some
def num_Writer_Text.T : CallT := ⟨[.ptr 0 []], [.pair (.pair (.sfp 0 [0] 180) (.pair (.vbs 1) (.dat .unit))) (.dat .unit), .vec (.int .u8)], 1⟩
def num_Writer_Text.os : List Out := [⟨.ret, [.freeze (.slot 0), .auto 1], ⟨[.dat .str], [.undef]⟩⟩]
def num_Writer_Text.sem (k : Nat) : CallSem := callH num_Writer_Text.T num_Writer_Text.os fun x => num_Writer_Text k x.1 x.2.1
noncomputable def num_Writer_Text.ctx (k : Nat) : Ctx := ⟨Try.prog, gam [(108, strSem)]⟩
theorem num_Writer_Text.gok (k : Nat) : ∀ f, SemOK Try.prog f ((num_Writer_Text.ctx k).Γ f) := (gam_cons Bld.string gam_nil)
def num_Writer_Text.ann (k : Nat) : Ann := .nil
theorem num_Writer_Text.body (k : Nat) : BodyH (num_Writer_Text.ctx k) Try.f82 (Func.code Try.f82) (num_Writer_Text.ann k) num_Writer_Text.T num_Writer_Text.os (fun x K => num_Writer_Text.c k x.1 x.2.1 K) := by
  intro ρ x K; kernel_rfl
theorem num_Writer_Text.sem_ok (k : Nat) : SemOK Try.prog 82 (num_Writer_Text.sem k) :=
  callH_ok (C := num_Writer_Text.ctx k) (num_Writer_Text.gok k) Try.mix (c := Func.code Try.f82) (ann := num_Writer_Text.ann k) (T := num_Writer_Text.T) (os := num_Writer_Text.os) (fun x K => num_Writer_Text.c k x.1 x.2.1 K) Try.func82 (by kernel_rfl) (by kernel_rfl) AnnOK.nil (num_Writer_Text.body k) (by kernel_rfl) (by kernel_rfl) (by kernel_rfl)

/-! 68 bedrock/num.NewReader · with blocks -/
abbrev num_NewReader.τ : Type := ((ByteArray × (Int × (Int × Unit))) × Unit)
def num_NewReader.c (k : Nat) {ρ : Type} (s : ByteArray) (K : num_NewReader.τ → Option ρ) : Option ρ :=
  K ((s, ((0 : Int), ((0 : Int), ()))), ())
def num_NewReader (k : Nat) (s : ByteArray) : Option num_NewReader.τ := num_NewReader.c k s some
def num_NewReader.T : CallT := ⟨[.dat .str], [], 0⟩
def num_NewReader.os : List Out := [⟨.ret, [.auto 0], ⟨[.ptr 0 []], [.dat (.pair .str (.pair (.int .i64) (.pair (.int .i64) .unit)))]⟩⟩]
def num_NewReader.sem (k : Nat) : CallSem := callH num_NewReader.T num_NewReader.os fun x => num_NewReader k x.1
noncomputable def num_NewReader.ctx (k : Nat) : Ctx := ⟨Try.prog, gam []⟩
theorem num_NewReader.gok (k : Nat) : ∀ f, SemOK Try.prog f ((num_NewReader.ctx k).Γ f) := gam_nil
def num_NewReader.ann (k : Nat) : Ann := .nil
theorem num_NewReader.body (k : Nat) : BodyH (num_NewReader.ctx k) Try.f68 (Func.code Try.f68) (num_NewReader.ann k) num_NewReader.T num_NewReader.os (fun x K => num_NewReader.c k x.1 K) := by
  intro ρ x K; kernel_rfl
theorem num_NewReader.sem_ok (k : Nat) : SemOK Try.prog 68 (num_NewReader.sem k) :=
  callH_ok (C := num_NewReader.ctx k) (num_NewReader.gok k) Try.mix (c := Func.code Try.f68) (ann := num_NewReader.ann k) (T := num_NewReader.T) (os := num_NewReader.os) (fun x K => num_NewReader.c k x.1 K) Try.func68 (by kernel_rfl) (by kernel_rfl) AnnOK.nil (num_NewReader.body k) (by kernel_rfl) (by kernel_rfl) (by kernel_rfl)

/-! 98 (*bedrock/num.Reader).Err · with blocks -/
abbrev num_Reader_Err.τ : Type := (Int × (ByteArray × (Int × (Int × Unit))) × Unit)
def num_Reader_Err.c (k : Nat) {ρ : Type} (b0 : (ByteArray × (Int × (Int × Unit)))) (K : num_Reader_Err.τ → Option ρ) : Option ρ :=
  let v0 : Int := b0.2.2.1
  K (v0, ((b0.1, (b0.2.1, (b0.2.2.1, ()))), ()))
def num_Reader_Err (k : Nat) (b0 : (ByteArray × (Int × (Int × Unit)))) : Option num_Reader_Err.τ := num_Reader_Err.c k b0 some
def num_Reader_Err.T : CallT := ⟨[.ptr 0 []], [.dat (.pair .str (.pair (.int .i64) (.pair (.int .i64) .unit)))], 1⟩
def num_Reader_Err.os : List Out := [⟨.ret, [.freeze (.slot 0), .auto 1], ⟨[.dat (.int .i64)], [.dat (.pair .str (.pair (.int .i64) (.pair (.int .i64) .unit)))]⟩⟩]
def num_Reader_Err.sem (k : Nat) : CallSem := callH num_Reader_Err.T num_Reader_Err.os fun x => num_Reader_Err k x.1
noncomputable def num_Reader_Err.ctx (k : Nat) : Ctx := ⟨Try.prog, gam []⟩
theorem num_Reader_Err.gok (k : Nat) : ∀ f, SemOK Try.prog f ((num_Reader_Err.ctx k).Γ f) := gam_nil
def num_Reader_Err.ann (k : Nat) : Ann := .nil
theorem num_Reader_Err.body (k : Nat) : BodyH (num_Reader_Err.ctx k) Try.f98 (Func.code Try.f98) (num_Reader_Err.ann k) num_Reader_Err.T num_Reader_Err.os (fun x K => num_Reader_Err.c k x.1 K) := by
  intro ρ x K; kernel_rfl
theorem num_Reader_Err.sem_ok (k : Nat) : SemOK Try.prog 98 (num_Reader_Err.sem k) :=
  callH_ok (C := num_Reader_Err.ctx k) (num_Reader_Err.gok k) Try.mix (c := Func.code Try.f98) (ann := num_Reader_Err.ann k) (T := num_Reader_Err.T) (os := num_Reader_Err.os) (fun x K => num_Reader_Err.c k x.1 K) Try.func98 (by kernel_rfl) (by kernel_rfl) AnnOK.nil (num_Reader_Err.body k) (by kernel_rfl) (by kernel_rfl) (by kernel_rfl)

/-! 120 (*bedrock/num.Reader).Left · with blocks -/
abbrev num_Reader_Left.τ : Type := (Int × (ByteArray × (Int × (Int × Unit))) × Unit)
def num_Reader_Left.c (k : Nat) {ρ : Type} (b0 : (ByteArray × (Int × (Int × Unit)))) (K : num_Reader_Left.τ → Option ρ) : Option ρ :=
  let v0 : ByteArray := b0.1
  let v1 : Int := b0.2.1
  let v2 : Int := (IntKind.wrap IntKind.i64 ((((ByteArray.size v0) : Nat) : Int) - v1))
  K (v2, ((b0.1, (b0.2.1, (b0.2.2.1, ()))), ()))
def num_Reader_Left (k : Nat) (b0 : (ByteArray × (Int × (Int × Unit)))) : Option num_Reader_Left.τ := num_Reader_Left.c k b0 some
def num_Reader_Left.T : CallT := ⟨[.ptr 0 []], [.dat (.pair .str (.pair (.int .i64) (.pair (.int .i64) .unit)))], 1⟩
def num_Reader_Left.os : List Out := [⟨.ret, [.freeze (.slot 0), .auto 1], ⟨[.dat (.int .i64)], [.dat (.pair .str (.pair (.int .i64) (.pair (.int .i64) .unit)))]⟩⟩]
def num_Reader_Left.sem (k : Nat) : CallSem := callH num_Reader_Left.T num_Reader_Left.os fun x => num_Reader_Left k x.1
noncomputable def num_Reader_Left.ctx (k : Nat) : Ctx := ⟨Try.prog, gam []⟩
theorem num_Reader_Left.gok (k : Nat) : ∀ f, SemOK Try.prog f ((num_Reader_Left.ctx k).Γ f) := gam_nil
def num_Reader_Left.ann (k : Nat) : Ann := .nil
theorem num_Reader_Left.body (k : Nat) : BodyH (num_Reader_Left.ctx k) Try.f120 (Func.code Try.f120) (num_Reader_Left.ann k) num_Reader_Left.T num_Reader_Left.os (fun x K => num_Reader_Left.c k x.1 K) := by
  intro ρ x K; kernel_rfl
theorem num_Reader_Left.sem_ok (k : Nat) : SemOK Try.prog 120 (num_Reader_Left.sem k) :=
  callH_ok (C := num_Reader_Left.ctx k) (num_Reader_Left.gok k) Try.mix (c := Func.code Try.f120) (ann := num_Reader_Left.ann k) (T := num_Reader_Left.T) (os := num_Reader_Left.os) (fun x K => num_Reader_Left.c k x.1 K) Try.func120 (by kernel_rfl) (by kernel_rfl) AnnOK.nil (num_Reader_Left.body k) (by kernel_rfl) (by kernel_rfl) (by kernel_rfl)

/-! 97 (*bedrock/num.Reader).Bytes · with blocks -/
abbrev num_Reader_Bytes.τ : Type := (ByteArray × (ByteArray × (Int × (Int × Unit))) × Unit)
def num_Reader_Bytes.c (k : Nat) {ρ : Type} (n : Int) (b0 : (ByteArray × (Int × (Int × Unit)))) (K : num_Reader_Bytes.τ → Option ρ) : Option ρ :=
  (num_Reader_Err k (b0.1, (b0.2.1, (b0.2.2.1, ())))).bind fun t0 => bif (t0.1 != (0 : Int)) then (K ((⟨(List.toArray [])⟩ : ByteArray), ((t0.2.1.1, (t0.2.1.2.1, (t0.2.1.2.2.1, ()))), ()))) else (bif (decide (n < (0 : Int))) then (K ((⟨(List.toArray [])⟩ : ByteArray), ((t0.2.1.1, (t0.2.1.2.1, ((1 : Int), ()))), ()))) else ((num_Reader_Left k (t0.2.1.1, (t0.2.1.2.1, (t0.2.1.2.2.1, ())))).bind fun t1 => bif (decide (n > t1.1)) then (K ((⟨(List.toArray [])⟩ : ByteArray), ((t1.2.1.1, (t1.2.1.2.1, ((4 : Int), ()))), ()))) else (let v2 : Int := t1.2.1.2.1
  let v3 : Int := (IntKind.wrap IntKind.i64 (v2 + n))
  let v4 : ByteArray := t1.2.1.1
  let v5 : Int := (IntKind.wrap IntKind.i64 (v3 - n))
  bif (decide (((0 : Int) ≤ v5) ∧ ((v5 ≤ v3) ∧ (v3 ≤ (((ByteArray.size v4) : Nat) : Int))))) then (K ((ByteArray.extract v4 (Int.toNat v5) (Int.toNat v3)), ((t1.2.1.1, (v3, (t1.2.1.2.2.1, ()))), ()))) else (none))))
def num_Reader_Bytes (k : Nat) (n : Int) (b0 : (ByteArray × (Int × (Int × Unit)))) : Option num_Reader_Bytes.τ := num_Reader_Bytes.c k n b0 some
def num_Reader_Bytes.T : CallT := ⟨[.ptr 0 [], .dat (.int .i64)], [.dat (.pair .str (.pair (.int .i64) (.pair (.int .i64) .unit)))], 1⟩
def num_Reader_Bytes.os : List Out := [⟨.ret, [.freeze (.slot 0), .auto 1], ⟨[.dat .str], [.dat (.pair .str (.pair (.int .i64) (.pair (.int .i64) .unit)))]⟩⟩]
def num_Reader_Bytes.sem (k : Nat) : CallSem := callH num_Reader_Bytes.T num_Reader_Bytes.os fun x => num_Reader_Bytes k x.1 x.2.1
noncomputable def num_Reader_Bytes.ctx (k : Nat) : Ctx := ⟨Try.prog, gam [(98, (num_Reader_Err.sem k)), (120, (num_Reader_Left.sem k))]⟩
theorem num_Reader_Bytes.gok (k : Nat) : ∀ f, SemOK Try.prog f ((num_Reader_Bytes.ctx k).Γ f) := (gam_cons (num_Reader_Err.sem_ok k) (gam_cons (num_Reader_Left.sem_ok k) gam_nil))
def num_Reader_Bytes.ann (k : Nat) : Ann := .nil
theorem num_Reader_Bytes.body (k : Nat) : BodyH (num_Reader_Bytes.ctx k) Try.f97 (Func.code Try.f97) (num_Reader_Bytes.ann k) num_Reader_Bytes.T num_Reader_Bytes.os (fun x K => num_Reader_Bytes.c k x.1 x.2.1 K) := by
  intro ρ x K; kernel_rfl
theorem num_Reader_Bytes.sem_ok (k : Nat) : SemOK Try.prog 97 (num_Reader_Bytes.sem k) :=
  callH_ok (C := num_Reader_Bytes.ctx k) (num_Reader_Bytes.gok k) Try.mix (c := Func.code Try.f97) (ann := num_Reader_Bytes.ann k) (T := num_Reader_Bytes.T) (os := num_Reader_Bytes.os) (fun x K => num_Reader_Bytes.c k x.1 x.2.1 K) Try.func97 (by kernel_rfl) (by kernel_rfl) AnnOK.nil (num_Reader_Bytes.body k) (by kernel_rfl) (by kernel_rfl) (by kernel_rfl)

/-! 101 bedrock/num.take -/
abbrev num_take.l0.σ : Type := ByteArray × Int × Int × Int × Unit
abbrev num_take.l0.τ : Type := (Int × Unit)
def num_take.l0.r (k : Nat) {ρ : Type} (x : num_take.l0.σ) (kn : num_take.l0.σ → Option ρ) (ke : num_take.l0.τ → Option ρ) : Option ρ :=
  bif (decide (x.2.2.2.1 < x.2.2.1)) then (bif (decide (((0 : Int) ≤ x.2.2.2.1) ∧ (x.2.2.2.1 < (((ByteArray.size x.1) : Nat) : Int)))) then (let v0 : Int := (byteAt x.1 (Int.toNat x.2.2.2.1))
  let v1 : Int := (IntKind.wrap IntKind.i64 ((8 : Int) * x.2.2.2.1))
  bif (decide ((0 : Int) ≤ v1)) then (let v2 : Int := (bitsOp BinOp.or IntKind.u64 x.2.1 (shlOp IntKind.u64 (IntKind.wrap IntKind.u64 v0) v1))
  let v3 : Int := (IntKind.wrap IntKind.i64 (x.2.2.2.1 + (1 : Int)))
  kn (x.1, (v2, (x.2.2.1, (v3, ()))))) else (none)) else (none)) else (ke (x.2.1, ()))
def num_take.l0 (k : Nat) : Nat → num_take.l0.σ → Option num_take.l0.τ := loopJ (num_take.l0.r k)
def num_take.l0.T : StT := ⟨.dat .str :: us 2 ++ .dat (.int .u64) :: us 2 ++ .dat (.int .i64) :: .dat (.int .i64) :: us 13, []⟩
def num_take.l0.os : List Out := [⟨(.exit 0), [.mask [3], .auto 0], ⟨us 3 ++ .dat (.int .u64) :: us 17, []⟩⟩]
def num_take.c (k : Nat) {ρ : Type} (s : ByteArray) (K : Int × Unit → Option ρ) : Option ρ :=
  (num_take.l0 k k (s, ((0 : Int), ((((ByteArray.size s) : Nat) : Int), ((0 : Int), ()))))).bind fun t4 => K (t4.1, ())
def num_take (k : Nat) (s : ByteArray) : Option (Int × Unit) := num_take.c k s some
def num_take.tin : List Ty := [.str]
def num_take.tout : List Ty := [(.int .u64)]
def num_take.sem (k : Nat) : CallSem := callPure num_take.tin num_take.tout fun x => num_take k x.1
noncomputable def num_take.ctx (k : Nat) : Ctx := ⟨Try.prog, gam []⟩
theorem num_take.gok (k : Nat) : ∀ f, SemOK Try.prog f ((num_take.ctx k).Γ f) := gam_nil
theorem num_take.l0.round (k : Nat) : RoundIs (num_take.ctx k) (codeAt (Func.code Try.f101) [1, 1, 0, 1, 0, 0]) (.nil) num_take.l0.T [.mask [0, 3, 6, 7], .auto 0] num_take.l0.os (num_take.l0.r k) := by
  intro ρ x kn ke; kernel_rfl
theorem num_take.l0.ok (k : Nat) : StOK 0 Try.prog (.loop (codeAt (Func.code Try.f101) [1, 1, 0, 1, 0, 0])) (pieceSem num_take.l0.T num_take.l0.os (num_take.l0 k k)) :=
  loop_ok (C := num_take.ctx k) (num_take.gok k) Try.mix AnnOK.nil (by kernel_rfl) (by kernel_rfl) (by kernel_rfl) (num_take.l0.round k) k
def num_take.ann (k : Nat) : Ann := .node [] none (.nil) (.node [] none (.nil) (.node [] none (.node [] none (.nil) (.node [] none (.node [] (some (pieceSem num_take.l0.T num_take.l0.os (num_take.l0 k k))) .nil .nil) (.nil))) (.nil)))
theorem num_take.body (k : Nat) : BodyIs (num_take.ctx k) Try.f101 (Func.code Try.f101) (num_take.ann k) num_take.tin num_take.tout (fun x K => num_take.c k x.1 K) := by
  intro ρ x K; kernel_rfl
theorem num_take.sem_ok (k : Nat) : SemOK Try.prog 101 (num_take.sem k) :=
  callPure_ok (C := num_take.ctx k) (num_take.gok k) Try.mix (c := Func.code Try.f101) (ann := num_take.ann k) (tin := num_take.tin) (tout := num_take.tout) (fun x K => num_take.c k x.1 K) Try.func101 (by kernel_rfl) (by kernel_rfl) (AnnOK.seq AnnOK.nil (AnnOK.seq AnnOK.nil (AnnOK.seq (AnnOK.seq AnnOK.nil (AnnOK.block (AnnOK.loop (by kernel_rfl) (num_take.l0.ok k)))) AnnOK.nil))) (num_take.body k)

/-! 69 (*bedrock/num.Reader).U64 · with blocks -/
abbrev num_Reader_U64.τ : Type := (Int × (ByteArray × (Int × (Int × Unit))) × Unit)
def num_Reader_U64.c (k : Nat) {ρ : Type} (b0 : (ByteArray × (Int × (Int × Unit)))) (K : num_Reader_U64.τ → Option ρ) : Option ρ :=
  (num_Reader_Bytes k (8 : Int) (b0.1, (b0.2.1, (b0.2.2.1, ())))).bind fun t0 => (num_take k t0.1).bind fun t1 => K (t1.1, ((t0.2.1.1, (t0.2.1.2.1, (t0.2.1.2.2.1, ()))), ()))
def num_Reader_U64 (k : Nat) (b0 : (ByteArray × (Int × (Int × Unit)))) : Option num_Reader_U64.τ := num_Reader_U64.c k b0 some
def num_Reader_U64.T : CallT := ⟨[.ptr 0 []], [.dat (.pair .str (.pair (.int .i64) (.pair (.int .i64) .unit)))], 1⟩
def num_Reader_U64.os : List Out := [⟨.ret, [.freeze (.slot 0), .auto 1], ⟨[.dat (.int .u64)], [.dat (.pair .str (.pair (.int .i64) (.pair (.int .i64) .unit)))]⟩⟩]
def num_Reader_U64.sem (k : Nat) : CallSem := callH num_Reader_U64.T num_Reader_U64.os fun x => num_Reader_U64 k x.1
noncomputable def num_Reader_U64.ctx (k : Nat) : Ctx := ⟨Try.prog, gam [(97, (num_Reader_Bytes.sem k)), (101, (num_take.sem k))]⟩
theorem num_Reader_U64.gok (k : Nat) : ∀ f, SemOK Try.prog f ((num_Reader_U64.ctx k).Γ f) := (gam_cons (num_Reader_Bytes.sem_ok k) (gam_cons (num_take.sem_ok k) gam_nil))
def num_Reader_U64.ann (k : Nat) : Ann := .nil
theorem num_Reader_U64.body (k : Nat) : BodyH (num_Reader_U64.ctx k) Try.f69 (Func.code Try.f69) (num_Reader_U64.ann k) num_Reader_U64.T num_Reader_U64.os (fun x K => num_Reader_U64.c k x.1 K) := by
  intro ρ x K; kernel_rfl
theorem num_Reader_U64.sem_ok (k : Nat) : SemOK Try.prog 69 (num_Reader_U64.sem k) :=
  callH_ok (C := num_Reader_U64.ctx k) (num_Reader_U64.gok k) Try.mix (c := Func.code Try.f69) (ann := num_Reader_U64.ann k) (T := num_Reader_U64.T) (os := num_Reader_U64.os) (fun x K => num_Reader_U64.c k x.1 K) Try.func69 (by kernel_rfl) (by kernel_rfl) AnnOK.nil (num_Reader_U64.body k) (by kernel_rfl) (by kernel_rfl) (by kernel_rfl)

/-! 55 bedrock/sip.Keys -/
def sip_Keys.c (k : Nat) {ρ : Type} (header : ByteArray) (nonce : Int) (K : (Int × (Int × Unit)) × Int × Unit → Option ρ) : Option ρ :=
  bif ((((ByteArray.size header) : Nat) : Int) != (80 : Int)) then (K (((0 : Int), ((0 : Int), ())), ((1 : Int), ()))) else ((num_NewWriter k ).bind fun t0 => (num_Writer_Bytes k header (((), ((), ())), ()) t0.2.1).bind fun t1 => (num_Writer_U64 k nonce (((), ((), ())), ()) t1.2.1).bind fun t2 => (num_Writer_Text k (((), ((), ())), ()) t2.2.1).bind fun t3 => (sha_Sum k t3.1).bind fun t4 => let v5 : ByteArray := (bytesOf (List.take 32 (List.drop 0 t4.1)))
  (num_NewReader k v5).bind fun t6 => (num_Reader_U64 k (t6.1.1, (t6.1.2.1, (t6.1.2.2.1, ())))).bind fun t7 => (num_Reader_U64 k (t7.2.1.1, (t7.2.1.2.1, (t7.2.1.2.2.1, ())))).bind fun t8 => K ((t7.1, (t8.1, ())), ((0 : Int), ())))
def sip_Keys (k : Nat) (header : ByteArray) (nonce : Int) : Option ((Int × (Int × Unit)) × Int × Unit) := sip_Keys.c k header nonce some
def sip_Keys.tin : List Ty := [.str, (.int .u64)]
def sip_Keys.tout : List Ty := [(.pair (.int .u64) (.pair (.int .u64) .unit)), (.int .i64)]
def sip_Keys.sem (k : Nat) : CallSem := callPure sip_Keys.tin sip_Keys.tout fun x => sip_Keys k x.1 x.2.1
noncomputable def sip_Keys.ctx (k : Nat) : Ctx := ⟨Try.prog, gam [(76, (num_NewWriter.sem k)), (95, (num_Writer_Bytes.sem k)), (81, (num_Writer_U64.sem k)), (82, (num_Writer_Text.sem k)), (96, (sha_Sum.sem k)), (68, (num_NewReader.sem k)), (69, (num_Reader_U64.sem k))]⟩
theorem sip_Keys.gok (k : Nat) : ∀ f, SemOK Try.prog f ((sip_Keys.ctx k).Γ f) := (gam_cons (num_NewWriter.sem_ok k) (gam_cons (num_Writer_Bytes.sem_ok k) (gam_cons (num_Writer_U64.sem_ok k) (gam_cons (num_Writer_Text.sem_ok k) (gam_cons (sha_Sum.sem_ok k) (gam_cons (num_NewReader.sem_ok k) (gam_cons (num_Reader_U64.sem_ok k) gam_nil)))))))
def sip_Keys.ann (k : Nat) : Ann := .nil
theorem sip_Keys.body (k : Nat) : BodyIs (sip_Keys.ctx k) Try.f55 (Func.code Try.f55) (sip_Keys.ann k) sip_Keys.tin sip_Keys.tout (fun x K => sip_Keys.c k x.1 x.2.1 K) := by
  intro ρ x K; kernel_rfl
theorem sip_Keys.sem_ok (k : Nat) : SemOK Try.prog 55 (sip_Keys.sem k) :=
  callPure_ok (C := sip_Keys.ctx k) (sip_Keys.gok k) Try.mix (c := Func.code Try.f55) (ann := sip_Keys.ann k) (tin := sip_Keys.tin) (tout := sip_Keys.tout) (fun x K => sip_Keys.c k x.1 x.2.1 K) Try.func55 (by kernel_rfl) (by kernel_rfl) AnnOK.nil (sip_Keys.body k)

/-! 25 bedrock/sip.New · with blocks -/
abbrev sip_New.τ : Type := (((List Int) × (ByteArray × (Int × Unit))) × Unit)
def sip_New.c (k : Nat) {ρ : Type} (k_0 : (Int × (Int × Unit))) (K : sip_New.τ → Option ρ) : Option ρ :=
  let v0 : Int := k_0.1
  let v1 : Int := (bitsOp BinOp.xor IntKind.u64 v0 (8317987319222330741 : Int))
  let v2 : Int := k_0.2.1
  let v3 : Int := (bitsOp BinOp.xor IntKind.u64 v2 (7237128888997146477 : Int))
  let v4 : Int := k_0.1
  let v5 : Int := (bitsOp BinOp.xor IntKind.u64 v4 (7816392313619706465 : Int))
  let v6 : Int := k_0.2.1
  let v7 : Int := (bitsOp BinOp.xor IntKind.u64 v6 (8387220255154660723 : Int))
  let v8 : (List Int) := (List.set (List.set (List.set (List.set (List.replicate 4 (0 : Int)) 0 v1) 1 v3) 2 v5) 3 v7)
  K ((v8, ((⟨(List.toArray [])⟩ : ByteArray), ((0 : Int), ()))), ())
def sip_New (k : Nat) (k_0 : (Int × (Int × Unit))) : Option sip_New.τ := sip_New.c k k_0 some
def sip_New.T : CallT := ⟨[.dat (.pair (.int .u64) (.pair (.int .u64) .unit))], [], 0⟩
def sip_New.os : List Out := [⟨.ret, [.auto 0], ⟨[.ptr 0 []], [.dat (.pair (.arr 4 (.int .u64)) (.pair .str (.pair (.int .i64) .unit)))]⟩⟩]
def sip_New.sem (k : Nat) : CallSem := callH sip_New.T sip_New.os fun x => sip_New k x.1
noncomputable def sip_New.ctx (k : Nat) : Ctx := ⟨Try.prog, gam []⟩
theorem sip_New.gok (k : Nat) : ∀ f, SemOK Try.prog f ((sip_New.ctx k).Γ f) := gam_nil
def sip_New.ann (k : Nat) : Ann := .nil
theorem sip_New.body (k : Nat) : BodyH (sip_New.ctx k) Try.f25 (Func.code Try.f25) (sip_New.ann k) sip_New.T sip_New.os (fun x K => sip_New.c k x.1 K) := by
  intro ρ x K; kernel_rfl
theorem sip_New.sem_ok (k : Nat) : SemOK Try.prog 25 (sip_New.sem k) :=
  callH_ok (C := sip_New.ctx k) (sip_New.gok k) Try.mix (c := Func.code Try.f25) (ann := sip_New.ann k) (T := sip_New.T) (os := sip_New.os) (fun x K => sip_New.c k x.1 K) Try.func25 (by kernel_rfl) (by kernel_rfl) AnnOK.nil (sip_New.body k) (by kernel_rfl) (by kernel_rfl) (by kernel_rfl)

/-! 62 math/bits.RotateLeft64 -/
def math_bits_RotateLeft64.c (k : Nat) {ρ : Type} (x_0 : Int) (k_1 : Int) (K : Int × Unit → Option ρ) : Option ρ :=
  let v0 : Int := (bitsOp BinOp.and IntKind.u64 (IntKind.wrap IntKind.u64 k_1) (63 : Int))
  bif (decide ((0 : Int) ≤ v0)) then (let v1 : Int := (IntKind.wrap IntKind.u64 ((64 : Int) - v0))
  bif (decide ((0 : Int) ≤ v1)) then (let v2 : Int := (bitsOp BinOp.or IntKind.u64 (shlOp IntKind.u64 x_0 v0) (shrOp IntKind.u64 x_0 v1))
  K (v2, ())) else (none)) else (none)
def math_bits_RotateLeft64 (k : Nat) (x_0 : Int) (k_1 : Int) : Option (Int × Unit) := math_bits_RotateLeft64.c k x_0 k_1 some
def math_bits_RotateLeft64.tin : List Ty := [(.int .u64), (.int .i64)]
def math_bits_RotateLeft64.tout : List Ty := [(.int .u64)]
def math_bits_RotateLeft64.sem (k : Nat) : CallSem := callPure math_bits_RotateLeft64.tin math_bits_RotateLeft64.tout fun x => math_bits_RotateLeft64 k x.1 x.2.1
noncomputable def math_bits_RotateLeft64.ctx (k : Nat) : Ctx := ⟨Try.prog, gam []⟩
theorem math_bits_RotateLeft64.gok (k : Nat) : ∀ f, SemOK Try.prog f ((math_bits_RotateLeft64.ctx k).Γ f) := gam_nil
def math_bits_RotateLeft64.ann (k : Nat) : Ann := .nil
theorem math_bits_RotateLeft64.body (k : Nat) : BodyIs (math_bits_RotateLeft64.ctx k) Try.f62 (Func.code Try.f62) (math_bits_RotateLeft64.ann k) math_bits_RotateLeft64.tin math_bits_RotateLeft64.tout (fun x K => math_bits_RotateLeft64.c k x.1 x.2.1 K) := by
  intro ρ x K; kernel_rfl
theorem math_bits_RotateLeft64.sem_ok (k : Nat) : SemOK Try.prog 62 (math_bits_RotateLeft64.sem k) :=
  callPure_ok (C := math_bits_RotateLeft64.ctx k) (math_bits_RotateLeft64.gok k) Try.mix (c := Func.code Try.f62) (ann := math_bits_RotateLeft64.ann k) (tin := math_bits_RotateLeft64.tin) (tout := math_bits_RotateLeft64.tout) (fun x K => math_bits_RotateLeft64.c k x.1 x.2.1 K) Try.func62 (by kernel_rfl) (by kernel_rfl) AnnOK.nil (math_bits_RotateLeft64.body k)

/-! 17 bedrock/sip.Round -/
def sip_Round.c (k : Nat) {ρ : Type} (v : (List Int)) (K : (List Int) × Unit → Option ρ) : Option ρ :=
  let v0 : Int := (List.getD v 0 (0 : Int))
  let v1 : Int := (List.getD v 1 (0 : Int))
  let v2 : Int := (IntKind.wrap IntKind.u64 (v0 + v1))
  let v3 : Int := (List.getD (List.set v 0 v2) 1 (0 : Int))
  (math_bits_RotateLeft64 k v3 (13 : Int)).bind fun t4 => let v5 : Int := (List.getD (List.set v 0 v2) 0 (0 : Int))
  let v6 : Int := (bitsOp BinOp.xor IntKind.u64 t4.1 v5)
  let v7 : Int := (List.getD (List.set (List.set v 0 v2) 1 v6) 0 (0 : Int))
  (math_bits_RotateLeft64 k v7 (32 : Int)).bind fun t8 => let v9 : Int := (List.getD (List.set (List.set (List.set v 0 v2) 1 v6) 0 t8.1) 2 (0 : Int))
  let v10 : Int := (List.getD (List.set (List.set (List.set v 0 v2) 1 v6) 0 t8.1) 3 (0 : Int))
  let v11 : Int := (IntKind.wrap IntKind.u64 (v9 + v10))
  let v12 : Int := (List.getD (List.set (List.set (List.set (List.set v 0 v2) 1 v6) 0 t8.1) 2 v11) 3 (0 : Int))
  (math_bits_RotateLeft64 k v12 (16 : Int)).bind fun t13 => let v14 : Int := (List.getD (List.set (List.set (List.set (List.set v 0 v2) 1 v6) 0 t8.1) 2 v11) 2 (0 : Int))
  let v15 : Int := (bitsOp BinOp.xor IntKind.u64 t13.1 v14)
  let v16 : Int := (List.getD (List.set (List.set (List.set (List.set (List.set v 0 v2) 1 v6) 0 t8.1) 2 v11) 3 v15) 0 (0 : Int))
  let v17 : Int := (List.getD (List.set (List.set (List.set (List.set (List.set v 0 v2) 1 v6) 0 t8.1) 2 v11) 3 v15) 3 (0 : Int))
  let v18 : Int := (IntKind.wrap IntKind.u64 (v16 + v17))
  let v19 : Int := (List.getD (List.set (List.set (List.set (List.set (List.set (List.set v 0 v2) 1 v6) 0 t8.1) 2 v11) 3 v15) 0 v18) 3 (0 : Int))
  (math_bits_RotateLeft64 k v19 (21 : Int)).bind fun t20 => let v21 : Int := (List.getD (List.set (List.set (List.set (List.set (List.set (List.set v 0 v2) 1 v6) 0 t8.1) 2 v11) 3 v15) 0 v18) 0 (0 : Int))
  let v22 : Int := (bitsOp BinOp.xor IntKind.u64 t20.1 v21)
  let v23 : Int := (List.getD (List.set (List.set (List.set (List.set (List.set (List.set (List.set v 0 v2) 1 v6) 0 t8.1) 2 v11) 3 v15) 0 v18) 3 v22) 2 (0 : Int))
  let v24 : Int := (List.getD (List.set (List.set (List.set (List.set (List.set (List.set (List.set v 0 v2) 1 v6) 0 t8.1) 2 v11) 3 v15) 0 v18) 3 v22) 1 (0 : Int))
  let v25 : Int := (IntKind.wrap IntKind.u64 (v23 + v24))
  let v26 : Int := (List.getD (List.set (List.set (List.set (List.set (List.set (List.set (List.set (List.set v 0 v2) 1 v6) 0 t8.1) 2 v11) 3 v15) 0 v18) 3 v22) 2 v25) 1 (0 : Int))
  (math_bits_RotateLeft64 k v26 (17 : Int)).bind fun t27 => let v28 : Int := (List.getD (List.set (List.set (List.set (List.set (List.set (List.set (List.set (List.set v 0 v2) 1 v6) 0 t8.1) 2 v11) 3 v15) 0 v18) 3 v22) 2 v25) 2 (0 : Int))
  let v29 : Int := (bitsOp BinOp.xor IntKind.u64 t27.1 v28)
  let v30 : Int := (List.getD (List.set (List.set (List.set (List.set (List.set (List.set (List.set (List.set (List.set v 0 v2) 1 v6) 0 t8.1) 2 v11) 3 v15) 0 v18) 3 v22) 2 v25) 1 v29) 2 (0 : Int))
  (math_bits_RotateLeft64 k v30 (32 : Int)).bind fun t31 => let v32 : (List Int) := (List.set (List.set (List.set (List.set (List.set (List.set (List.set (List.set (List.set (List.set v 0 v2) 1 v6) 0 t8.1) 2 v11) 3 v15) 0 v18) 3 v22) 2 v25) 1 v29) 2 t31.1)
  K (v32, ())
def sip_Round (k : Nat) (v : (List Int)) : Option ((List Int) × Unit) := sip_Round.c k v some
def sip_Round.tin : List Ty := [(.arr 4 (.int .u64))]
def sip_Round.tout : List Ty := [(.arr 4 (.int .u64))]
def sip_Round.sem (k : Nat) : CallSem := callPure sip_Round.tin sip_Round.tout fun x => sip_Round k x.1
noncomputable def sip_Round.ctx (k : Nat) : Ctx := ⟨Try.prog, gam [(62, (math_bits_RotateLeft64.sem k))]⟩
theorem sip_Round.gok (k : Nat) : ∀ f, SemOK Try.prog f ((sip_Round.ctx k).Γ f) := (gam_cons (math_bits_RotateLeft64.sem_ok k) gam_nil)
def sip_Round.ann (k : Nat) : Ann := .nil
theorem sip_Round.body (k : Nat) : BodyIs (sip_Round.ctx k) Try.f17 (Func.code Try.f17) (sip_Round.ann k) sip_Round.tin sip_Round.tout (fun x K => sip_Round.c k x.1 K) := by
  intro ρ x K; kernel_rfl
theorem sip_Round.sem_ok (k : Nat) : SemOK Try.prog 17 (sip_Round.sem k) :=
  callPure_ok (C := sip_Round.ctx k) (sip_Round.gok k) Try.mix (c := Func.code Try.f17) (ann := sip_Round.ann k) (tin := sip_Round.tin) (tout := sip_Round.tout) (fun x K => sip_Round.c k x.1 K) Try.func17 (by kernel_rfl) (by kernel_rfl) AnnOK.nil (sip_Round.body k)

/-! 73 bedrock/sip.mixed -/
def sip_mixed.c (k : Nat) {ρ : Type} (v : (List Int)) (s : ByteArray) (K : (List Int) × Unit → Option ρ) : Option ρ :=
  (num_NewReader k s).bind fun t0 => (num_Reader_U64 k (t0.1.1, (t0.1.2.1, (t0.1.2.2.1, ())))).bind fun t1 => let v2 : Int := (List.getD v 3 (0 : Int))
  let v3 : Int := (bitsOp BinOp.xor IntKind.u64 v2 t1.1)
  (sip_Round k (List.set v 3 v3)).bind fun t4 => (sip_Round k t4.1).bind fun t5 => let v6 : Int := (List.getD t5.1 0 (0 : Int))
  let v7 : Int := (bitsOp BinOp.xor IntKind.u64 v6 t1.1)
  let v8 : (List Int) := (List.set t5.1 0 v7)
  K (v8, ())
def sip_mixed (k : Nat) (v : (List Int)) (s : ByteArray) : Option ((List Int) × Unit) := sip_mixed.c k v s some
def sip_mixed.tin : List Ty := [(.arr 4 (.int .u64)), .str]
def sip_mixed.tout : List Ty := [(.arr 4 (.int .u64))]
def sip_mixed.sem (k : Nat) : CallSem := callPure sip_mixed.tin sip_mixed.tout fun x => sip_mixed k x.1 x.2.1
noncomputable def sip_mixed.ctx (k : Nat) : Ctx := ⟨Try.prog, gam [(68, (num_NewReader.sem k)), (69, (num_Reader_U64.sem k)), (17, (sip_Round.sem k))]⟩
theorem sip_mixed.gok (k : Nat) : ∀ f, SemOK Try.prog f ((sip_mixed.ctx k).Γ f) := (gam_cons (num_NewReader.sem_ok k) (gam_cons (num_Reader_U64.sem_ok k) (gam_cons (sip_Round.sem_ok k) gam_nil)))
def sip_mixed.ann (k : Nat) : Ann := .nil
theorem sip_mixed.body (k : Nat) : BodyIs (sip_mixed.ctx k) Try.f73 (Func.code Try.f73) (sip_mixed.ann k) sip_mixed.tin sip_mixed.tout (fun x K => sip_mixed.c k x.1 x.2.1 K) := by
  intro ρ x K; kernel_rfl
theorem sip_mixed.sem_ok (k : Nat) : SemOK Try.prog 73 (sip_mixed.sem k) :=
  callPure_ok (C := sip_mixed.ctx k) (sip_mixed.gok k) Try.mix (c := Func.code Try.f73) (ann := sip_mixed.ann k) (tin := sip_mixed.tin) (tout := sip_mixed.tout) (fun x K => sip_mixed.c k x.1 x.2.1 K) Try.func73 (by kernel_rfl) (by kernel_rfl) AnnOK.nil (sip_mixed.body k)

/-! 74 strings.Clone -/
def strings_Clone.c (k : Nat) {ρ : Type} (s : ByteArray) (K : ByteArray × Unit → Option ρ) : Option ρ :=
  (stringslite_Clone k s).bind fun t0 => K (t0.1, ())
def strings_Clone (k : Nat) (s : ByteArray) : Option (ByteArray × Unit) := strings_Clone.c k s some
def strings_Clone.tin : List Ty := [.str]
def strings_Clone.tout : List Ty := [.str]
def strings_Clone.sem (k : Nat) : CallSem := callPure strings_Clone.tin strings_Clone.tout fun x => strings_Clone k x.1
noncomputable def strings_Clone.ctx (k : Nat) : Ctx := ⟨Try.prog, gam [(102, (stringslite_Clone.sem k))]⟩
theorem strings_Clone.gok (k : Nat) : ∀ f, SemOK Try.prog f ((strings_Clone.ctx k).Γ f) := (gam_cons (stringslite_Clone.sem_ok k) gam_nil)
def strings_Clone.ann (k : Nat) : Ann := .nil
theorem strings_Clone.body (k : Nat) : BodyIs (strings_Clone.ctx k) Try.f74 (Func.code Try.f74) (strings_Clone.ann k) strings_Clone.tin strings_Clone.tout (fun x K => strings_Clone.c k x.1 K) := by
  intro ρ x K; kernel_rfl
theorem strings_Clone.sem_ok (k : Nat) : SemOK Try.prog 74 (strings_Clone.sem k) :=
  callPure_ok (C := strings_Clone.ctx k) (strings_Clone.gok k) Try.mix (c := Func.code Try.f74) (ann := strings_Clone.ann k) (tin := strings_Clone.tin) (tout := strings_Clone.tout) (fun x K => strings_Clone.c k x.1 K) Try.func74 (by kernel_rfl) (by kernel_rfl) AnnOK.nil (strings_Clone.body k)

/-! 27 (*bedrock/sip.Sip).Write · with blocks -/
abbrev sip_Sip_Write.l0.σ : Type := ByteArray × ((List Int) × (ByteArray × (Int × Unit))) × Unit
abbrev sip_Sip_Write.l0.τ : Type := (ByteArray × ((List Int) × (ByteArray × (Int × Unit))) × Unit)
def sip_Sip_Write.l0.r (k : Nat) {ρ : Type} (x : sip_Sip_Write.l0.σ) (kn : sip_Sip_Write.l0.σ → Option ρ) (ke : sip_Sip_Write.l0.τ → Option ρ) : Option ρ :=
  let v4 : Int := (((ByteArray.size x.1) : Nat) : Int)
  bif (decide (v4 ≥ (8 : Int))) then (let v5 : (List Int) := x.2.1.1
  bif (decide (((0 : Int) ≤ (0 : Int)) ∧ (((0 : Int) ≤ (8 : Int)) ∧ ((8 : Int) ≤ (((ByteArray.size x.1) : Nat) : Int))))) then (let v6 : ByteArray := (ByteArray.extract x.1 0 8)
  (sip_mixed k v5 v6).bind fun t7 => bif (decide (((0 : Int) ≤ (8 : Int)) ∧ (((8 : Int) ≤ (((ByteArray.size x.1) : Nat) : Int)) ∧ ((((ByteArray.size x.1) : Nat) : Int) ≤ (((ByteArray.size x.1) : Nat) : Int))))) then (let v8 : ByteArray := (ByteArray.extract x.1 8 (Int.toNat (((ByteArray.size x.1) : Nat) : Int)))
  kn (v8, ((t7.1, (x.2.1.2.1, (x.2.1.2.2.1, ()))), ()))) else (none)) else (none)) else (ke (x.1, ((x.2.1.1, (x.2.1.2.1, (x.2.1.2.2.1, ()))), ())))
def sip_Sip_Write.l0 (k : Nat) : Nat → sip_Sip_Write.l0.σ → Option sip_Sip_Write.l0.τ := loopJ (sip_Sip_Write.l0.r k)
def sip_Sip_Write.l0.T : StT := ⟨.ptr 0 [] :: .dat .str :: us 39, [.dat (.pair (.arr 4 (.int .u64)) (.pair .str (.pair (.int .i64) .unit)))]⟩
def sip_Sip_Write.l0.os : List Out := [⟨(.exit 0), [.mask [0, 1], .auto 1], ⟨.ptr 0 [] :: .dat .str :: us 39, [.dat (.pair (.arr 4 (.int .u64)) (.pair .str (.pair (.int .i64) .unit)))]⟩⟩]
abbrev sip_Sip_Write.τ : Type := (((List Int) × (ByteArray × (Int × Unit))) × Unit)
def sip_Sip_Write.c (k : Nat) {ρ : Type} (s : ByteArray) (b0 : ((List Int) × (ByteArray × (Int × Unit)))) (K : sip_Sip_Write.τ → Option ρ) : Option ρ :=
  let v0 : Int := b0.2.2.1
  let v1 : Int := (IntKind.wrap IntKind.i64 (v0 + (((ByteArray.size s) : Nat) : Int)))
  let v2 : ByteArray := b0.2.1
  bif (Nat.ble ((ByteArray.size v2) + (ByteArray.size s)) 9223372036854775807) then (let v3 : ByteArray := (v2 ++ s)
  (sip_Sip_Write.l0 k k (v3, ((b0.1, (b0.2.1, (v1, ()))), ()))).bind fun t9 => (strings_Clone k t9.1).bind fun t10 => K ((t9.2.1.1, (t10.1, (t9.2.1.2.2.1, ()))), ())) else (none)
def sip_Sip_Write (k : Nat) (s : ByteArray) (b0 : ((List Int) × (ByteArray × (Int × Unit)))) : Option sip_Sip_Write.τ := sip_Sip_Write.c k s b0 some
def sip_Sip_Write.T : CallT := ⟨[.ptr 0 [], .dat .str], [.dat (.pair (.arr 4 (.int .u64)) (.pair .str (.pair (.int .i64) .unit)))], 1⟩
def sip_Sip_Write.os : List Out := [⟨.ret, [.auto 1], ⟨[], [.dat (.pair (.arr 4 (.int .u64)) (.pair .str (.pair (.int .i64) .unit)))]⟩⟩]
def sip_Sip_Write.sem (k : Nat) : CallSem := callH sip_Sip_Write.T sip_Sip_Write.os fun x => sip_Sip_Write k x.1 x.2.1
noncomputable def sip_Sip_Write.ctx (k : Nat) : Ctx := ⟨Try.prog, gam [(73, (sip_mixed.sem k)), (74, (strings_Clone.sem k))]⟩
theorem sip_Sip_Write.gok (k : Nat) : ∀ f, SemOK Try.prog f ((sip_Sip_Write.ctx k).Γ f) := (gam_cons (sip_mixed.sem_ok k) (gam_cons (strings_Clone.sem_ok k) gam_nil))
theorem sip_Sip_Write.l0.round (k : Nat) : RoundIs (sip_Sip_Write.ctx k) (codeAt (Func.code Try.f27) [1, 1, 1, 0, 0, 0]) (.nil) sip_Sip_Write.l0.T [.mask [0, 1], .auto 1] sip_Sip_Write.l0.os (sip_Sip_Write.l0.r k) := by
  intro ρ x kn ke; kernel_rfl
theorem sip_Sip_Write.l0.ok (k : Nat) : StOK 1 Try.prog (.loop (codeAt (Func.code Try.f27) [1, 1, 1, 0, 0, 0])) (pieceSem sip_Sip_Write.l0.T sip_Sip_Write.l0.os (sip_Sip_Write.l0 k k)) :=
  loop_ok (C := sip_Sip_Write.ctx k) (sip_Sip_Write.gok k) Try.mix AnnOK.nil (by kernel_rfl) (by kernel_rfl) (by kernel_rfl) (sip_Sip_Write.l0.round k) k
def sip_Sip_Write.ann (k : Nat) : Ann := .node [] none (.nil) (.node [] none (.nil) (.node [] none (.nil) (.node [] none (.node [] none (.node [.mask [0, 1], .auto 1] (some (pieceSem sip_Sip_Write.l0.T sip_Sip_Write.l0.os (sip_Sip_Write.l0 k k))) .nil .nil) (.nil)) (.nil))))
theorem sip_Sip_Write.body (k : Nat) : BodyH (sip_Sip_Write.ctx k) Try.f27 (Func.code Try.f27) (sip_Sip_Write.ann k) sip_Sip_Write.T sip_Sip_Write.os (fun x K => sip_Sip_Write.c k x.1 x.2.1 K) := by
  intro ρ x K; kernel_rfl
theorem sip_Sip_Write.sem_ok (k : Nat) : SemOK Try.prog 27 (sip_Sip_Write.sem k) :=
  callH_ok (C := sip_Sip_Write.ctx k) (sip_Sip_Write.gok k) Try.mix (c := Func.code Try.f27) (ann := sip_Sip_Write.ann k) (T := sip_Sip_Write.T) (os := sip_Sip_Write.os) (fun x K => sip_Sip_Write.c k x.1 x.2.1 K) Try.func27 (by kernel_rfl) (by kernel_rfl) (AnnOK.seq AnnOK.nil (AnnOK.seq AnnOK.nil (AnnOK.seq AnnOK.nil (AnnOK.seq (AnnOK.block (AnnOK.loop (by kernel_rfl) (sip_Sip_Write.l0.ok k))) AnnOK.nil)))) (sip_Sip_Write.body k) (by kernel_rfl) (by kernel_rfl) (by kernel_rfl)

/-! 29 (*bedrock/sip.Sip).Sum · with blocks -/
abbrev sip_Sip_Sum.τ : Type := (Int × ((List Int) × (ByteArray × (Int × Unit))) × Unit)
def sip_Sip_Sum.c (k : Nat) {ρ : Type} (b0 : ((List Int) × (ByteArray × (Int × Unit)))) (K : sip_Sip_Sum.τ → Option ρ) : Option ρ :=
  let v0 : ByteArray := b0.2.1
  let v1 : ByteArray := b0.2.1
  let v2 : Int := (IntKind.wrap IntKind.i64 ((7 : Int) - (((ByteArray.size v1) : Nat) : Int)))
  (strings_Repeat k (⟨(List.toArray [0])⟩ : ByteArray) v2).bind fun t3 => bif (Nat.ble ((ByteArray.size v0) + (ByteArray.size t3.1)) 9223372036854775807) then (let v4 : ByteArray := (v0 ++ t3.1)
  let v5 : Int := b0.2.2.1
  let v6 : ByteArray := (bytesOf (List.set (List.replicate 1 (0 : Int)) 0 (IntKind.wrap IntKind.u8 v5)))
  bif (Nat.ble ((ByteArray.size v4) + (ByteArray.size v6)) 9223372036854775807) then (let v7 : ByteArray := (v4 ++ v6)
  let v8 : (List Int) := b0.1
  (sip_mixed k v8 v7).bind fun t9 => let v10 : Int := (List.getD t9.1 2 (0 : Int))
  let v11 : Int := (bitsOp BinOp.xor IntKind.u64 v10 (255 : Int))
  let v12 : (List Int) := (List.set t9.1 2 v11)
  (sip_Round k v12).bind fun t13 => (sip_Round k t13.1).bind fun t14 => (sip_Round k t14.1).bind fun t15 => (sip_Round k t15.1).bind fun t16 => let v17 : Int := (List.getD t16.1 0 (0 : Int))
  let v18 : Int := (List.getD t16.1 1 (0 : Int))
  let v19 : Int := (List.getD t16.1 2 (0 : Int))
  let v20 : Int := (bitsOp BinOp.xor IntKind.u64 (bitsOp BinOp.xor IntKind.u64 v17 v18) v19)
  let v21 : Int := (List.getD t16.1 3 (0 : Int))
  K ((bitsOp BinOp.xor IntKind.u64 v20 v21), ((b0.1, (b0.2.1, (b0.2.2.1, ()))), ()))) else (none)) else (none)
def sip_Sip_Sum (k : Nat) (b0 : ((List Int) × (ByteArray × (Int × Unit)))) : Option sip_Sip_Sum.τ := sip_Sip_Sum.c k b0 some
def sip_Sip_Sum.T : CallT := ⟨[.ptr 0 []], [.dat (.pair (.arr 4 (.int .u64)) (.pair .str (.pair (.int .i64) .unit)))], 1⟩
def sip_Sip_Sum.os : List Out := [⟨.ret, [.freeze (.slot 0), .auto 1], ⟨[.dat (.int .u64)], [.dat (.pair (.arr 4 (.int .u64)) (.pair .str (.pair (.int .i64) .unit)))]⟩⟩]
def sip_Sip_Sum.sem (k : Nat) : CallSem := callH sip_Sip_Sum.T sip_Sip_Sum.os fun x => sip_Sip_Sum k x.1
noncomputable def sip_Sip_Sum.ctx (k : Nat) : Ctx := ⟨Try.prog, gam [(75, (strings_Repeat.sem k)), (73, (sip_mixed.sem k)), (17, (sip_Round.sem k))]⟩
theorem sip_Sip_Sum.gok (k : Nat) : ∀ f, SemOK Try.prog f ((sip_Sip_Sum.ctx k).Γ f) := (gam_cons (strings_Repeat.sem_ok k) (gam_cons (sip_mixed.sem_ok k) (gam_cons (sip_Round.sem_ok k) gam_nil)))
def sip_Sip_Sum.ann (k : Nat) : Ann := .nil
theorem sip_Sip_Sum.body (k : Nat) : BodyH (sip_Sip_Sum.ctx k) Try.f29 (Func.code Try.f29) (sip_Sip_Sum.ann k) sip_Sip_Sum.T sip_Sip_Sum.os (fun x K => sip_Sip_Sum.c k x.1 K) := by
  intro ρ x K; kernel_rfl
theorem sip_Sip_Sum.sem_ok (k : Nat) : SemOK Try.prog 29 (sip_Sip_Sum.sem k) :=
  callH_ok (C := sip_Sip_Sum.ctx k) (sip_Sip_Sum.gok k) Try.mix (c := Func.code Try.f29) (ann := sip_Sip_Sum.ann k) (T := sip_Sip_Sum.T) (os := sip_Sip_Sum.os) (fun x K => sip_Sip_Sum.c k x.1 K) Try.func29 (by kernel_rfl) (by kernel_rfl) AnnOK.nil (sip_Sip_Sum.body k) (by kernel_rfl) (by kernel_rfl) (by kernel_rfl)

/-! 15 bedrock/sip.Hash -/
def sip_Hash.c (k : Nat) {ρ : Type} (k_0 : (Int × (Int × Unit))) (s : ByteArray) (K : Int × Unit → Option ρ) : Option ρ :=
  (sip_New k (k_0.1, (k_0.2.1, ()))).bind fun t0 => (sip_Sip_Write k s (t0.1.1, (t0.1.2.1, (t0.1.2.2.1, ())))).bind fun t1 => (sip_Sip_Sum k (t1.1.1, (t1.1.2.1, (t1.1.2.2.1, ())))).bind fun t2 => K (t2.1, ())
def sip_Hash (k : Nat) (k_0 : (Int × (Int × Unit))) (s : ByteArray) : Option (Int × Unit) := sip_Hash.c k k_0 s some
def sip_Hash.tin : List Ty := [(.pair (.int .u64) (.pair (.int .u64) .unit)), .str]
def sip_Hash.tout : List Ty := [(.int .u64)]
def sip_Hash.sem (k : Nat) : CallSem := callPure sip_Hash.tin sip_Hash.tout fun x => sip_Hash k x.1 x.2.1
noncomputable def sip_Hash.ctx (k : Nat) : Ctx := ⟨Try.prog, gam [(25, (sip_New.sem k)), (27, (sip_Sip_Write.sem k)), (29, (sip_Sip_Sum.sem k))]⟩
theorem sip_Hash.gok (k : Nat) : ∀ f, SemOK Try.prog f ((sip_Hash.ctx k).Γ f) := (gam_cons (sip_New.sem_ok k) (gam_cons (sip_Sip_Write.sem_ok k) (gam_cons (sip_Sip_Sum.sem_ok k) gam_nil)))
def sip_Hash.ann (k : Nat) : Ann := .nil
theorem sip_Hash.body (k : Nat) : BodyIs (sip_Hash.ctx k) Try.f15 (Func.code Try.f15) (sip_Hash.ann k) sip_Hash.tin sip_Hash.tout (fun x K => sip_Hash.c k x.1 x.2.1 K) := by
  intro ρ x K; kernel_rfl
theorem sip_Hash.sem_ok (k : Nat) : SemOK Try.prog 15 (sip_Hash.sem k) :=
  callPure_ok (C := sip_Hash.ctx k) (sip_Hash.gok k) Try.mix (c := Func.code Try.f15) (ann := sip_Hash.ann k) (tin := sip_Hash.tin) (tout := sip_Hash.tout) (fun x K => sip_Hash.c k x.1 x.2.1 K) Try.func15 (by kernel_rfl) (by kernel_rfl) AnnOK.nil (sip_Hash.body k)

/-! 14 bedrock/bedrocklaw03.awake -/
def bedrocklaw03_awake.c (k : Nat) {ρ : Type}  (K : Bool × Unit → Option ρ) : Option ρ :=
  (sip_Hash k ((506097522914230528 : Int), ((1084818905618843912 : Int), ())) (⟨(List.toArray [])⟩ : ByteArray)).bind fun t0 => K ((t0.1 == (8246050544436514353 : Int)), ())
def bedrocklaw03_awake (k : Nat)  : Option (Bool × Unit) := bedrocklaw03_awake.c k  some
def bedrocklaw03_awake.tin : List Ty := []
def bedrocklaw03_awake.tout : List Ty := [.bool]
def bedrocklaw03_awake.sem (k : Nat) : CallSem := callPure bedrocklaw03_awake.tin bedrocklaw03_awake.tout fun x => bedrocklaw03_awake k 
noncomputable def bedrocklaw03_awake.ctx (k : Nat) : Ctx := ⟨Try.prog, gam [(15, (sip_Hash.sem k))]⟩
theorem bedrocklaw03_awake.gok (k : Nat) : ∀ f, SemOK Try.prog f ((bedrocklaw03_awake.ctx k).Γ f) := (gam_cons (sip_Hash.sem_ok k) gam_nil)
def bedrocklaw03_awake.ann (k : Nat) : Ann := .nil
theorem bedrocklaw03_awake.body (k : Nat) : BodyIs (bedrocklaw03_awake.ctx k) Try.f14 (Func.code Try.f14) (bedrocklaw03_awake.ann k) bedrocklaw03_awake.tin bedrocklaw03_awake.tout (fun x K => bedrocklaw03_awake.c k  K) := by
  intro ρ x K; kernel_rfl
theorem bedrocklaw03_awake.sem_ok (k : Nat) : SemOK Try.prog 14 (bedrocklaw03_awake.sem k) :=
  callPure_ok (C := bedrocklaw03_awake.ctx k) (bedrocklaw03_awake.gok k) Try.mix (c := Func.code Try.f14) (ann := bedrocklaw03_awake.ann k) (tin := bedrocklaw03_awake.tin) (tout := bedrocklaw03_awake.tout) (fun x K => bedrocklaw03_awake.c k  K) Try.func14 (by kernel_rfl) (by kernel_rfl) AnnOK.nil (bedrocklaw03_awake.body k)

/-! 60 bedrock/bedrockref01.Low -/
abbrev bedrockref01_Low.l0.σ : Type := Int × Int × ByteArray × Int × Unit
abbrev bedrockref01_Low.l0.τ : Type := (ByteArray × Unit)
def bedrockref01_Low.l0.r (k : Nat) {ρ : Type} (x : bedrockref01_Low.l0.σ) (kn : bedrockref01_Low.l0.σ → Option ρ) (ke : bedrockref01_Low.l0.τ → Option ρ) : Option ρ :=
  bif (decide (x.2.2.2.1 < x.2.1)) then (let v0 : Int := (Int.tmod x.1 (256 : Int))
  let v1 : ByteArray := (bytesOf (List.set (List.replicate 1 (0 : Int)) 0 (IntKind.wrap IntKind.u8 v0)))
  bif (Nat.ble ((ByteArray.size x.2.2.1) + (ByteArray.size v1)) 9223372036854775807) then (let v2 : ByteArray := (x.2.2.1 ++ v1)
  let v3 : Int := (IntKind.wrap IntKind.u64 (Int.tdiv x.1 (256 : Int)))
  let v4 : Int := (IntKind.wrap IntKind.i64 (x.2.2.2.1 + (1 : Int)))
  kn (v3, (x.2.1, (v2, (v4, ()))))) else (none)) else (ke (x.2.2.1, ()))
def bedrockref01_Low.l0 (k : Nat) : Nat → bedrockref01_Low.l0.σ → Option bedrockref01_Low.l0.τ := loopJ (bedrockref01_Low.l0.r k)
def bedrockref01_Low.l0.T : StT := ⟨.dat (.int .u64) :: .dat (.int .i64) :: us 3 ++ .dat .str :: .dat (.int .i64) :: us 15, []⟩
def bedrockref01_Low.l0.os : List Out := [⟨(.exit 0), [.mask [5], .auto 0], ⟨us 5 ++ .dat .str :: us 16, []⟩⟩]
def bedrockref01_Low.c (k : Nat) {ρ : Type} (n : Int) (bytes : Int) (K : ByteArray × Unit → Option ρ) : Option ρ :=
  (bedrockref01_Low.l0 k k (n, (bytes, ((⟨(List.toArray [])⟩ : ByteArray), ((0 : Int), ()))))).bind fun t5 => K (t5.1, ())
def bedrockref01_Low (k : Nat) (n : Int) (bytes : Int) : Option (ByteArray × Unit) := bedrockref01_Low.c k n bytes some
def bedrockref01_Low.tin : List Ty := [(.int .u64), (.int .i64)]
def bedrockref01_Low.tout : List Ty := [.str]
def bedrockref01_Low.sem (k : Nat) : CallSem := callPure bedrockref01_Low.tin bedrockref01_Low.tout fun x => bedrockref01_Low k x.1 x.2.1
noncomputable def bedrockref01_Low.ctx (k : Nat) : Ctx := ⟨Try.prog, gam []⟩
theorem bedrockref01_Low.gok (k : Nat) : ∀ f, SemOK Try.prog f ((bedrockref01_Low.ctx k).Γ f) := gam_nil
theorem bedrockref01_Low.l0.round (k : Nat) : RoundIs (bedrockref01_Low.ctx k) (codeAt (Func.code Try.f60) [1, 1, 0, 1, 0, 0]) (.nil) bedrockref01_Low.l0.T [.mask [0, 1, 5, 6], .auto 0] bedrockref01_Low.l0.os (bedrockref01_Low.l0.r k) := by
  intro ρ x kn ke; kernel_rfl
theorem bedrockref01_Low.l0.ok (k : Nat) : StOK 0 Try.prog (.loop (codeAt (Func.code Try.f60) [1, 1, 0, 1, 0, 0])) (pieceSem bedrockref01_Low.l0.T bedrockref01_Low.l0.os (bedrockref01_Low.l0 k k)) :=
  loop_ok (C := bedrockref01_Low.ctx k) (bedrockref01_Low.gok k) Try.mix AnnOK.nil (by kernel_rfl) (by kernel_rfl) (by kernel_rfl) (bedrockref01_Low.l0.round k) k
def bedrockref01_Low.ann (k : Nat) : Ann := .node [] none (.nil) (.node [] none (.nil) (.node [] none (.node [] none (.nil) (.node [] none (.node [] (some (pieceSem bedrockref01_Low.l0.T bedrockref01_Low.l0.os (bedrockref01_Low.l0 k k))) .nil .nil) (.nil))) (.nil)))
theorem bedrockref01_Low.body (k : Nat) : BodyIs (bedrockref01_Low.ctx k) Try.f60 (Func.code Try.f60) (bedrockref01_Low.ann k) bedrockref01_Low.tin bedrockref01_Low.tout (fun x K => bedrockref01_Low.c k x.1 x.2.1 K) := by
  intro ρ x K; kernel_rfl
theorem bedrockref01_Low.sem_ok (k : Nat) : SemOK Try.prog 60 (bedrockref01_Low.sem k) :=
  callPure_ok (C := bedrockref01_Low.ctx k) (bedrockref01_Low.gok k) Try.mix (c := Func.code Try.f60) (ann := bedrockref01_Low.ann k) (tin := bedrockref01_Low.tin) (tout := bedrockref01_Low.tout) (fun x K => bedrockref01_Low.c k x.1 x.2.1 K) Try.func60 (by kernel_rfl) (by kernel_rfl) (AnnOK.seq AnnOK.nil (AnnOK.seq AnnOK.nil (AnnOK.seq (AnnOK.seq AnnOK.nil (AnnOK.block (AnnOK.loop (by kernel_rfl) (bedrockref01_Low.l0.ok k)))) AnnOK.nil))) (bedrockref01_Low.body k)

/-! 113 bedrock/bedrockref02.Pad -/
abbrev bedrockref02_Pad.l0.σ : Type := Int × (List Int) × Unit
abbrev bedrockref02_Pad.l0.τ : Type := (Int × (List Int) × Unit)
def bedrockref02_Pad.l0.r (k : Nat) {ρ : Type} (x : bedrockref02_Pad.l0.σ) (kn : bedrockref02_Pad.l0.σ → Option ρ) (ke : bedrockref02_Pad.l0.τ → Option ρ) : Option ρ :=
  let v0 : Int := (((List.length x.2.1) : Nat) : Int)
  let v1 : Int := (IntKind.wrap IntKind.u64 (x.1 + (IntKind.wrap IntKind.u64 v0)))
  bif ((Int.tmod v1 (64 : Int)) != (56 : Int)) then (bif (Nat.ble (((List.length x.2.1) + 1) * 1) 140737488355328) then (kn (x.1, ((x.2.1 ++ (List.set (List.replicate 1 (0 : Int)) 0 (0 : Int))), ()))) else (none)) else (ke (x.1, (x.2.1, ())))
def bedrockref02_Pad.l0 (k : Nat) : Nat → bedrockref02_Pad.l0.σ → Option bedrockref02_Pad.l0.τ := loopJ (bedrockref02_Pad.l0.r k)
def bedrockref02_Pad.l0.T : StT := ⟨.dat (.int .u64) :: us 2 ++ .vsl 0 :: us 29, [.vec (.int .u8)]⟩
def bedrockref02_Pad.l0.os : List Out := [⟨(.exit 0), [.mask [0, 3], .auto 0], ⟨.dat (.int .u64) :: us 2 ++ .vsl 0 :: us 29, [.vec (.int .u8)]⟩⟩]
abbrev bedrockref02_Pad.l1.σ : Type := Int × Int × (List Int) × Unit
abbrev bedrockref02_Pad.l1.τ : Type := ((List Int) × Unit)
def bedrockref02_Pad.l1.r (k : Nat) {ρ : Type} (x : bedrockref02_Pad.l1.σ) (kn : bedrockref02_Pad.l1.σ → Option ρ) (ke : bedrockref02_Pad.l1.τ → Option ρ) : Option ρ :=
  bif (decide (x.2.1 ≥ (0 : Int))) then (let v4 : Int := (IntKind.wrap IntKind.i64 ((8 : Int) * x.2.1))
  bif (decide ((0 : Int) ≤ v4)) then (let v5 : Int := (shrOp IntKind.u64 x.1 v4)
  bif (Nat.ble (((List.length x.2.2.1) + (List.length (List.set (List.replicate 1 (0 : Int)) 0 (IntKind.wrap IntKind.u8 v5)))) * 1) 140737488355328) then (let v6 : Int := (IntKind.wrap IntKind.i64 (x.2.1 - (1 : Int)))
  kn (x.1, (v6, ((x.2.2.1 ++ (List.set (List.replicate 1 (0 : Int)) 0 (IntKind.wrap IntKind.u8 v5))), ())))) else (none)) else (none)) else (ke (x.2.2.1, ()))
def bedrockref02_Pad.l1 (k : Nat) : Nat → bedrockref02_Pad.l1.σ → Option bedrockref02_Pad.l1.τ := loopJ (bedrockref02_Pad.l1.r k)
def bedrockref02_Pad.l1.T : StT := ⟨us 3 ++ .vsl 0 :: .dat (.int .u64) :: .dat (.int .i64) :: us 27, [.vec (.int .u8)]⟩
def bedrockref02_Pad.l1.os : List Out := [⟨(.exit 2), [.mask [3], .auto 0], ⟨us 3 ++ .vsl 0 :: us 29, [.vec (.int .u8)]⟩⟩]
def bedrockref02_Pad.c (k : Nat) {ρ : Type} (n : Int) (K : ByteArray × Unit → Option ρ) : Option ρ :=
  (bedrockref02_Pad.l0 k k (n, ((List.set (List.replicate 1 (0 : Int)) 0 (128 : Int)), ()))).bind fun t2 => let v3 : Int := (IntKind.wrap IntKind.u64 ((8 : Int) * t2.1))
  (bedrockref02_Pad.l1 k k (v3, ((7 : Int), (t2.2.1, ())))).bind fun t7 => K ((bytesOf t7.1), ())
def bedrockref02_Pad (k : Nat) (n : Int) : Option (ByteArray × Unit) := bedrockref02_Pad.c k n some
def bedrockref02_Pad.tin : List Ty := [(.int .u64)]
def bedrockref02_Pad.tout : List Ty := [.str]
def bedrockref02_Pad.sem (k : Nat) : CallSem := callPure bedrockref02_Pad.tin bedrockref02_Pad.tout fun x => bedrockref02_Pad k x.1
noncomputable def bedrockref02_Pad.ctx (k : Nat) : Ctx := ⟨Try.prog, gam []⟩
theorem bedrockref02_Pad.gok (k : Nat) : ∀ f, SemOK Try.prog f ((bedrockref02_Pad.ctx k).Γ f) := gam_nil
theorem bedrockref02_Pad.l0.round (k : Nat) : RoundIs (bedrockref02_Pad.ctx k) (codeAt (Func.code Try.f113) [1, 1, 0, 0, 0]) (.nil) bedrockref02_Pad.l0.T [.mask [0, 3], .auto 0] bedrockref02_Pad.l0.os (bedrockref02_Pad.l0.r k) := by
  intro ρ x kn ke; kernel_rfl
theorem bedrockref02_Pad.l0.ok (k : Nat) : StOK 0 Try.prog (.loop (codeAt (Func.code Try.f113) [1, 1, 0, 0, 0])) (pieceSem bedrockref02_Pad.l0.T bedrockref02_Pad.l0.os (bedrockref02_Pad.l0 k k)) :=
  loop_ok (C := bedrockref02_Pad.ctx k) (bedrockref02_Pad.gok k) Try.mix AnnOK.nil (by kernel_rfl) (by kernel_rfl) (by kernel_rfl) (bedrockref02_Pad.l0.round k) k
theorem bedrockref02_Pad.l1.round (k : Nat) : RoundIs (bedrockref02_Pad.ctx k) (codeAt (Func.code Try.f113) [1, 1, 1, 1, 0, 1, 0, 0]) (.nil) bedrockref02_Pad.l1.T [.mask [3, 4, 5], .auto 0] bedrockref02_Pad.l1.os (bedrockref02_Pad.l1.r k) := by
  intro ρ x kn ke; kernel_rfl
theorem bedrockref02_Pad.l1.ok (k : Nat) : StOK 0 Try.prog (.loop (codeAt (Func.code Try.f113) [1, 1, 1, 1, 0, 1, 0, 0])) (pieceSem bedrockref02_Pad.l1.T bedrockref02_Pad.l1.os (bedrockref02_Pad.l1 k k)) :=
  loop_ok (C := bedrockref02_Pad.ctx k) (bedrockref02_Pad.gok k) Try.mix AnnOK.nil (by kernel_rfl) (by kernel_rfl) (by kernel_rfl) (bedrockref02_Pad.l1.round k) k
def bedrockref02_Pad.ann (k : Nat) : Ann := .node [] none (.nil) (.node [] none (.nil) (.node [] none (.node [] none (.node [.mask [0, 3], .auto 0] (some (pieceSem bedrockref02_Pad.l0.T bedrockref02_Pad.l0.os (bedrockref02_Pad.l0 k k))) .nil .nil) (.nil)) (.node [] none (.nil) (.node [] none (.node [] none (.nil) (.node [] none (.node [.mask [3, 4, 5], .auto 0] (some (pieceSem bedrockref02_Pad.l1.T bedrockref02_Pad.l1.os (bedrockref02_Pad.l1 k k))) .nil .nil) (.nil))) (.nil)))))
theorem bedrockref02_Pad.body (k : Nat) : BodyIs (bedrockref02_Pad.ctx k) Try.f113 (Func.code Try.f113) (bedrockref02_Pad.ann k) bedrockref02_Pad.tin bedrockref02_Pad.tout (fun x K => bedrockref02_Pad.c k x.1 K) := by
  intro ρ x K; kernel_rfl
theorem bedrockref02_Pad.sem_ok (k : Nat) : SemOK Try.prog 113 (bedrockref02_Pad.sem k) :=
  callPure_ok (C := bedrockref02_Pad.ctx k) (bedrockref02_Pad.gok k) Try.mix (c := Func.code Try.f113) (ann := bedrockref02_Pad.ann k) (tin := bedrockref02_Pad.tin) (tout := bedrockref02_Pad.tout) (fun x K => bedrockref02_Pad.c k x.1 K) Try.func113 (by kernel_rfl) (by kernel_rfl) (AnnOK.seq AnnOK.nil (AnnOK.seq AnnOK.nil (AnnOK.seq (AnnOK.block (AnnOK.loop (by kernel_rfl) (bedrockref02_Pad.l0.ok k))) (AnnOK.seq AnnOK.nil (AnnOK.seq (AnnOK.seq AnnOK.nil (AnnOK.block (AnnOK.loop (by kernel_rfl) (bedrockref02_Pad.l1.ok k)))) AnnOK.nil))))) (bedrockref02_Pad.body k)

/-! 114 bedrock/bedrockref02.First -/
def bedrockref02_First.c (k : Nat) {ρ : Type}  (K : (List Int) × Unit → Option ρ) : Option ρ :=
  let v0 : (List Int) := (List.set (List.set (List.set (List.set (List.set (List.set (List.set (List.set (List.replicate 8 (0 : Int)) 0 (1779033703 : Int)) 1 (3144134277 : Int)) 2 (1013904242 : Int)) 3 (2773480762 : Int)) 4 (1359893119 : Int)) 5 (2600822924 : Int)) 6 (528734635 : Int)) 7 (1541459225 : Int))
  K (v0, ())
def bedrockref02_First (k : Nat)  : Option ((List Int) × Unit) := bedrockref02_First.c k  some
def bedrockref02_First.tin : List Ty := []
def bedrockref02_First.tout : List Ty := [(.arr 8 (.int .u32))]
def bedrockref02_First.sem (k : Nat) : CallSem := callPure bedrockref02_First.tin bedrockref02_First.tout fun x => bedrockref02_First k 
noncomputable def bedrockref02_First.ctx (k : Nat) : Ctx := ⟨Try.prog, gam []⟩
theorem bedrockref02_First.gok (k : Nat) : ∀ f, SemOK Try.prog f ((bedrockref02_First.ctx k).Γ f) := gam_nil
def bedrockref02_First.ann (k : Nat) : Ann := .nil
theorem bedrockref02_First.body (k : Nat) : BodyIs (bedrockref02_First.ctx k) Try.f114 (Func.code Try.f114) (bedrockref02_First.ann k) bedrockref02_First.tin bedrockref02_First.tout (fun x K => bedrockref02_First.c k  K) := by
  intro ρ x K; kernel_rfl
theorem bedrockref02_First.sem_ok (k : Nat) : SemOK Try.prog 114 (bedrockref02_First.sem k) :=
  callPure_ok (C := bedrockref02_First.ctx k) (bedrockref02_First.gok k) Try.mix (c := Func.code Try.f114) (ann := bedrockref02_First.ann k) (tin := bedrockref02_First.tin) (tout := bedrockref02_First.tout) (fun x K => bedrockref02_First.c k  K) Try.func114 (by kernel_rfl) (by kernel_rfl) AnnOK.nil (bedrockref02_First.body k)

/-! 126 bedrock/bedrockref02.constants -/
def bedrockref02_constants.c (k : Nat) {ρ : Type}  (K : (List Int) × Unit → Option ρ) : Option ρ :=
  let v0 : (List Int) := (List.set (List.set (List.set (List.set (List.set (List.set (List.set (List.set (List.set (List.set (List.set (List.set (List.set (List.set (List.set (List.set (List.set (List.set (List.set (List.set (List.set (List.set (List.set (List.set (List.set (List.set (List.set (List.set (List.set (List.set (List.set (List.set (List.set (List.set (List.set (List.set (List.set (List.set (List.set (List.set (List.set (List.set (List.set (List.set (List.set (List.set (List.set (List.set (List.set (List.set (List.set (List.set (List.set (List.set (List.set (List.set (List.set (List.set (List.set (List.set (List.set (List.set (List.set (List.set (List.replicate 64 (0 : Int)) 0 (1116352408 : Int)) 1 (1899447441 : Int)) 2 (3049323471 : Int)) 3 (3921009573 : Int)) 4 (961987163 : Int)) 5 (1508970993 : Int)) 6 (2453635748 : Int)) 7 (2870763221 : Int)) 8 (3624381080 : Int)) 9 (310598401 : Int)) 10 (607225278 : Int)) 11 (1426881987 : Int)) 12 (1925078388 : Int)) 13 (2162078206 : Int)) 14 (2614888103 : Int)) 15 (3248222580 : Int)) 16 (3835390401 : Int)) 17 (4022224774 : Int)) 18 (264347078 : Int)) 19 (604807628 : Int)) 20 (770255983 : Int)) 21 (1249150122 : Int)) 22 (1555081692 : Int)) 23 (1996064986 : Int)) 24 (2554220882 : Int)) 25 (2821834349 : Int)) 26 (2952996808 : Int)) 27 (3210313671 : Int)) 28 (3336571891 : Int)) 29 (3584528711 : Int)) 30 (113926993 : Int)) 31 (338241895 : Int)) 32 (666307205 : Int)) 33 (773529912 : Int)) 34 (1294757372 : Int)) 35 (1396182291 : Int)) 36 (1695183700 : Int)) 37 (1986661051 : Int)) 38 (2177026350 : Int)) 39 (2456956037 : Int)) 40 (2730485921 : Int)) 41 (2820302411 : Int)) 42 (3259730800 : Int)) 43 (3345764771 : Int)) 44 (3516065817 : Int)) 45 (3600352804 : Int)) 46 (4094571909 : Int)) 47 (275423344 : Int)) 48 (430227734 : Int)) 49 (506948616 : Int)) 50 (659060556 : Int)) 51 (883997877 : Int)) 52 (958139571 : Int)) 53 (1322822218 : Int)) 54 (1537002063 : Int)) 55 (1747873779 : Int)) 56 (1955562222 : Int)) 57 (2024104815 : Int)) 58 (2227730452 : Int)) 59 (2361852424 : Int)) 60 (2428436474 : Int)) 61 (2756734187 : Int)) 62 (3204031479 : Int)) 63 (3329325298 : Int))
  K (v0, ())
def bedrockref02_constants (k : Nat)  : Option ((List Int) × Unit) := bedrockref02_constants.c k  some
def bedrockref02_constants.tin : List Ty := []
def bedrockref02_constants.tout : List Ty := [(.arr 64 (.int .u32))]
def bedrockref02_constants.sem (k : Nat) : CallSem := callPure bedrockref02_constants.tin bedrockref02_constants.tout fun x => bedrockref02_constants k 
noncomputable def bedrockref02_constants.ctx (k : Nat) : Ctx := ⟨Try.prog, gam []⟩
theorem bedrockref02_constants.gok (k : Nat) : ∀ f, SemOK Try.prog f ((bedrockref02_constants.ctx k).Γ f) := gam_nil
def bedrockref02_constants.ann (k : Nat) : Ann := .nil
theorem bedrockref02_constants.body (k : Nat) : BodyIs (bedrockref02_constants.ctx k) Try.f126 (Func.code Try.f126) (bedrockref02_constants.ann k) bedrockref02_constants.tin bedrockref02_constants.tout (fun x K => bedrockref02_constants.c k  K) := by
  intro ρ x K; kernel_rfl
theorem bedrockref02_constants.sem_ok (k : Nat) : SemOK Try.prog 126 (bedrockref02_constants.sem k) :=
  callPure_ok (C := bedrockref02_constants.ctx k) (bedrockref02_constants.gok k) Try.mix (c := Func.code Try.f126) (ann := bedrockref02_constants.ann k) (tin := bedrockref02_constants.tin) (tout := bedrockref02_constants.tout) (fun x K => bedrockref02_constants.c k  K) Try.func126 (by kernel_rfl) (by kernel_rfl) AnnOK.nil (bedrockref02_constants.body k)

/-! 127 bedrock/bedrockref02.turn -/
def bedrockref02_turn.c (k : Nat) {ρ : Type} (n : Int) (by_1 : Int) (K : Int × Unit → Option ρ) : Option ρ :=
  bif (decide ((0 : Int) ≤ by_1)) then (let v0 : Int := (IntKind.wrap IntKind.i64 ((32 : Int) - by_1))
  bif (decide ((0 : Int) ≤ v0)) then (let v1 : Int := (bitsOp BinOp.or IntKind.u32 (shrOp IntKind.u32 n by_1) (shlOp IntKind.u32 n v0))
  K (v1, ())) else (none)) else (none)
def bedrockref02_turn (k : Nat) (n : Int) (by_1 : Int) : Option (Int × Unit) := bedrockref02_turn.c k n by_1 some
def bedrockref02_turn.tin : List Ty := [(.int .u32), (.int .i64)]
def bedrockref02_turn.tout : List Ty := [(.int .u32)]
def bedrockref02_turn.sem (k : Nat) : CallSem := callPure bedrockref02_turn.tin bedrockref02_turn.tout fun x => bedrockref02_turn k x.1 x.2.1
noncomputable def bedrockref02_turn.ctx (k : Nat) : Ctx := ⟨Try.prog, gam []⟩
theorem bedrockref02_turn.gok (k : Nat) : ∀ f, SemOK Try.prog f ((bedrockref02_turn.ctx k).Γ f) := gam_nil
def bedrockref02_turn.ann (k : Nat) : Ann := .nil
theorem bedrockref02_turn.body (k : Nat) : BodyIs (bedrockref02_turn.ctx k) Try.f127 (Func.code Try.f127) (bedrockref02_turn.ann k) bedrockref02_turn.tin bedrockref02_turn.tout (fun x K => bedrockref02_turn.c k x.1 x.2.1 K) := by
  intro ρ x K; kernel_rfl
theorem bedrockref02_turn.sem_ok (k : Nat) : SemOK Try.prog 127 (bedrockref02_turn.sem k) :=
  callPure_ok (C := bedrockref02_turn.ctx k) (bedrockref02_turn.gok k) Try.mix (c := Func.code Try.f127) (ann := bedrockref02_turn.ann k) (tin := bedrockref02_turn.tin) (tout := bedrockref02_turn.tout) (fun x K => bedrockref02_turn.c k x.1 x.2.1 K) Try.func127 (by kernel_rfl) (by kernel_rfl) AnnOK.nil (bedrockref02_turn.body k)

/-! 115 bedrock/bedrockref02.Step -/
abbrev bedrockref02_Step.l0.σ : Type := Int × (List Int) × (List Int) × (List Int) × (List Int) × (List Int) × Unit
abbrev bedrockref02_Step.l0.τ : Type := ((List Int) × (List Int) × (List Int) × (List Int) × Unit)
def bedrockref02_Step.l0.r (k : Nat) {ρ : Type} (x : bedrockref02_Step.l0.σ) (kn : bedrockref02_Step.l0.σ → Option ρ) (ke : bedrockref02_Step.l0.τ → Option ρ) : Option ρ :=
  bif (decide (x.1 < (64 : Int))) then (bif (decide (x.1 < (16 : Int))) then (let v2 : Int := (IntKind.wrap IntKind.i64 ((4 : Int) * x.1))
  bif (decide (((0 : Int) ≤ v2) ∧ (v2 < ((64 : Nat) : Int)))) then (let v3 : Int := (List.getD x.2.2.1 (Int.toNat v2) (0 : Int))
  let v4 : Int := (shlOp IntKind.u32 (IntKind.wrap IntKind.u32 v3) (24 : Int))
  let v5 : Int := (IntKind.wrap IntKind.i64 ((4 : Int) * x.1))
  let v6 : Int := (IntKind.wrap IntKind.i64 (v5 + (1 : Int)))
  bif (decide (((0 : Int) ≤ v6) ∧ (v6 < ((64 : Nat) : Int)))) then (let v7 : Int := (List.getD x.2.2.1 (Int.toNat v6) (0 : Int))
  let v8 : Int := (shlOp IntKind.u32 (IntKind.wrap IntKind.u32 v7) (16 : Int))
  let v9 : Int := (IntKind.wrap IntKind.i64 ((4 : Int) * x.1))
  let v10 : Int := (IntKind.wrap IntKind.i64 (v9 + (2 : Int)))
  bif (decide (((0 : Int) ≤ v10) ∧ (v10 < ((64 : Nat) : Int)))) then (let v11 : Int := (List.getD x.2.2.1 (Int.toNat v10) (0 : Int))
  let v12 : Int := (shlOp IntKind.u32 (IntKind.wrap IntKind.u32 v11) (8 : Int))
  let v13 : Int := (bitsOp BinOp.or IntKind.u32 (bitsOp BinOp.or IntKind.u32 v4 v8) v12)
  let v14 : Int := (IntKind.wrap IntKind.i64 ((4 : Int) * x.1))
  let v15 : Int := (IntKind.wrap IntKind.i64 (v14 + (3 : Int)))
  bif (decide (((0 : Int) ≤ v15) ∧ (v15 < ((64 : Nat) : Int)))) then (let v16 : Int := (List.getD x.2.2.1 (Int.toNat v15) (0 : Int))
  bif (decide (((0 : Int) ≤ x.1) ∧ (x.1 < ((64 : Nat) : Int)))) then (let v17 : Int := (IntKind.wrap IntKind.i64 (x.1 + (1 : Int)))
  kn (v17, (x.2.1, (x.2.2.1, (x.2.2.2.1, (x.2.2.2.2.1, ((List.set x.2.2.2.2.2.1 (Int.toNat x.1) (bitsOp BinOp.or IntKind.u32 v13 (IntKind.wrap IntKind.u32 v16))), ()))))))) else (none)) else (none)) else (none)) else (none)) else (none)) else (let v18 : Int := (IntKind.wrap IntKind.i64 (x.1 - (15 : Int)))
  bif (decide (((0 : Int) ≤ v18) ∧ (v18 < ((64 : Nat) : Int)))) then (let v19 : Int := (List.getD x.2.2.2.2.2.1 (Int.toNat v18) (0 : Int))
  let v20 : Int := (IntKind.wrap IntKind.i64 (x.1 - (2 : Int)))
  bif (decide (((0 : Int) ≤ v20) ∧ (v20 < ((64 : Nat) : Int)))) then (let v21 : Int := (List.getD x.2.2.2.2.2.1 (Int.toNat v20) (0 : Int))
  (bedrockref02_turn k v21 (17 : Int)).bind fun t22 => (bedrockref02_turn k v21 (19 : Int)).bind fun t23 => let v24 : Int := (bitsOp BinOp.xor IntKind.u32 t22.1 t23.1)
  let v25 : Int := (shrOp IntKind.u32 v21 (10 : Int))
  let v26 : Int := (IntKind.wrap IntKind.i64 (x.1 - (7 : Int)))
  bif (decide (((0 : Int) ≤ v26) ∧ (v26 < ((64 : Nat) : Int)))) then (let v27 : Int := (List.getD x.2.2.2.2.2.1 (Int.toNat v26) (0 : Int))
  let v28 : Int := (IntKind.wrap IntKind.u32 ((bitsOp BinOp.xor IntKind.u32 v24 v25) + v27))
  (bedrockref02_turn k v19 (7 : Int)).bind fun t29 => (bedrockref02_turn k v19 (18 : Int)).bind fun t30 => let v31 : Int := (bitsOp BinOp.xor IntKind.u32 t29.1 t30.1)
  let v32 : Int := (shrOp IntKind.u32 v19 (3 : Int))
  let v33 : Int := (IntKind.wrap IntKind.u32 (v28 + (bitsOp BinOp.xor IntKind.u32 v31 v32)))
  let v34 : Int := (IntKind.wrap IntKind.i64 (x.1 - (16 : Int)))
  bif (decide (((0 : Int) ≤ v34) ∧ (v34 < ((64 : Nat) : Int)))) then (let v35 : Int := (List.getD x.2.2.2.2.2.1 (Int.toNat v34) (0 : Int))
  let v36 : Int := (IntKind.wrap IntKind.u32 (v33 + v35))
  bif (decide (((0 : Int) ≤ x.1) ∧ (x.1 < ((64 : Nat) : Int)))) then (let v37 : Int := (IntKind.wrap IntKind.i64 (x.1 + (1 : Int)))
  kn (v37, (x.2.1, (x.2.2.1, (x.2.2.2.1, (x.2.2.2.2.1, ((List.set x.2.2.2.2.2.1 (Int.toNat x.1) v36), ()))))))) else (none)) else (none)) else (none)) else (none)) else (none))) else (ke (x.2.1, (x.2.2.2.1, (x.2.2.2.2.1, (x.2.2.2.2.2.1, ())))))
def bedrockref02_Step.l0 (k : Nat) : Nat → bedrockref02_Step.l0.σ → Option bedrockref02_Step.l0.τ := loopJ (bedrockref02_Step.l0.r k)
def bedrockref02_Step.l0.T : StT := ⟨us 2 ++ .ptr 0 [] :: .ptr 1 [] :: .ptr 2 [] :: .ptr 3 [] :: .ptr 4 [] :: .dat (.int .i64) :: us 181, [.dat (.arr 8 (.int .u32)), .dat (.arr 64 (.int .u8)), .dat (.arr 8 (.int .u32)), .dat (.arr 64 (.int .u32)), .dat (.arr 64 (.int .u32))]⟩
def bedrockref02_Step.l0.os : List Out := [⟨(.exit 0), [.mask [2, 4, 5, 6], .auto 0], ⟨us 2 ++ .ptr 0 [] :: us 1 ++ .ptr 1 [] :: .ptr 2 [] :: .ptr 3 [] :: us 182, [.dat (.arr 8 (.int .u32)), .dat (.arr 8 (.int .u32)), .dat (.arr 64 (.int .u32)), .dat (.arr 64 (.int .u32))]⟩⟩]
abbrev bedrockref02_Step.l1.σ : Type := Int × (List Int) × (List Int) × (List Int) × (List Int) × (List Int) × Unit
abbrev bedrockref02_Step.l1.τ : Type := ((List Int) × (List Int) × (List Int) × Unit)
def bedrockref02_Step.l1.r (k : Nat) {ρ : Type} (x : bedrockref02_Step.l1.σ) (kn : bedrockref02_Step.l1.σ → Option ρ) (ke : bedrockref02_Step.l1.τ → Option ρ) : Option ρ :=
  bif (decide (x.1 < (64 : Int))) then (let v40 : Int := (List.getD x.2.2.2.2.2.1 4 (0 : Int))
  let v41 : Int := (List.getD x.2.2.2.2.2.1 0 (0 : Int))
  let v42 : Int := (List.getD x.2.2.2.2.2.1 7 (0 : Int))
  (bedrockref02_turn k v40 (6 : Int)).bind fun t43 => (bedrockref02_turn k v40 (11 : Int)).bind fun t44 => let v45 : Int := (bitsOp BinOp.xor IntKind.u32 t43.1 t44.1)
  (bedrockref02_turn k v40 (25 : Int)).bind fun t46 => let v47 : Int := (bitsOp BinOp.xor IntKind.u32 v45 t46.1)
  let v48 : Int := (IntKind.wrap IntKind.u32 (v42 + v47))
  let v49 : Int := (List.getD x.2.2.2.2.2.1 5 (0 : Int))
  let v50 : Int := (IntKind.wrap IntKind.u32 ((4294967295 : Int) - v40))
  let v51 : Int := (List.getD x.2.2.2.2.2.1 6 (0 : Int))
  let v52 : Int := (bitsOp BinOp.xor IntKind.u32 (bitsOp BinOp.and IntKind.u32 v40 v49) (bitsOp BinOp.and IntKind.u32 v50 v51))
  let v53 : Int := (IntKind.wrap IntKind.u32 (v48 + v52))
  bif (decide (((0 : Int) ≤ x.1) ∧ (x.1 < ((64 : Nat) : Int)))) then (let v54 : Int := (List.getD x.2.2.2.1 (Int.toNat x.1) (0 : Int))
  let v55 : Int := (IntKind.wrap IntKind.u32 (v53 + v54))
  bif (decide (((0 : Int) ≤ x.1) ∧ (x.1 < ((64 : Nat) : Int)))) then (let v56 : Int := (List.getD x.2.2.2.2.1 (Int.toNat x.1) (0 : Int))
  let v57 : Int := (IntKind.wrap IntKind.u32 (v55 + v56))
  (bedrockref02_turn k v41 (2 : Int)).bind fun t58 => (bedrockref02_turn k v41 (13 : Int)).bind fun t59 => let v60 : Int := (bitsOp BinOp.xor IntKind.u32 t58.1 t59.1)
  (bedrockref02_turn k v41 (22 : Int)).bind fun t61 => let v62 : Int := (bitsOp BinOp.xor IntKind.u32 v60 t61.1)
  let v63 : Int := (List.getD x.2.2.2.2.2.1 1 (0 : Int))
  let v64 : Int := (List.getD x.2.2.2.2.2.1 2 (0 : Int))
  let v65 : Int := (bitsOp BinOp.xor IntKind.u32 (bitsOp BinOp.and IntKind.u32 v41 v63) (bitsOp BinOp.and IntKind.u32 v41 v64))
  let v66 : Int := (List.getD x.2.2.2.2.2.1 1 (0 : Int))
  let v67 : Int := (List.getD x.2.2.2.2.2.1 2 (0 : Int))
  let v68 : Int := (bitsOp BinOp.xor IntKind.u32 v65 (bitsOp BinOp.and IntKind.u32 v66 v67))
  let v69 : Int := (IntKind.wrap IntKind.u32 (v62 + v68))
  let v70 : Int := (IntKind.wrap IntKind.u32 (v57 + v69))
  let v71 : Int := (List.getD x.2.2.2.2.2.1 0 (0 : Int))
  let v72 : Int := (List.getD x.2.2.2.2.2.1 1 (0 : Int))
  let v73 : Int := (List.getD x.2.2.2.2.2.1 2 (0 : Int))
  let v74 : Int := (List.getD x.2.2.2.2.2.1 3 (0 : Int))
  let v75 : Int := (IntKind.wrap IntKind.u32 (v74 + v57))
  let v76 : Int := (List.getD x.2.2.2.2.2.1 4 (0 : Int))
  let v77 : Int := (List.getD x.2.2.2.2.2.1 5 (0 : Int))
  let v78 : Int := (List.getD x.2.2.2.2.2.1 6 (0 : Int))
  let v79 : (List Int) := (List.set (List.set (List.set (List.set (List.set (List.set (List.set (List.set (List.replicate 8 (0 : Int)) 0 v70) 1 v71) 2 v72) 3 v73) 4 v75) 5 v76) 6 v77) 7 v78)
  let v80 : Int := (IntKind.wrap IntKind.i64 (x.1 + (1 : Int)))
  kn (v80, (x.2.1, (x.2.2.1, (x.2.2.2.1, (x.2.2.2.2.1, (v79, ()))))))) else (none)) else (none)) else (ke (x.2.1, (x.2.2.1, (x.2.2.2.2.2.1, ()))))
def bedrockref02_Step.l1 (k : Nat) : Nat → bedrockref02_Step.l1.σ → Option bedrockref02_Step.l1.τ := loopJ (bedrockref02_Step.l1.r k)
def bedrockref02_Step.l1.T : StT := ⟨us 2 ++ .ptr 0 [] :: us 1 ++ .ptr 1 [] :: .ptr 2 [] :: .ptr 3 [] :: us 3 ++ .ptr 4 [] :: .dat (.int .i64) :: us 177, [.dat (.arr 8 (.int .u32)), .dat (.arr 8 (.int .u32)), .dat (.arr 64 (.int .u32)), .dat (.arr 64 (.int .u32)), .dat (.arr 8 (.int .u32))]⟩
def bedrockref02_Step.l1.os : List Out := [⟨(.exit 2), [.mask [2, 4, 10], .auto 0], ⟨us 2 ++ .ptr 0 [] :: us 1 ++ .ptr 1 [] :: us 5 ++ .ptr 2 [] :: us 178, [.dat (.arr 8 (.int .u32)), .dat (.arr 8 (.int .u32)), .dat (.arr 8 (.int .u32))]⟩⟩]
abbrev bedrockref02_Step.l2.σ : Type := Int × (List Int) × (List Int) × (List Int) × Unit
abbrev bedrockref02_Step.l2.τ : Type := ((List Int) × (List Int) × Unit)
def bedrockref02_Step.l2.r (k : Nat) {ρ : Type} (x : bedrockref02_Step.l2.σ) (kn : bedrockref02_Step.l2.σ → Option ρ) (ke : bedrockref02_Step.l2.τ → Option ρ) : Option ρ :=
  bif (decide (x.1 < (8 : Int))) then (bif (decide (((0 : Int) ≤ x.1) ∧ (x.1 < ((8 : Nat) : Int)))) then (let v82 : Int := (List.getD x.2.1 (Int.toNat x.1) (0 : Int))
  bif (decide (((0 : Int) ≤ x.1) ∧ (x.1 < ((8 : Nat) : Int)))) then (let v83 : Int := (List.getD x.2.2.2.1 (Int.toNat x.1) (0 : Int))
  let v84 : Int := (IntKind.wrap IntKind.u32 (v82 + v83))
  bif (decide (((0 : Int) ≤ x.1) ∧ (x.1 < ((8 : Nat) : Int)))) then (let v85 : Int := (IntKind.wrap IntKind.i64 (x.1 + (1 : Int)))
  kn (v85, ((List.set x.2.1 (Int.toNat x.1) v84), (x.2.2.1, (x.2.2.2.1, ()))))) else (none)) else (none)) else (none)) else (ke (x.2.1, (x.2.2.1, ())))
def bedrockref02_Step.l2 (k : Nat) : Nat → bedrockref02_Step.l2.σ → Option bedrockref02_Step.l2.τ := loopJ (bedrockref02_Step.l2.r k)
def bedrockref02_Step.l2.T : StT := ⟨us 2 ++ .ptr 0 [] :: us 1 ++ .ptr 1 [] :: us 5 ++ .ptr 2 [] :: us 5 ++ .dat (.int .i64) :: us 172, [.dat (.arr 8 (.int .u32)), .dat (.arr 8 (.int .u32)), .dat (.arr 8 (.int .u32))]⟩
def bedrockref02_Step.l2.os : List Out := [⟨(.exit 4), [.mask [2, 4], .auto 0], ⟨us 2 ++ .ptr 0 [] :: us 1 ++ .ptr 1 [] :: us 184, [.dat (.arr 8 (.int .u32)), .dat (.arr 8 (.int .u32))]⟩⟩]
def bedrockref02_Step.c (k : Nat) {ρ : Type} (s : (List Int)) (block : (List Int)) (K : (List Int) × Unit → Option ρ) : Option ρ :=
  (bedrockref02_constants k ).bind fun t0 => let v1 : (List Int) := (List.replicate 64 (0 : Int))
  (bedrockref02_Step.l0 k k ((0 : Int), (s, (block, ((List.replicate 8 (0 : Int)), (t0.1, (v1, ()))))))).bind fun t38 => let v39 : (List Int) := t38.1
  (bedrockref02_Step.l1 k k ((0 : Int), (t38.1, (t38.2.1, (t38.2.2.1, (t38.2.2.2.1, (v39, ()))))))).bind fun t81 => (bedrockref02_Step.l2 k k ((0 : Int), (t81.1, (t81.2.1, (t81.2.2.1, ()))))).bind fun t86 => let v87 : (List Int) := t86.1
  K (v87, ())
def bedrockref02_Step (k : Nat) (s : (List Int)) (block : (List Int)) : Option ((List Int) × Unit) := bedrockref02_Step.c k s block some
def bedrockref02_Step.tin : List Ty := [(.arr 8 (.int .u32)), (.arr 64 (.int .u8))]
def bedrockref02_Step.tout : List Ty := [(.arr 8 (.int .u32))]
def bedrockref02_Step.sem (k : Nat) : CallSem := callPure bedrockref02_Step.tin bedrockref02_Step.tout fun x => bedrockref02_Step k x.1 x.2.1
noncomputable def bedrockref02_Step.ctx (k : Nat) : Ctx := ⟨Try.prog, gam [(126, (bedrockref02_constants.sem k)), (127, (bedrockref02_turn.sem k))]⟩
theorem bedrockref02_Step.gok (k : Nat) : ∀ f, SemOK Try.prog f ((bedrockref02_Step.ctx k).Γ f) := (gam_cons (bedrockref02_constants.sem_ok k) (gam_cons (bedrockref02_turn.sem_ok k) gam_nil))
theorem bedrockref02_Step.l0.round (k : Nat) : RoundIs (bedrockref02_Step.ctx k) (codeAt (Func.code Try.f115) [1, 1, 1, 0, 1, 0, 0]) (.nil) bedrockref02_Step.l0.T [.mask [2, 3, 4, 5, 6, 7], .auto 0] bedrockref02_Step.l0.os (bedrockref02_Step.l0.r k) := by
  intro ρ x kn ke; kernel_rfl
theorem bedrockref02_Step.l0.ok (k : Nat) : StOK 0 Try.prog (.loop (codeAt (Func.code Try.f115) [1, 1, 1, 0, 1, 0, 0])) (pieceSem bedrockref02_Step.l0.T bedrockref02_Step.l0.os (bedrockref02_Step.l0 k k)) :=
  loop_ok (C := bedrockref02_Step.ctx k) (bedrockref02_Step.gok k) Try.mix AnnOK.nil (by kernel_rfl) (by kernel_rfl) (by kernel_rfl) (bedrockref02_Step.l0.round k) k
theorem bedrockref02_Step.l1.round (k : Nat) : RoundIs (bedrockref02_Step.ctx k) (codeAt (Func.code Try.f115) [1, 1, 1, 1, 1, 0, 1, 0, 0]) (.nil) bedrockref02_Step.l1.T [.mask [2, 4, 5, 6, 10, 11], .auto 0] bedrockref02_Step.l1.os (bedrockref02_Step.l1.r k) := by
  intro ρ x kn ke; kernel_rfl
theorem bedrockref02_Step.l1.ok (k : Nat) : StOK 0 Try.prog (.loop (codeAt (Func.code Try.f115) [1, 1, 1, 1, 1, 0, 1, 0, 0])) (pieceSem bedrockref02_Step.l1.T bedrockref02_Step.l1.os (bedrockref02_Step.l1 k k)) :=
  loop_ok (C := bedrockref02_Step.ctx k) (bedrockref02_Step.gok k) Try.mix AnnOK.nil (by kernel_rfl) (by kernel_rfl) (by kernel_rfl) (bedrockref02_Step.l1.round k) k
theorem bedrockref02_Step.l2.round (k : Nat) : RoundIs (bedrockref02_Step.ctx k) (codeAt (Func.code Try.f115) [1, 1, 1, 1, 1, 1, 0, 1, 0, 0]) (.nil) bedrockref02_Step.l2.T [.mask [2, 4, 10, 16], .auto 0] bedrockref02_Step.l2.os (bedrockref02_Step.l2.r k) := by
  intro ρ x kn ke; kernel_rfl
theorem bedrockref02_Step.l2.ok (k : Nat) : StOK 0 Try.prog (.loop (codeAt (Func.code Try.f115) [1, 1, 1, 1, 1, 1, 0, 1, 0, 0])) (pieceSem bedrockref02_Step.l2.T bedrockref02_Step.l2.os (bedrockref02_Step.l2 k k)) :=
  loop_ok (C := bedrockref02_Step.ctx k) (bedrockref02_Step.gok k) Try.mix AnnOK.nil (by kernel_rfl) (by kernel_rfl) (by kernel_rfl) (bedrockref02_Step.l2.round k) k
def bedrockref02_Step.ann (k : Nat) : Ann := .node [] none (.nil) (.node [] none (.nil) (.node [] none (.nil) (.node [] none (.node [] none (.nil) (.node [] none (.node [.mask [2, 3, 4, 5, 6, 7], .auto 0] (some (pieceSem bedrockref02_Step.l0.T bedrockref02_Step.l0.os (bedrockref02_Step.l0 k k))) .nil .nil) (.nil))) (.node [] none (.nil) (.node [] none (.node [] none (.nil) (.node [] none (.node [.mask [2, 4, 5, 6, 10, 11], .auto 0] (some (pieceSem bedrockref02_Step.l1.T bedrockref02_Step.l1.os (bedrockref02_Step.l1 k k))) .nil .nil) (.nil))) (.node [] none (.node [] none (.nil) (.node [] none (.node [.mask [2, 4, 10, 16], .auto 0] (some (pieceSem bedrockref02_Step.l2.T bedrockref02_Step.l2.os (bedrockref02_Step.l2 k k))) .nil .nil) (.nil))) (.nil)))))))
theorem bedrockref02_Step.body (k : Nat) : BodyIs (bedrockref02_Step.ctx k) Try.f115 (Func.code Try.f115) (bedrockref02_Step.ann k) bedrockref02_Step.tin bedrockref02_Step.tout (fun x K => bedrockref02_Step.c k x.1 x.2.1 K) := by
  intro ρ x K; kernel_rfl
theorem bedrockref02_Step.sem_ok (k : Nat) : SemOK Try.prog 115 (bedrockref02_Step.sem k) :=
  callPure_ok (C := bedrockref02_Step.ctx k) (bedrockref02_Step.gok k) Try.mix (c := Func.code Try.f115) (ann := bedrockref02_Step.ann k) (tin := bedrockref02_Step.tin) (tout := bedrockref02_Step.tout) (fun x K => bedrockref02_Step.c k x.1 x.2.1 K) Try.func115 (by kernel_rfl) (by kernel_rfl) (AnnOK.seq AnnOK.nil (AnnOK.seq AnnOK.nil (AnnOK.seq AnnOK.nil (AnnOK.seq (AnnOK.seq AnnOK.nil (AnnOK.block (AnnOK.loop (by kernel_rfl) (bedrockref02_Step.l0.ok k)))) (AnnOK.seq AnnOK.nil (AnnOK.seq (AnnOK.seq AnnOK.nil (AnnOK.block (AnnOK.loop (by kernel_rfl) (bedrockref02_Step.l1.ok k)))) (AnnOK.seq (AnnOK.seq AnnOK.nil (AnnOK.block (AnnOK.loop (by kernel_rfl) (bedrockref02_Step.l2.ok k)))) AnnOK.nil))))))) (bedrockref02_Step.body k)

/-! 116 bedrock/bedrockref02.Bytes -/
abbrev bedrockref02_Bytes.l1.σ : Type := Int × Int × (List Int) × (List Int) × (List Int) × Unit
abbrev bedrockref02_Bytes.l1.τ : Type := (Int × (List Int) × (List Int) × (List Int) × Unit)
def bedrockref02_Bytes.l1.r (k : Nat) {ρ : Type} (x : bedrockref02_Bytes.l1.σ) (kn : bedrockref02_Bytes.l1.σ → Option ρ) (ke : bedrockref02_Bytes.l1.τ → Option ρ) : Option ρ :=
  bif (decide (x.2.1 < (4 : Int))) then (let v1 : Int := (IntKind.wrap IntKind.i64 ((4 : Int) * x.1))
  let v2 : Int := (IntKind.wrap IntKind.i64 (v1 + x.2.1))
  bif (decide (((0 : Int) ≤ x.1) ∧ (x.1 < ((8 : Nat) : Int)))) then (let v3 : Int := (List.getD x.2.2.1 (Int.toNat x.1) (0 : Int))
  let v4 : Int := (IntKind.wrap IntKind.i64 ((8 : Int) * x.2.1))
  let v5 : Int := (IntKind.wrap IntKind.i64 ((24 : Int) - v4))
  bif (decide ((0 : Int) ≤ v5)) then (bif (decide (((0 : Int) ≤ v2) ∧ (v2 < ((32 : Nat) : Int)))) then (let v6 : Int := (IntKind.wrap IntKind.i64 (x.2.1 + (1 : Int)))
  kn (x.1, (v6, (x.2.2.1, (x.2.2.2.1, ((List.set x.2.2.2.2.1 (Int.toNat v2) (IntKind.wrap IntKind.u8 (shrOp IntKind.u32 v3 v5))), ())))))) else (none)) else (none)) else (none)) else (ke (x.1, (x.2.2.1, (x.2.2.2.1, (x.2.2.2.2.1, ())))))
def bedrockref02_Bytes.l1 (k : Nat) : Nat → bedrockref02_Bytes.l1.σ → Option bedrockref02_Bytes.l1.τ := loopJ (bedrockref02_Bytes.l1.r k)
def bedrockref02_Bytes.l1.T : StT := ⟨us 1 ++ .ptr 0 [] :: .ptr 1 [] :: .ptr 2 [] :: .dat (.int .i64) :: .dat (.int .i64) :: us 23, [.dat (.arr 8 (.int .u32)), .dat (.arr 32 (.int .u8)), .dat (.arr 32 (.int .u8))]⟩
def bedrockref02_Bytes.l1.os : List Out := [⟨(.exit 2), [.mask [1, 2, 3, 4], .auto 0], ⟨us 1 ++ .ptr 0 [] :: .ptr 1 [] :: .ptr 2 [] :: .dat (.int .i64) :: us 24, [.dat (.arr 8 (.int .u32)), .dat (.arr 32 (.int .u8)), .dat (.arr 32 (.int .u8))]⟩⟩]
abbrev bedrockref02_Bytes.l0.σ : Type := Int × (List Int) × (List Int) × (List Int) × Unit
abbrev bedrockref02_Bytes.l0.τ : Type := ((List Int) × (List Int) × Unit)
def bedrockref02_Bytes.l0.r (k : Nat) {ρ : Type} (x : bedrockref02_Bytes.l0.σ) (kn : bedrockref02_Bytes.l0.σ → Option ρ) (ke : bedrockref02_Bytes.l0.τ → Option ρ) : Option ρ :=
  bif (decide (x.1 < (8 : Int))) then ((bedrockref02_Bytes.l1 k k (x.1, ((0 : Int), (x.2.1, (x.2.2.1, (x.2.2.2.1, ())))))).bind fun t7 => let v8 : Int := (IntKind.wrap IntKind.i64 (t7.1 + (1 : Int)))
  kn (v8, (t7.2.1, (t7.2.2.1, (t7.2.2.2.1, ()))))) else (ke (x.2.2.1, (x.2.2.2.1, ())))
def bedrockref02_Bytes.l0 (k : Nat) : Nat → bedrockref02_Bytes.l0.σ → Option bedrockref02_Bytes.l0.τ := loopJ (bedrockref02_Bytes.l0.r k)
def bedrockref02_Bytes.l0.T : StT := ⟨us 1 ++ .ptr 0 [] :: .ptr 1 [] :: .ptr 2 [] :: .dat (.int .i64) :: us 24, [.dat (.arr 8 (.int .u32)), .dat (.arr 32 (.int .u8)), .dat (.arr 32 (.int .u8))]⟩
def bedrockref02_Bytes.l0.os : List Out := [⟨(.exit 0), [.mask [2, 3], .auto 0], ⟨us 2 ++ .ptr 0 [] :: .ptr 1 [] :: us 25, [.dat (.arr 32 (.int .u8)), .dat (.arr 32 (.int .u8))]⟩⟩]
def bedrockref02_Bytes.c (k : Nat) {ρ : Type} (x_0 : (List Int)) (K : (List Int) × Unit → Option ρ) : Option ρ :=
  let v0 : (List Int) := (List.replicate 32 (0 : Int))
  (bedrockref02_Bytes.l0 k k ((0 : Int), (x_0, ((List.replicate 32 (0 : Int)), (v0, ()))))).bind fun t9 => let v10 : (List Int) := t9.2.1
  K (v10, ())
def bedrockref02_Bytes (k : Nat) (x_0 : (List Int)) : Option ((List Int) × Unit) := bedrockref02_Bytes.c k x_0 some
def bedrockref02_Bytes.tin : List Ty := [(.arr 8 (.int .u32))]
def bedrockref02_Bytes.tout : List Ty := [(.arr 32 (.int .u8))]
def bedrockref02_Bytes.sem (k : Nat) : CallSem := callPure bedrockref02_Bytes.tin bedrockref02_Bytes.tout fun x => bedrockref02_Bytes k x.1
noncomputable def bedrockref02_Bytes.ctx (k : Nat) : Ctx := ⟨Try.prog, gam []⟩
theorem bedrockref02_Bytes.gok (k : Nat) : ∀ f, SemOK Try.prog f ((bedrockref02_Bytes.ctx k).Γ f) := gam_nil
theorem bedrockref02_Bytes.l1.round (k : Nat) : RoundIs (bedrockref02_Bytes.ctx k) (codeAt (Func.code Try.f116) [1, 1, 0, 1, 0, 0, 1, 0, 0, 1, 0, 0]) (.nil) bedrockref02_Bytes.l1.T [.mask [1, 2, 3, 4, 5], .auto 0] bedrockref02_Bytes.l1.os (bedrockref02_Bytes.l1.r k) := by
  intro ρ x kn ke; kernel_rfl
theorem bedrockref02_Bytes.l1.ok (k : Nat) : StOK 0 Try.prog (.loop (codeAt (Func.code Try.f116) [1, 1, 0, 1, 0, 0, 1, 0, 0, 1, 0, 0])) (pieceSem bedrockref02_Bytes.l1.T bedrockref02_Bytes.l1.os (bedrockref02_Bytes.l1 k k)) :=
  loop_ok (C := bedrockref02_Bytes.ctx k) (bedrockref02_Bytes.gok k) Try.mix AnnOK.nil (by kernel_rfl) (by kernel_rfl) (by kernel_rfl) (bedrockref02_Bytes.l1.round k) k
theorem bedrockref02_Bytes.l0.round (k : Nat) : RoundIs (bedrockref02_Bytes.ctx k) (codeAt (Func.code Try.f116) [1, 1, 0, 1, 0, 0]) (.node [] none (.nil) (.node [] none (.node [] none (.node [] none (.nil) (.node [] none (.node [.mask [1, 2, 3, 4, 5], .auto 0] (some (pieceSem bedrockref02_Bytes.l1.T bedrockref02_Bytes.l1.os (bedrockref02_Bytes.l1 k k))) .nil .nil) (.nil))) (.nil)) (.nil))) bedrockref02_Bytes.l0.T [.mask [1, 2, 3, 4], .auto 0] bedrockref02_Bytes.l0.os (bedrockref02_Bytes.l0.r k) := by
  intro ρ x kn ke; kernel_rfl
theorem bedrockref02_Bytes.l0.ok (k : Nat) : StOK 0 Try.prog (.loop (codeAt (Func.code Try.f116) [1, 1, 0, 1, 0, 0])) (pieceSem bedrockref02_Bytes.l0.T bedrockref02_Bytes.l0.os (bedrockref02_Bytes.l0 k k)) :=
  loop_ok (C := bedrockref02_Bytes.ctx k) (bedrockref02_Bytes.gok k) Try.mix (AnnOK.seq AnnOK.nil (AnnOK.seq (AnnOK.block (AnnOK.seq AnnOK.nil (AnnOK.block (AnnOK.loop (by kernel_rfl) (bedrockref02_Bytes.l1.ok k))))) AnnOK.nil)) (by kernel_rfl) (by kernel_rfl) (by kernel_rfl) (bedrockref02_Bytes.l0.round k) k
def bedrockref02_Bytes.ann (k : Nat) : Ann := .node [] none (.nil) (.node [] none (.nil) (.node [] none (.node [] none (.nil) (.node [] none (.node [.mask [1, 2, 3, 4], .auto 0] (some (pieceSem bedrockref02_Bytes.l0.T bedrockref02_Bytes.l0.os (bedrockref02_Bytes.l0 k k))) .nil .nil) (.nil))) (.nil)))
theorem bedrockref02_Bytes.body (k : Nat) : BodyIs (bedrockref02_Bytes.ctx k) Try.f116 (Func.code Try.f116) (bedrockref02_Bytes.ann k) bedrockref02_Bytes.tin bedrockref02_Bytes.tout (fun x K => bedrockref02_Bytes.c k x.1 K) := by
  intro ρ x K; kernel_rfl
theorem bedrockref02_Bytes.sem_ok (k : Nat) : SemOK Try.prog 116 (bedrockref02_Bytes.sem k) :=
  callPure_ok (C := bedrockref02_Bytes.ctx k) (bedrockref02_Bytes.gok k) Try.mix (c := Func.code Try.f116) (ann := bedrockref02_Bytes.ann k) (tin := bedrockref02_Bytes.tin) (tout := bedrockref02_Bytes.tout) (fun x K => bedrockref02_Bytes.c k x.1 K) Try.func116 (by kernel_rfl) (by kernel_rfl) (AnnOK.seq AnnOK.nil (AnnOK.seq AnnOK.nil (AnnOK.seq (AnnOK.seq AnnOK.nil (AnnOK.block (AnnOK.loop (by kernel_rfl) (bedrockref02_Bytes.l0.ok k)))) AnnOK.nil))) (bedrockref02_Bytes.body k)

/-! 94 bedrock/bedrockref02.Sum -/
abbrev bedrockref02_Sum.l1.σ : Type := ByteArray × Int × Int × (List Int) × (List Int) × (List Int) × Unit
abbrev bedrockref02_Sum.l1.τ : Type := (ByteArray × Int × (List Int) × (List Int) × (List Int) × Unit)
def bedrockref02_Sum.l1.r (k : Nat) {ρ : Type} (x : bedrockref02_Sum.l1.σ) (kn : bedrockref02_Sum.l1.σ → Option ρ) (ke : bedrockref02_Sum.l1.τ → Option ρ) : Option ρ :=
  bif (decide (x.2.2.1 < (64 : Int))) then (let v5 : Int := (IntKind.wrap IntKind.i64 (x.2.1 + x.2.2.1))
  bif (decide (((0 : Int) ≤ v5) ∧ (v5 < (((ByteArray.size x.1) : Nat) : Int)))) then (let v6 : Int := (byteAt x.1 (Int.toNat v5))
  bif (decide (((0 : Int) ≤ x.2.2.1) ∧ (x.2.2.1 < ((64 : Nat) : Int)))) then (let v7 : Int := (IntKind.wrap IntKind.i64 (x.2.2.1 + (1 : Int)))
  kn (x.1, (x.2.1, (v7, (x.2.2.2.1, (x.2.2.2.2.1, ((List.set x.2.2.2.2.2.1 (Int.toNat x.2.2.1) v6), ()))))))) else (none)) else (none)) else (ke (x.1, (x.2.1, (x.2.2.2.1, (x.2.2.2.2.1, (x.2.2.2.2.2.1, ()))))))
def bedrockref02_Sum.l1 (k : Nat) : Nat → bedrockref02_Sum.l1.σ → Option bedrockref02_Sum.l1.τ := loopJ (bedrockref02_Sum.l1.r k)
def bedrockref02_Sum.l1.T : StT := ⟨.dat .str :: us 1 ++ .ptr 0 [] :: .ptr 1 [] :: .dat (.int .i64) :: .ptr 2 [] :: .dat (.int .i64) :: us 30, [.dat (.arr 32 (.int .u8)), .dat (.arr 8 (.int .u32)), .dat (.arr 64 (.int .u8))]⟩
def bedrockref02_Sum.l1.os : List Out := [⟨(.exit 2), [.mask [0, 2, 3, 4, 5], .auto 0], ⟨.dat .str :: us 1 ++ .ptr 0 [] :: .ptr 1 [] :: .dat (.int .i64) :: .ptr 2 [] :: us 31, [.dat (.arr 32 (.int .u8)), .dat (.arr 8 (.int .u32)), .dat (.arr 64 (.int .u8))]⟩⟩]
abbrev bedrockref02_Sum.l0.σ : Type := ByteArray × Int × (List Int) × (List Int) × Unit
abbrev bedrockref02_Sum.l0.τ : Type := ((List Int) × (List Int) × Unit)
def bedrockref02_Sum.l0.r (k : Nat) {ρ : Type} (x : bedrockref02_Sum.l0.σ) (kn : bedrockref02_Sum.l0.σ → Option ρ) (ke : bedrockref02_Sum.l0.τ → Option ρ) : Option ρ :=
  let v3 : Int := (((ByteArray.size x.1) : Nat) : Int)
  bif (decide (x.2.1 < v3)) then (let v4 : (List Int) := (List.replicate 64 (0 : Int))
  (bedrockref02_Sum.l1 k k (x.1, (x.2.1, ((0 : Int), (x.2.2.1, (x.2.2.2.1, (v4, ()))))))).bind fun t8 => let v9 : (List Int) := t8.2.2.2.1
  let v10 : (List Int) := t8.2.2.2.2.1
  (bedrockref02_Step k v9 v10).bind fun t11 => let v12 : Int := (IntKind.wrap IntKind.i64 (t8.2.1 + (64 : Int)))
  kn (t8.1, (v12, (t8.2.2.1, (t11.1, ()))))) else (ke (x.2.2.1, (x.2.2.2.1, ())))
def bedrockref02_Sum.l0 (k : Nat) : Nat → bedrockref02_Sum.l0.σ → Option bedrockref02_Sum.l0.τ := loopJ (bedrockref02_Sum.l0.r k)
def bedrockref02_Sum.l0.T : StT := ⟨.dat .str :: us 1 ++ .ptr 0 [] :: .ptr 1 [] :: .dat (.int .i64) :: us 32, [.dat (.arr 32 (.int .u8)), .dat (.arr 8 (.int .u32))]⟩
def bedrockref02_Sum.l0.os : List Out := [⟨(.exit 0), [.mask [2, 3], .auto 0], ⟨us 2 ++ .ptr 0 [] :: .ptr 1 [] :: us 33, [.dat (.arr 32 (.int .u8)), .dat (.arr 8 (.int .u32))]⟩⟩]
def bedrockref02_Sum.c (k : Nat) {ρ : Type} (s : ByteArray) (K : (List Int) × Unit → Option ρ) : Option ρ :=
  (bedrockref02_Pad k (IntKind.wrap IntKind.u64 (((ByteArray.size s) : Nat) : Int))).bind fun t0 => bif (Nat.ble ((ByteArray.size s) + (ByteArray.size t0.1)) 9223372036854775807) then (let v1 : ByteArray := (s ++ t0.1)
  (bedrockref02_First k ).bind fun t2 => (bedrockref02_Sum.l0 k k (v1, ((0 : Int), ((List.replicate 32 (0 : Int)), (t2.1, ()))))).bind fun t13 => let v14 : (List Int) := t13.2.1
  (bedrockref02_Bytes k v14).bind fun t15 => K (t15.1, ())) else (none)
def bedrockref02_Sum (k : Nat) (s : ByteArray) : Option ((List Int) × Unit) := bedrockref02_Sum.c k s some
def bedrockref02_Sum.tin : List Ty := [.str]
def bedrockref02_Sum.tout : List Ty := [(.arr 32 (.int .u8))]
def bedrockref02_Sum.sem (k : Nat) : CallSem := callPure bedrockref02_Sum.tin bedrockref02_Sum.tout fun x => bedrockref02_Sum k x.1
noncomputable def bedrockref02_Sum.ctx (k : Nat) : Ctx := ⟨Try.prog, gam [(113, (bedrockref02_Pad.sem k)), (114, (bedrockref02_First.sem k)), (115, (bedrockref02_Step.sem k)), (116, (bedrockref02_Bytes.sem k))]⟩
theorem bedrockref02_Sum.gok (k : Nat) : ∀ f, SemOK Try.prog f ((bedrockref02_Sum.ctx k).Γ f) := (gam_cons (bedrockref02_Pad.sem_ok k) (gam_cons (bedrockref02_First.sem_ok k) (gam_cons (bedrockref02_Step.sem_ok k) (gam_cons (bedrockref02_Bytes.sem_ok k) gam_nil))))
theorem bedrockref02_Sum.l1.round (k : Nat) : RoundIs (bedrockref02_Sum.ctx k) (codeAt (Func.code Try.f94) [1, 1, 1, 0, 1, 0, 0, 1, 0, 0, 1, 0, 1, 0, 0]) (.nil) bedrockref02_Sum.l1.T [.mask [0, 2, 3, 4, 5, 6], .auto 0] bedrockref02_Sum.l1.os (bedrockref02_Sum.l1.r k) := by
  intro ρ x kn ke; kernel_rfl
theorem bedrockref02_Sum.l1.ok (k : Nat) : StOK 0 Try.prog (.loop (codeAt (Func.code Try.f94) [1, 1, 1, 0, 1, 0, 0, 1, 0, 0, 1, 0, 1, 0, 0])) (pieceSem bedrockref02_Sum.l1.T bedrockref02_Sum.l1.os (bedrockref02_Sum.l1 k k)) :=
  loop_ok (C := bedrockref02_Sum.ctx k) (bedrockref02_Sum.gok k) Try.mix AnnOK.nil (by kernel_rfl) (by kernel_rfl) (by kernel_rfl) (bedrockref02_Sum.l1.round k) k
theorem bedrockref02_Sum.l0.round (k : Nat) : RoundIs (bedrockref02_Sum.ctx k) (codeAt (Func.code Try.f94) [1, 1, 1, 0, 1, 0, 0]) (.node [] none (.nil) (.node [] none (.node [] none (.node [] none (.nil) (.node [] none (.node [] none (.nil) (.node [] none (.node [.mask [0, 2, 3, 4, 5, 6], .auto 0] (some (pieceSem bedrockref02_Sum.l1.T bedrockref02_Sum.l1.os (bedrockref02_Sum.l1 k k))) .nil .nil) (.nil))) (.nil))) (.nil)) (.nil))) bedrockref02_Sum.l0.T [.mask [0, 2, 3, 4], .auto 0] bedrockref02_Sum.l0.os (bedrockref02_Sum.l0.r k) := by
  intro ρ x kn ke; kernel_rfl
theorem bedrockref02_Sum.l0.ok (k : Nat) : StOK 0 Try.prog (.loop (codeAt (Func.code Try.f94) [1, 1, 1, 0, 1, 0, 0])) (pieceSem bedrockref02_Sum.l0.T bedrockref02_Sum.l0.os (bedrockref02_Sum.l0 k k)) :=
  loop_ok (C := bedrockref02_Sum.ctx k) (bedrockref02_Sum.gok k) Try.mix (AnnOK.seq AnnOK.nil (AnnOK.seq (AnnOK.block (AnnOK.seq AnnOK.nil (AnnOK.seq (AnnOK.seq AnnOK.nil (AnnOK.block (AnnOK.loop (by kernel_rfl) (bedrockref02_Sum.l1.ok k)))) AnnOK.nil))) AnnOK.nil)) (by kernel_rfl) (by kernel_rfl) (by kernel_rfl) (bedrockref02_Sum.l0.round k) k
def bedrockref02_Sum.ann (k : Nat) : Ann := .node [] none (.nil) (.node [] none (.nil) (.node [] none (.nil) (.node [] none (.node [] none (.nil) (.node [] none (.node [.mask [0, 2, 3, 4], .auto 0] (some (pieceSem bedrockref02_Sum.l0.T bedrockref02_Sum.l0.os (bedrockref02_Sum.l0 k k))) .nil .nil) (.nil))) (.nil))))
theorem bedrockref02_Sum.body (k : Nat) : BodyIs (bedrockref02_Sum.ctx k) Try.f94 (Func.code Try.f94) (bedrockref02_Sum.ann k) bedrockref02_Sum.tin bedrockref02_Sum.tout (fun x K => bedrockref02_Sum.c k x.1 K) := by
  intro ρ x K; kernel_rfl
theorem bedrockref02_Sum.sem_ok (k : Nat) : SemOK Try.prog 94 (bedrockref02_Sum.sem k) :=
  callPure_ok (C := bedrockref02_Sum.ctx k) (bedrockref02_Sum.gok k) Try.mix (c := Func.code Try.f94) (ann := bedrockref02_Sum.ann k) (tin := bedrockref02_Sum.tin) (tout := bedrockref02_Sum.tout) (fun x K => bedrockref02_Sum.c k x.1 K) Try.func94 (by kernel_rfl) (by kernel_rfl) (AnnOK.seq AnnOK.nil (AnnOK.seq AnnOK.nil (AnnOK.seq AnnOK.nil (AnnOK.seq (AnnOK.seq AnnOK.nil (AnnOK.block (AnnOK.loop (by kernel_rfl) (bedrockref02_Sum.l0.ok k)))) AnnOK.nil)))) (bedrockref02_Sum.body k)

/-! 61 bedrock/bedrockref01.Get -/
abbrev bedrockref01_Get.l0.σ : Type := ByteArray × Int × Int × Unit
abbrev bedrockref01_Get.l0.τ : Type := (Int × Unit)
def bedrockref01_Get.l0.r (k : Nat) {ρ : Type} (x : bedrockref01_Get.l0.σ) (kn : bedrockref01_Get.l0.σ → Option ρ) (ke : bedrockref01_Get.l0.τ → Option ρ) : Option ρ :=
  bif (decide (x.2.2.1 ≥ (0 : Int))) then (let v1 : Int := (IntKind.wrap IntKind.u64 (x.2.1 * (256 : Int)))
  bif (decide (((0 : Int) ≤ x.2.2.1) ∧ (x.2.2.1 < (((ByteArray.size x.1) : Nat) : Int)))) then (let v2 : Int := (byteAt x.1 (Int.toNat x.2.2.1))
  let v3 : Int := (IntKind.wrap IntKind.u64 (v1 + (IntKind.wrap IntKind.u64 v2)))
  let v4 : Int := (IntKind.wrap IntKind.i64 (x.2.2.1 - (1 : Int)))
  kn (x.1, (v3, (v4, ())))) else (none)) else (ke (x.2.1, ()))
def bedrockref01_Get.l0 (k : Nat) : Nat → bedrockref01_Get.l0.σ → Option bedrockref01_Get.l0.τ := loopJ (bedrockref01_Get.l0.r k)
def bedrockref01_Get.l0.T : StT := ⟨.dat .str :: us 2 ++ .dat (.int .u64) :: .dat (.int .i64) :: us 15, []⟩
def bedrockref01_Get.l0.os : List Out := [⟨(.exit 0), [.mask [3], .auto 0], ⟨us 3 ++ .dat (.int .u64) :: us 16, []⟩⟩]
def bedrockref01_Get.c (k : Nat) {ρ : Type} (s : ByteArray) (K : Int × Unit → Option ρ) : Option ρ :=
  let v0 : Int := (IntKind.wrap IntKind.i64 ((((ByteArray.size s) : Nat) : Int) - (1 : Int)))
  (bedrockref01_Get.l0 k k (s, ((0 : Int), (v0, ())))).bind fun t5 => K (t5.1, ())
def bedrockref01_Get (k : Nat) (s : ByteArray) : Option (Int × Unit) := bedrockref01_Get.c k s some
def bedrockref01_Get.tin : List Ty := [.str]
def bedrockref01_Get.tout : List Ty := [(.int .u64)]
def bedrockref01_Get.sem (k : Nat) : CallSem := callPure bedrockref01_Get.tin bedrockref01_Get.tout fun x => bedrockref01_Get k x.1
noncomputable def bedrockref01_Get.ctx (k : Nat) : Ctx := ⟨Try.prog, gam []⟩
theorem bedrockref01_Get.gok (k : Nat) : ∀ f, SemOK Try.prog f ((bedrockref01_Get.ctx k).Γ f) := gam_nil
theorem bedrockref01_Get.l0.round (k : Nat) : RoundIs (bedrockref01_Get.ctx k) (codeAt (Func.code Try.f61) [1, 1, 0, 1, 0, 0]) (.nil) bedrockref01_Get.l0.T [.mask [0, 3, 4], .auto 0] bedrockref01_Get.l0.os (bedrockref01_Get.l0.r k) := by
  intro ρ x kn ke; kernel_rfl
theorem bedrockref01_Get.l0.ok (k : Nat) : StOK 0 Try.prog (.loop (codeAt (Func.code Try.f61) [1, 1, 0, 1, 0, 0])) (pieceSem bedrockref01_Get.l0.T bedrockref01_Get.l0.os (bedrockref01_Get.l0 k k)) :=
  loop_ok (C := bedrockref01_Get.ctx k) (bedrockref01_Get.gok k) Try.mix AnnOK.nil (by kernel_rfl) (by kernel_rfl) (by kernel_rfl) (bedrockref01_Get.l0.round k) k
def bedrockref01_Get.ann (k : Nat) : Ann := .node [] none (.nil) (.node [] none (.nil) (.node [] none (.node [] none (.nil) (.node [] none (.node [] (some (pieceSem bedrockref01_Get.l0.T bedrockref01_Get.l0.os (bedrockref01_Get.l0 k k))) .nil .nil) (.nil))) (.nil)))
theorem bedrockref01_Get.body (k : Nat) : BodyIs (bedrockref01_Get.ctx k) Try.f61 (Func.code Try.f61) (bedrockref01_Get.ann k) bedrockref01_Get.tin bedrockref01_Get.tout (fun x K => bedrockref01_Get.c k x.1 K) := by
  intro ρ x K; kernel_rfl
theorem bedrockref01_Get.sem_ok (k : Nat) : SemOK Try.prog 61 (bedrockref01_Get.sem k) :=
  callPure_ok (C := bedrockref01_Get.ctx k) (bedrockref01_Get.gok k) Try.mix (c := Func.code Try.f61) (ann := bedrockref01_Get.ann k) (tin := bedrockref01_Get.tin) (tout := bedrockref01_Get.tout) (fun x K => bedrockref01_Get.c k x.1 K) Try.func61 (by kernel_rfl) (by kernel_rfl) (AnnOK.seq AnnOK.nil (AnnOK.seq AnnOK.nil (AnnOK.seq (AnnOK.seq AnnOK.nil (AnnOK.block (AnnOK.loop (by kernel_rfl) (bedrockref01_Get.l0.ok k)))) AnnOK.nil))) (bedrockref01_Get.body k)

/-! 56 bedrock/bedrockref03.Keys -/
def bedrockref03_Keys.c (k : Nat) {ρ : Type} (header : ByteArray) (nonce : Int) (K : Int × Int × Unit → Option ρ) : Option ρ :=
  (bedrockref01_Low k nonce (8 : Int)).bind fun t0 => bif (Nat.ble ((ByteArray.size header) + (ByteArray.size t0.1)) 9223372036854775807) then (let v1 : ByteArray := (header ++ t0.1)
  (bedrockref02_Sum k v1).bind fun t2 => let v3 : ByteArray := (bytesOf (List.take 8 (List.drop 0 t2.1)))
  (bedrockref01_Get k v3).bind fun t4 => let v5 : ByteArray := (bytesOf (List.take 8 (List.drop 8 t2.1)))
  (bedrockref01_Get k v5).bind fun t6 => K (t4.1, (t6.1, ()))) else (none)
def bedrockref03_Keys (k : Nat) (header : ByteArray) (nonce : Int) : Option (Int × Int × Unit) := bedrockref03_Keys.c k header nonce some
def bedrockref03_Keys.tin : List Ty := [.str, (.int .u64)]
def bedrockref03_Keys.tout : List Ty := [(.int .u64), (.int .u64)]
def bedrockref03_Keys.sem (k : Nat) : CallSem := callPure bedrockref03_Keys.tin bedrockref03_Keys.tout fun x => bedrockref03_Keys k x.1 x.2.1
noncomputable def bedrockref03_Keys.ctx (k : Nat) : Ctx := ⟨Try.prog, gam [(60, (bedrockref01_Low.sem k)), (94, (bedrockref02_Sum.sem k)), (61, (bedrockref01_Get.sem k))]⟩
theorem bedrockref03_Keys.gok (k : Nat) : ∀ f, SemOK Try.prog f ((bedrockref03_Keys.ctx k).Γ f) := (gam_cons (bedrockref01_Low.sem_ok k) (gam_cons (bedrockref02_Sum.sem_ok k) (gam_cons (bedrockref01_Get.sem_ok k) gam_nil)))
def bedrockref03_Keys.ann (k : Nat) : Ann := .nil
theorem bedrockref03_Keys.body (k : Nat) : BodyIs (bedrockref03_Keys.ctx k) Try.f56 (Func.code Try.f56) (bedrockref03_Keys.ann k) bedrockref03_Keys.tin bedrockref03_Keys.tout (fun x K => bedrockref03_Keys.c k x.1 x.2.1 K) := by
  intro ρ x K; kernel_rfl
theorem bedrockref03_Keys.sem_ok (k : Nat) : SemOK Try.prog 56 (bedrockref03_Keys.sem k) :=
  callPure_ok (C := bedrockref03_Keys.ctx k) (bedrockref03_Keys.gok k) Try.mix (c := Func.code Try.f56) (ann := bedrockref03_Keys.ann k) (tin := bedrockref03_Keys.tin) (tout := bedrockref03_Keys.tout) (fun x K => bedrockref03_Keys.c k x.1 x.2.1 K) Try.func56 (by kernel_rfl) (by kernel_rfl) AnnOK.nil (bedrockref03_Keys.body k)

/-! 57 bedrock/sip.Short -/
def sip_Short.c (k : Nat) {ρ : Type} (k_0 : (Int × (Int × Unit))) (id : (List Int)) (K : Int × Unit → Option ρ) : Option ρ :=
  let v0 : ByteArray := (bytesOf (List.take 32 (List.drop 0 id)))
  (sip_Hash k (k_0.1, (k_0.2.1, ())) v0).bind fun t1 => let v2 : Int := (bitsOp BinOp.and IntKind.u64 t1.1 (281474976710655 : Int))
  K (v2, ())
def sip_Short (k : Nat) (k_0 : (Int × (Int × Unit))) (id : (List Int)) : Option (Int × Unit) := sip_Short.c k k_0 id some
def sip_Short.tin : List Ty := [(.pair (.int .u64) (.pair (.int .u64) .unit)), (.arr 32 (.int .u8))]
def sip_Short.tout : List Ty := [(.int .u64)]
def sip_Short.sem (k : Nat) : CallSem := callPure sip_Short.tin sip_Short.tout fun x => sip_Short k x.1 x.2.1
noncomputable def sip_Short.ctx (k : Nat) : Ctx := ⟨Try.prog, gam [(15, (sip_Hash.sem k))]⟩
theorem sip_Short.gok (k : Nat) : ∀ f, SemOK Try.prog f ((sip_Short.ctx k).Γ f) := (gam_cons (sip_Hash.sem_ok k) gam_nil)
def sip_Short.ann (k : Nat) : Ann := .nil
theorem sip_Short.body (k : Nat) : BodyIs (sip_Short.ctx k) Try.f57 (Func.code Try.f57) (sip_Short.ann k) sip_Short.tin sip_Short.tout (fun x K => sip_Short.c k x.1 x.2.1 K) := by
  intro ρ x K; kernel_rfl
theorem sip_Short.sem_ok (k : Nat) : SemOK Try.prog 57 (sip_Short.sem k) :=
  callPure_ok (C := sip_Short.ctx k) (sip_Short.gok k) Try.mix (c := Func.code Try.f57) (ann := sip_Short.ann k) (tin := sip_Short.tin) (tout := sip_Short.tout) (fun x K => sip_Short.c k x.1 x.2.1 K) Try.func57 (by kernel_rfl) (by kernel_rfl) AnnOK.nil (sip_Short.body k)

/-! 58 bedrock/sip.ShortBytes -/
def sip_ShortBytes.c (k : Nat) {ρ : Type} (short : Int) (K : ByteArray × Int × Unit → Option ρ) : Option ρ :=
  bif (decide (short > (281474976710655 : Int))) then (K ((⟨(List.toArray [])⟩ : ByteArray), ((30 : Int), ()))) else ((num_NewWriter k ).bind fun t0 => (num_Writer_U64 k short (((), ((), ())), ()) t0.2.1).bind fun t1 => (num_Writer_Text k (((), ((), ())), ()) t1.2.1).bind fun t2 => bif (decide (((0 : Int) ≤ (0 : Int)) ∧ (((0 : Int) ≤ (6 : Int)) ∧ ((6 : Int) ≤ (((ByteArray.size t2.1) : Nat) : Int))))) then (K ((ByteArray.extract t2.1 0 6), ((0 : Int), ()))) else (none))
def sip_ShortBytes (k : Nat) (short : Int) : Option (ByteArray × Int × Unit) := sip_ShortBytes.c k short some
def sip_ShortBytes.tin : List Ty := [(.int .u64)]
def sip_ShortBytes.tout : List Ty := [.str, (.int .i64)]
def sip_ShortBytes.sem (k : Nat) : CallSem := callPure sip_ShortBytes.tin sip_ShortBytes.tout fun x => sip_ShortBytes k x.1
noncomputable def sip_ShortBytes.ctx (k : Nat) : Ctx := ⟨Try.prog, gam [(76, (num_NewWriter.sem k)), (81, (num_Writer_U64.sem k)), (82, (num_Writer_Text.sem k))]⟩
theorem sip_ShortBytes.gok (k : Nat) : ∀ f, SemOK Try.prog f ((sip_ShortBytes.ctx k).Γ f) := (gam_cons (num_NewWriter.sem_ok k) (gam_cons (num_Writer_U64.sem_ok k) (gam_cons (num_Writer_Text.sem_ok k) gam_nil)))
def sip_ShortBytes.ann (k : Nat) : Ann := .nil
theorem sip_ShortBytes.body (k : Nat) : BodyIs (sip_ShortBytes.ctx k) Try.f58 (Func.code Try.f58) (sip_ShortBytes.ann k) sip_ShortBytes.tin sip_ShortBytes.tout (fun x K => sip_ShortBytes.c k x.1 K) := by
  intro ρ x K; kernel_rfl
theorem sip_ShortBytes.sem_ok (k : Nat) : SemOK Try.prog 58 (sip_ShortBytes.sem k) :=
  callPure_ok (C := sip_ShortBytes.ctx k) (sip_ShortBytes.gok k) Try.mix (c := Func.code Try.f58) (ann := sip_ShortBytes.ann k) (tin := sip_ShortBytes.tin) (tout := sip_ShortBytes.tout) (fun x K => sip_ShortBytes.c k x.1 K) Try.func58 (by kernel_rfl) (by kernel_rfl) AnnOK.nil (sip_ShortBytes.body k)

/-! 59 bedrock/sip.TakeShort -/
abbrev sip_TakeShort.p0.σ : Type := ByteArray × Int × Unit
abbrev sip_TakeShort.p0.τ : Type := (Int × Int × Unit) ⊕ (ByteArray × Int × Unit)
def sip_TakeShort.p0.r (k : Nat) {ρ : Type} (x : sip_TakeShort.p0.σ) (K : sip_TakeShort.p0.τ → Option ρ) : Option ρ :=
  bif (decide (x.2.1 < (0 : Int))) then (K (.inl ((0 : Int), ((1 : Int), ())))) else (let v0 : Int := (((ByteArray.size x.1) : Nat) : Int)
  bif (decide (x.2.1 > v0)) then (K (.inl ((0 : Int), ((1 : Int), ())))) else (K (.inr (x.1, (x.2.1, ())))))
def sip_TakeShort.p0 (k : Nat) (x : sip_TakeShort.p0.σ) : Option sip_TakeShort.p0.τ := sip_TakeShort.p0.r k x some
def sip_TakeShort.p0.T : StT := ⟨.dat .str :: .dat (.int .i64) :: us 29, []⟩
def sip_TakeShort.p0.os : List Out := [⟨.ret, [.mask [4, 5], .auto 0], ⟨us 4 ++ .dat (.int .u64) :: .dat (.int .i64) :: us 25, []⟩⟩, ⟨.normal, [.mask [0, 1], .auto 0], ⟨.dat .str :: .dat (.int .i64) :: us 29, []⟩⟩]
def sip_TakeShort.c (k : Nat) {ρ : Type} (s : ByteArray) (at_1 : Int) (K : Int × Int × Unit → Option ρ) : Option ρ :=
  (sip_TakeShort.p0 k (s, (at_1, ()))).bind fun t1 => (match t1 with | .inl t2 => (K (t2.1, (t2.2.1, ()))) | .inr (t3) => (bif (decide (((0 : Int) ≤ t3.2.1) ∧ ((t3.2.1 ≤ (((ByteArray.size t3.1) : Nat) : Int)) ∧ ((((ByteArray.size t3.1) : Nat) : Int) ≤ (((ByteArray.size t3.1) : Nat) : Int))))) then (let v4 : ByteArray := (ByteArray.extract t3.1 (Int.toNat t3.2.1) (Int.toNat (((ByteArray.size t3.1) : Nat) : Int)))
  (num_NewReader k v4).bind fun t5 => (num_Reader_Bytes k (6 : Int) (t5.1.1, (t5.1.2.1, (t5.1.2.2.1, ())))).bind fun t6 => (num_Reader_Err k (t6.2.1.1, (t6.2.1.2.1, (t6.2.1.2.2.1, ())))).bind fun t7 => bif (t7.1 != (0 : Int)) then ((num_Reader_Err k (t7.2.1.1, (t7.2.1.2.1, (t7.2.1.2.2.1, ())))).bind fun t8 => K ((0 : Int), (t8.1, ()))) else (bif (Nat.ble ((ByteArray.size t6.1) + 2) 9223372036854775807) then (let v9 : ByteArray := (t6.1 ++ (⟨(List.toArray [0, 0])⟩ : ByteArray))
  (num_NewReader k v9).bind fun t10 => (num_Reader_U64 k (t10.1.1, (t10.1.2.1, (t10.1.2.2.1, ())))).bind fun t11 => K (t11.1, ((0 : Int), ()))) else (none))) else (none)))
def sip_TakeShort (k : Nat) (s : ByteArray) (at_1 : Int) : Option (Int × Int × Unit) := sip_TakeShort.c k s at_1 some
def sip_TakeShort.tin : List Ty := [.str, (.int .i64)]
def sip_TakeShort.tout : List Ty := [(.int .u64), (.int .i64)]
def sip_TakeShort.sem (k : Nat) : CallSem := callPure sip_TakeShort.tin sip_TakeShort.tout fun x => sip_TakeShort k x.1 x.2.1
noncomputable def sip_TakeShort.ctx (k : Nat) : Ctx := ⟨Try.prog, gam [(68, (num_NewReader.sem k)), (97, (num_Reader_Bytes.sem k)), (98, (num_Reader_Err.sem k)), (69, (num_Reader_U64.sem k))]⟩
theorem sip_TakeShort.gok (k : Nat) : ∀ f, SemOK Try.prog f ((sip_TakeShort.ctx k).Γ f) := (gam_cons (num_NewReader.sem_ok k) (gam_cons (num_Reader_Bytes.sem_ok k) (gam_cons (num_Reader_Err.sem_ok k) (gam_cons (num_Reader_U64.sem_ok k) gam_nil))))
theorem sip_TakeShort.p0.is (k : Nat) : PieceIs (sip_TakeShort.ctx k) (codeAt (Func.code Try.f59) [1, 0]) (.nil) sip_TakeShort.p0.T sip_TakeShort.p0.os (sip_TakeShort.p0.r k) := by
  intro ρ x K; kernel_rfl
theorem sip_TakeShort.p0.ok (k : Nat) : StOK 0 Try.prog (codeAt (Func.code Try.f59) [1, 0]) (pieceSem sip_TakeShort.p0.T sip_TakeShort.p0.os (sip_TakeShort.p0 k)) :=
  piece_ok (C := sip_TakeShort.ctx k) (T := sip_TakeShort.p0.T) (os := sip_TakeShort.p0.os) (sip_TakeShort.gok k) Try.mix (fun x K => sip_TakeShort.p0.r k x K) AnnOK.nil (by kernel_rfl) (by kernel_rfl) (sip_TakeShort.p0.is k)
def sip_TakeShort.ann (k : Nat) : Ann := .node [] none (.nil) (.node [] none (.node [] (some (pieceSem sip_TakeShort.p0.T sip_TakeShort.p0.os (sip_TakeShort.p0 k))) .nil .nil) (.nil))
theorem sip_TakeShort.body (k : Nat) : BodyIs (sip_TakeShort.ctx k) Try.f59 (Func.code Try.f59) (sip_TakeShort.ann k) sip_TakeShort.tin sip_TakeShort.tout (fun x K => sip_TakeShort.c k x.1 x.2.1 K) := by
  intro ρ x K; kernel_rfl
theorem sip_TakeShort.sem_ok (k : Nat) : SemOK Try.prog 59 (sip_TakeShort.sem k) :=
  callPure_ok (C := sip_TakeShort.ctx k) (sip_TakeShort.gok k) Try.mix (c := Func.code Try.f59) (ann := sip_TakeShort.ann k) (tin := sip_TakeShort.tin) (tout := sip_TakeShort.tout) (fun x K => sip_TakeShort.c k x.1 x.2.1 K) Try.func59 (by kernel_rfl) (by kernel_rfl) (AnnOK.seq AnnOK.nil (AnnOK.seq (AnnOK.loop (by kernel_rfl) (sip_TakeShort.p0.ok k)) AnnOK.nil)) (sip_TakeShort.body k)

/-! 63 bedrock/bedrockref03.turn -/
abbrev bedrockref03_turn.l0.σ : Type := Int × Int × Int × Unit
abbrev bedrockref03_turn.l0.τ : Type := (Int × Unit)
def bedrockref03_turn.l0.r (k : Nat) {ρ : Type} (x : bedrockref03_turn.l0.σ) (kn : bedrockref03_turn.l0.σ → Option ρ) (ke : bedrockref03_turn.l0.τ → Option ρ) : Option ρ :=
  bif (decide (x.2.2.1 < x.2.1)) then (let v0 : Int := (IntKind.wrap IntKind.u64 (x.1 * (2 : Int)))
  let v1 : Int := (shrOp IntKind.u64 x.1 (63 : Int))
  let v2 : Int := (IntKind.wrap IntKind.u64 (v0 + v1))
  let v3 : Int := (IntKind.wrap IntKind.i64 (x.2.2.1 + (1 : Int)))
  kn (v2, (x.2.1, (v3, ())))) else (ke (x.1, ()))
def bedrockref03_turn.l0 (k : Nat) : Nat → bedrockref03_turn.l0.σ → Option bedrockref03_turn.l0.τ := loopJ (bedrockref03_turn.l0.r k)
def bedrockref03_turn.l0.T : StT := ⟨.dat (.int .u64) :: .dat (.int .i64) :: us 3 ++ .dat (.int .i64) :: us 11, []⟩
def bedrockref03_turn.l0.os : List Out := [⟨(.exit 0), [.mask [0], .auto 0], ⟨.dat (.int .u64) :: us 16, []⟩⟩]
def bedrockref03_turn.c (k : Nat) {ρ : Type} (x_0 : Int) (n : Int) (K : Int × Unit → Option ρ) : Option ρ :=
  (bedrockref03_turn.l0 k k (x_0, (n, ((0 : Int), ())))).bind fun t4 => K (t4.1, ())
def bedrockref03_turn (k : Nat) (x_0 : Int) (n : Int) : Option (Int × Unit) := bedrockref03_turn.c k x_0 n some
def bedrockref03_turn.tin : List Ty := [(.int .u64), (.int .i64)]
def bedrockref03_turn.tout : List Ty := [(.int .u64)]
def bedrockref03_turn.sem (k : Nat) : CallSem := callPure bedrockref03_turn.tin bedrockref03_turn.tout fun x => bedrockref03_turn k x.1 x.2.1
noncomputable def bedrockref03_turn.ctx (k : Nat) : Ctx := ⟨Try.prog, gam []⟩
theorem bedrockref03_turn.gok (k : Nat) : ∀ f, SemOK Try.prog f ((bedrockref03_turn.ctx k).Γ f) := gam_nil
theorem bedrockref03_turn.l0.round (k : Nat) : RoundIs (bedrockref03_turn.ctx k) (codeAt (Func.code Try.f63) [1, 0, 1, 0, 0]) (.nil) bedrockref03_turn.l0.T [.mask [0, 1, 5], .auto 0] bedrockref03_turn.l0.os (bedrockref03_turn.l0.r k) := by
  intro ρ x kn ke; kernel_rfl
theorem bedrockref03_turn.l0.ok (k : Nat) : StOK 0 Try.prog (.loop (codeAt (Func.code Try.f63) [1, 0, 1, 0, 0])) (pieceSem bedrockref03_turn.l0.T bedrockref03_turn.l0.os (bedrockref03_turn.l0 k k)) :=
  loop_ok (C := bedrockref03_turn.ctx k) (bedrockref03_turn.gok k) Try.mix AnnOK.nil (by kernel_rfl) (by kernel_rfl) (by kernel_rfl) (bedrockref03_turn.l0.round k) k
def bedrockref03_turn.ann (k : Nat) : Ann := .node [] none (.nil) (.node [] none (.node [] none (.nil) (.node [] none (.node [] (some (pieceSem bedrockref03_turn.l0.T bedrockref03_turn.l0.os (bedrockref03_turn.l0 k k))) .nil .nil) (.nil))) (.nil))
theorem bedrockref03_turn.body (k : Nat) : BodyIs (bedrockref03_turn.ctx k) Try.f63 (Func.code Try.f63) (bedrockref03_turn.ann k) bedrockref03_turn.tin bedrockref03_turn.tout (fun x K => bedrockref03_turn.c k x.1 x.2.1 K) := by
  intro ρ x K; kernel_rfl
theorem bedrockref03_turn.sem_ok (k : Nat) : SemOK Try.prog 63 (bedrockref03_turn.sem k) :=
  callPure_ok (C := bedrockref03_turn.ctx k) (bedrockref03_turn.gok k) Try.mix (c := Func.code Try.f63) (ann := bedrockref03_turn.ann k) (tin := bedrockref03_turn.tin) (tout := bedrockref03_turn.tout) (fun x K => bedrockref03_turn.c k x.1 x.2.1 K) Try.func63 (by kernel_rfl) (by kernel_rfl) (AnnOK.seq AnnOK.nil (AnnOK.seq (AnnOK.seq AnnOK.nil (AnnOK.block (AnnOK.loop (by kernel_rfl) (bedrockref03_turn.l0.ok k)))) AnnOK.nil)) (bedrockref03_turn.body k)

/-! 18 bedrock/bedrockref03.Round -/
def bedrockref03_Round.c (k : Nat) {ρ : Type} (v : (List Int)) (K : (List Int) × Unit → Option ρ) : Option ρ :=
  let v0 : Int := (List.getD v 0 (0 : Int))
  let v1 : Int := (List.getD v 1 (0 : Int))
  let v2 : Int := (IntKind.wrap IntKind.u64 (v0 + v1))
  let v3 : Int := (List.getD (List.set v 0 v2) 1 (0 : Int))
  (bedrockref03_turn k v3 (13 : Int)).bind fun t4 => let v5 : Int := (List.getD (List.set v 0 v2) 0 (0 : Int))
  let v6 : Int := (bitsOp BinOp.xor IntKind.u64 t4.1 v5)
  let v7 : Int := (List.getD (List.set (List.set v 0 v2) 1 v6) 0 (0 : Int))
  (bedrockref03_turn k v7 (32 : Int)).bind fun t8 => let v9 : Int := (List.getD (List.set (List.set (List.set v 0 v2) 1 v6) 0 t8.1) 2 (0 : Int))
  let v10 : Int := (List.getD (List.set (List.set (List.set v 0 v2) 1 v6) 0 t8.1) 3 (0 : Int))
  let v11 : Int := (IntKind.wrap IntKind.u64 (v9 + v10))
  let v12 : Int := (List.getD (List.set (List.set (List.set (List.set v 0 v2) 1 v6) 0 t8.1) 2 v11) 3 (0 : Int))
  (bedrockref03_turn k v12 (16 : Int)).bind fun t13 => let v14 : Int := (List.getD (List.set (List.set (List.set (List.set v 0 v2) 1 v6) 0 t8.1) 2 v11) 2 (0 : Int))
  let v15 : Int := (bitsOp BinOp.xor IntKind.u64 t13.1 v14)
  let v16 : Int := (List.getD (List.set (List.set (List.set (List.set (List.set v 0 v2) 1 v6) 0 t8.1) 2 v11) 3 v15) 0 (0 : Int))
  let v17 : Int := (List.getD (List.set (List.set (List.set (List.set (List.set v 0 v2) 1 v6) 0 t8.1) 2 v11) 3 v15) 3 (0 : Int))
  let v18 : Int := (IntKind.wrap IntKind.u64 (v16 + v17))
  let v19 : Int := (List.getD (List.set (List.set (List.set (List.set (List.set (List.set v 0 v2) 1 v6) 0 t8.1) 2 v11) 3 v15) 0 v18) 3 (0 : Int))
  (bedrockref03_turn k v19 (21 : Int)).bind fun t20 => let v21 : Int := (List.getD (List.set (List.set (List.set (List.set (List.set (List.set v 0 v2) 1 v6) 0 t8.1) 2 v11) 3 v15) 0 v18) 0 (0 : Int))
  let v22 : Int := (bitsOp BinOp.xor IntKind.u64 t20.1 v21)
  let v23 : Int := (List.getD (List.set (List.set (List.set (List.set (List.set (List.set (List.set v 0 v2) 1 v6) 0 t8.1) 2 v11) 3 v15) 0 v18) 3 v22) 2 (0 : Int))
  let v24 : Int := (List.getD (List.set (List.set (List.set (List.set (List.set (List.set (List.set v 0 v2) 1 v6) 0 t8.1) 2 v11) 3 v15) 0 v18) 3 v22) 1 (0 : Int))
  let v25 : Int := (IntKind.wrap IntKind.u64 (v23 + v24))
  let v26 : Int := (List.getD (List.set (List.set (List.set (List.set (List.set (List.set (List.set (List.set v 0 v2) 1 v6) 0 t8.1) 2 v11) 3 v15) 0 v18) 3 v22) 2 v25) 1 (0 : Int))
  (bedrockref03_turn k v26 (17 : Int)).bind fun t27 => let v28 : Int := (List.getD (List.set (List.set (List.set (List.set (List.set (List.set (List.set (List.set v 0 v2) 1 v6) 0 t8.1) 2 v11) 3 v15) 0 v18) 3 v22) 2 v25) 2 (0 : Int))
  let v29 : Int := (bitsOp BinOp.xor IntKind.u64 t27.1 v28)
  let v30 : Int := (List.getD (List.set (List.set (List.set (List.set (List.set (List.set (List.set (List.set (List.set v 0 v2) 1 v6) 0 t8.1) 2 v11) 3 v15) 0 v18) 3 v22) 2 v25) 1 v29) 2 (0 : Int))
  (bedrockref03_turn k v30 (32 : Int)).bind fun t31 => let v32 : (List Int) := (List.set (List.set (List.set (List.set (List.set (List.set (List.set (List.set (List.set (List.set v 0 v2) 1 v6) 0 t8.1) 2 v11) 3 v15) 0 v18) 3 v22) 2 v25) 1 v29) 2 t31.1)
  K (v32, ())
def bedrockref03_Round (k : Nat) (v : (List Int)) : Option ((List Int) × Unit) := bedrockref03_Round.c k v some
def bedrockref03_Round.tin : List Ty := [(.arr 4 (.int .u64))]
def bedrockref03_Round.tout : List Ty := [(.arr 4 (.int .u64))]
def bedrockref03_Round.sem (k : Nat) : CallSem := callPure bedrockref03_Round.tin bedrockref03_Round.tout fun x => bedrockref03_Round k x.1
noncomputable def bedrockref03_Round.ctx (k : Nat) : Ctx := ⟨Try.prog, gam [(63, (bedrockref03_turn.sem k))]⟩
theorem bedrockref03_Round.gok (k : Nat) : ∀ f, SemOK Try.prog f ((bedrockref03_Round.ctx k).Γ f) := (gam_cons (bedrockref03_turn.sem_ok k) gam_nil)
def bedrockref03_Round.ann (k : Nat) : Ann := .nil
theorem bedrockref03_Round.body (k : Nat) : BodyIs (bedrockref03_Round.ctx k) Try.f18 (Func.code Try.f18) (bedrockref03_Round.ann k) bedrockref03_Round.tin bedrockref03_Round.tout (fun x K => bedrockref03_Round.c k x.1 K) := by
  intro ρ x K; kernel_rfl
theorem bedrockref03_Round.sem_ok (k : Nat) : SemOK Try.prog 18 (bedrockref03_Round.sem k) :=
  callPure_ok (C := bedrockref03_Round.ctx k) (bedrockref03_Round.gok k) Try.mix (c := Func.code Try.f18) (ann := bedrockref03_Round.ann k) (tin := bedrockref03_Round.tin) (tout := bedrockref03_Round.tout) (fun x K => bedrockref03_Round.c k x.1 K) Try.func18 (by kernel_rfl) (by kernel_rfl) AnnOK.nil (bedrockref03_Round.body k)

/-! 16 bedrock/bedrockref03.Hash -/
abbrev bedrockref03_Hash.l0.σ : Type := ByteArray × ByteArray × (List Int) × Unit
abbrev bedrockref03_Hash.l0.τ : Type := (ByteArray × ByteArray × (List Int) × Unit)
def bedrockref03_Hash.l0.r (k : Nat) {ρ : Type} (x : bedrockref03_Hash.l0.σ) (kn : bedrockref03_Hash.l0.σ → Option ρ) (ke : bedrockref03_Hash.l0.τ → Option ρ) : Option ρ :=
  let v5 : Int := (((ByteArray.size x.2.1) : Nat) : Int)
  bif ((Int.tmod v5 (8 : Int)) != (7 : Int)) then (bif (Nat.ble ((ByteArray.size x.2.1) + 1) 9223372036854775807) then (let v6 : ByteArray := (x.2.1 ++ (⟨(List.toArray [0])⟩ : ByteArray))
  kn (x.1, (v6, (x.2.2.1, ())))) else (none)) else (ke (x.1, (x.2.1, (x.2.2.1, ()))))
def bedrockref03_Hash.l0 (k : Nat) : Nat → bedrockref03_Hash.l0.σ → Option bedrockref03_Hash.l0.τ := loopJ (bedrockref03_Hash.l0.r k)
def bedrockref03_Hash.l0.T : StT := ⟨us 2 ++ .dat .str :: us 4 ++ .ptr 0 [] :: .dat .str :: us 70, [.dat (.arr 4 (.int .u64))]⟩
def bedrockref03_Hash.l0.os : List Out := [⟨(.exit 0), [.mask [2, 7, 8], .auto 0], ⟨us 2 ++ .dat .str :: us 4 ++ .ptr 0 [] :: .dat .str :: us 70, [.dat (.arr 4 (.int .u64))]⟩⟩]
abbrev bedrockref03_Hash.l1.σ : Type := ByteArray × Int × (List Int) × Unit
abbrev bedrockref03_Hash.l1.τ : Type := ((List Int) × Unit)
def bedrockref03_Hash.l1.r (k : Nat) {ρ : Type} (x : bedrockref03_Hash.l1.σ) (kn : bedrockref03_Hash.l1.σ → Option ρ) (ke : bedrockref03_Hash.l1.τ → Option ρ) : Option ρ :=
  let v11 : Int := (((ByteArray.size x.1) : Nat) : Int)
  bif (decide (x.2.1 < v11)) then (let v12 : Int := (IntKind.wrap IntKind.i64 (x.2.1 + (8 : Int)))
  bif (decide (((0 : Int) ≤ x.2.1) ∧ ((x.2.1 ≤ v12) ∧ (v12 ≤ (((ByteArray.size x.1) : Nat) : Int))))) then (let v13 : ByteArray := (ByteArray.extract x.1 (Int.toNat x.2.1) (Int.toNat v12))
  (bedrockref01_Get k v13).bind fun t14 => let v15 : Int := (List.getD x.2.2.1 3 (0 : Int))
  let v16 : Int := (bitsOp BinOp.xor IntKind.u64 v15 t14.1)
  let v17 : (List Int) := (List.set x.2.2.1 3 v16)
  (bedrockref03_Round k v17).bind fun t18 => (bedrockref03_Round k t18.1).bind fun t19 => let v20 : Int := (List.getD t19.1 0 (0 : Int))
  let v21 : Int := (bitsOp BinOp.xor IntKind.u64 v20 t14.1)
  let v22 : Int := (IntKind.wrap IntKind.i64 (x.2.1 + (8 : Int)))
  kn (x.1, (v22, ((List.set t19.1 0 v21), ())))) else (none)) else (ke (x.2.2.1, ()))
def bedrockref03_Hash.l1 (k : Nat) : Nat → bedrockref03_Hash.l1.σ → Option bedrockref03_Hash.l1.τ := loopJ (bedrockref03_Hash.l1.r k)
def bedrockref03_Hash.l1.T : StT := ⟨us 7 ++ .ptr 0 [] :: .dat .str :: .dat (.int .i64) :: us 69, [.dat (.arr 4 (.int .u64))]⟩
def bedrockref03_Hash.l1.os : List Out := [⟨(.exit 2), [.mask [7], .auto 0], ⟨us 7 ++ .ptr 0 [] :: us 71, [.dat (.arr 4 (.int .u64))]⟩⟩]
def bedrockref03_Hash.c (k : Nat) {ρ : Type} (k0 : Int) (k1 : Int) (s : ByteArray) (K : Int × Unit → Option ρ) : Option ρ :=
  let v0 : Int := (bitsOp BinOp.xor IntKind.u64 k0 (8317987319222330741 : Int))
  let v1 : Int := (bitsOp BinOp.xor IntKind.u64 k1 (7237128888997146477 : Int))
  let v2 : Int := (bitsOp BinOp.xor IntKind.u64 k0 (7816392313619706465 : Int))
  let v3 : Int := (bitsOp BinOp.xor IntKind.u64 k1 (8387220255154660723 : Int))
  let v4 : (List Int) := (List.set (List.set (List.set (List.set (List.replicate 4 (0 : Int)) 0 v0) 1 v1) 2 v2) 3 v3)
  (bedrockref03_Hash.l0 k k (s, (s, (v4, ())))).bind fun t7 => let v8 : Int := (((ByteArray.size t7.1) : Nat) : Int)
  let v9 : ByteArray := (bytesOf (List.set (List.replicate 1 (0 : Int)) 0 (IntKind.wrap IntKind.u8 v8)))
  bif (Nat.ble ((ByteArray.size t7.2.1) + (ByteArray.size v9)) 9223372036854775807) then (let v10 : ByteArray := (t7.2.1 ++ v9)
  (bedrockref03_Hash.l1 k k (v10, ((0 : Int), (t7.2.2.1, ())))).bind fun t23 => let v24 : Int := (List.getD t23.1 2 (0 : Int))
  let v25 : Int := (bitsOp BinOp.xor IntKind.u64 v24 (255 : Int))
  let v26 : (List Int) := (List.set t23.1 2 v25)
  (bedrockref03_Round k v26).bind fun t27 => (bedrockref03_Round k t27.1).bind fun t28 => (bedrockref03_Round k t28.1).bind fun t29 => (bedrockref03_Round k t29.1).bind fun t30 => let v31 : Int := (List.getD t30.1 0 (0 : Int))
  let v32 : Int := (List.getD t30.1 1 (0 : Int))
  let v33 : Int := (List.getD t30.1 2 (0 : Int))
  let v34 : Int := (bitsOp BinOp.xor IntKind.u64 (bitsOp BinOp.xor IntKind.u64 v31 v32) v33)
  let v35 : Int := (List.getD t30.1 3 (0 : Int))
  K ((bitsOp BinOp.xor IntKind.u64 v34 v35), ())) else (none)
def bedrockref03_Hash (k : Nat) (k0 : Int) (k1 : Int) (s : ByteArray) : Option (Int × Unit) := bedrockref03_Hash.c k k0 k1 s some
def bedrockref03_Hash.tin : List Ty := [(.int .u64), (.int .u64), .str]
def bedrockref03_Hash.tout : List Ty := [(.int .u64)]
def bedrockref03_Hash.sem (k : Nat) : CallSem := callPure bedrockref03_Hash.tin bedrockref03_Hash.tout fun x => bedrockref03_Hash k x.1 x.2.1 x.2.2.1
noncomputable def bedrockref03_Hash.ctx (k : Nat) : Ctx := ⟨Try.prog, gam [(61, (bedrockref01_Get.sem k)), (18, (bedrockref03_Round.sem k))]⟩
theorem bedrockref03_Hash.gok (k : Nat) : ∀ f, SemOK Try.prog f ((bedrockref03_Hash.ctx k).Γ f) := (gam_cons (bedrockref01_Get.sem_ok k) (gam_cons (bedrockref03_Round.sem_ok k) gam_nil))
theorem bedrockref03_Hash.l0.round (k : Nat) : RoundIs (bedrockref03_Hash.ctx k) (codeAt (Func.code Try.f16) [1, 1, 1, 0, 0, 0]) (.nil) bedrockref03_Hash.l0.T [.mask [2, 7, 8], .auto 0] bedrockref03_Hash.l0.os (bedrockref03_Hash.l0.r k) := by
  intro ρ x kn ke; kernel_rfl
theorem bedrockref03_Hash.l0.ok (k : Nat) : StOK 0 Try.prog (.loop (codeAt (Func.code Try.f16) [1, 1, 1, 0, 0, 0])) (pieceSem bedrockref03_Hash.l0.T bedrockref03_Hash.l0.os (bedrockref03_Hash.l0 k k)) :=
  loop_ok (C := bedrockref03_Hash.ctx k) (bedrockref03_Hash.gok k) Try.mix AnnOK.nil (by kernel_rfl) (by kernel_rfl) (by kernel_rfl) (bedrockref03_Hash.l0.round k) k
theorem bedrockref03_Hash.l1.round (k : Nat) : RoundIs (bedrockref03_Hash.ctx k) (codeAt (Func.code Try.f16) [1, 1, 1, 1, 1, 0, 1, 0, 0]) (.nil) bedrockref03_Hash.l1.T [.mask [7, 8, 9], .auto 0] bedrockref03_Hash.l1.os (bedrockref03_Hash.l1.r k) := by
  intro ρ x kn ke; kernel_rfl
theorem bedrockref03_Hash.l1.ok (k : Nat) : StOK 0 Try.prog (.loop (codeAt (Func.code Try.f16) [1, 1, 1, 1, 1, 0, 1, 0, 0])) (pieceSem bedrockref03_Hash.l1.T bedrockref03_Hash.l1.os (bedrockref03_Hash.l1 k k)) :=
  loop_ok (C := bedrockref03_Hash.ctx k) (bedrockref03_Hash.gok k) Try.mix AnnOK.nil (by kernel_rfl) (by kernel_rfl) (by kernel_rfl) (bedrockref03_Hash.l1.round k) k
def bedrockref03_Hash.ann (k : Nat) : Ann := .node [] none (.nil) (.node [] none (.nil) (.node [] none (.nil) (.node [] none (.node [] none (.node [.mask [2, 7, 8], .auto 0] (some (pieceSem bedrockref03_Hash.l0.T bedrockref03_Hash.l0.os (bedrockref03_Hash.l0 k k))) .nil .nil) (.nil)) (.node [] none (.nil) (.node [] none (.node [] none (.nil) (.node [] none (.node [.mask [7, 8, 9], .auto 0] (some (pieceSem bedrockref03_Hash.l1.T bedrockref03_Hash.l1.os (bedrockref03_Hash.l1 k k))) .nil .nil) (.nil))) (.nil))))))
theorem bedrockref03_Hash.body (k : Nat) : BodyIs (bedrockref03_Hash.ctx k) Try.f16 (Func.code Try.f16) (bedrockref03_Hash.ann k) bedrockref03_Hash.tin bedrockref03_Hash.tout (fun x K => bedrockref03_Hash.c k x.1 x.2.1 x.2.2.1 K) := by
  intro ρ x K; kernel_rfl
theorem bedrockref03_Hash.sem_ok (k : Nat) : SemOK Try.prog 16 (bedrockref03_Hash.sem k) :=
  callPure_ok (C := bedrockref03_Hash.ctx k) (bedrockref03_Hash.gok k) Try.mix (c := Func.code Try.f16) (ann := bedrockref03_Hash.ann k) (tin := bedrockref03_Hash.tin) (tout := bedrockref03_Hash.tout) (fun x K => bedrockref03_Hash.c k x.1 x.2.1 x.2.2.1 K) Try.func16 (by kernel_rfl) (by kernel_rfl) (AnnOK.seq AnnOK.nil (AnnOK.seq AnnOK.nil (AnnOK.seq AnnOK.nil (AnnOK.seq (AnnOK.block (AnnOK.loop (by kernel_rfl) (bedrockref03_Hash.l0.ok k))) (AnnOK.seq AnnOK.nil (AnnOK.seq (AnnOK.seq AnnOK.nil (AnnOK.block (AnnOK.loop (by kernel_rfl) (bedrockref03_Hash.l1.ok k)))) AnnOK.nil)))))) (bedrockref03_Hash.body k)

/-! 31 bedrock/bedrockref03.Short -/
def bedrockref03_Short.c (k : Nat) {ρ : Type} (k0 : Int) (k1 : Int) (id : (List Int)) (K : Int × Unit → Option ρ) : Option ρ :=
  let v0 : ByteArray := (bytesOf (List.take 32 (List.drop 0 id)))
  (bedrockref03_Hash k k0 k1 v0).bind fun t1 => let v2 : Int := (Int.tmod t1.1 (281474976710656 : Int))
  K (v2, ())
def bedrockref03_Short (k : Nat) (k0 : Int) (k1 : Int) (id : (List Int)) : Option (Int × Unit) := bedrockref03_Short.c k k0 k1 id some
def bedrockref03_Short.tin : List Ty := [(.int .u64), (.int .u64), (.arr 32 (.int .u8))]
def bedrockref03_Short.tout : List Ty := [(.int .u64)]
def bedrockref03_Short.sem (k : Nat) : CallSem := callPure bedrockref03_Short.tin bedrockref03_Short.tout fun x => bedrockref03_Short k x.1 x.2.1 x.2.2.1
noncomputable def bedrockref03_Short.ctx (k : Nat) : Ctx := ⟨Try.prog, gam [(16, (bedrockref03_Hash.sem k))]⟩
theorem bedrockref03_Short.gok (k : Nat) : ∀ f, SemOK Try.prog f ((bedrockref03_Short.ctx k).Γ f) := (gam_cons (bedrockref03_Hash.sem_ok k) gam_nil)
def bedrockref03_Short.ann (k : Nat) : Ann := .nil
theorem bedrockref03_Short.body (k : Nat) : BodyIs (bedrockref03_Short.ctx k) Try.f31 (Func.code Try.f31) (bedrockref03_Short.ann k) bedrockref03_Short.tin bedrockref03_Short.tout (fun x K => bedrockref03_Short.c k x.1 x.2.1 x.2.2.1 K) := by
  intro ρ x K; kernel_rfl
theorem bedrockref03_Short.sem_ok (k : Nat) : SemOK Try.prog 31 (bedrockref03_Short.sem k) :=
  callPure_ok (C := bedrockref03_Short.ctx k) (bedrockref03_Short.gok k) Try.mix (c := Func.code Try.f31) (ann := bedrockref03_Short.ann k) (tin := bedrockref03_Short.tin) (tout := bedrockref03_Short.tout) (fun x K => bedrockref03_Short.c k x.1 x.2.1 x.2.2.1 K) Try.func31 (by kernel_rfl) (by kernel_rfl) AnnOK.nil (bedrockref03_Short.body k)

/-! 12 bedrock/bedrocklaw03.SipShorts -/
abbrev bedrocklaw03_SipShorts.p0.σ : Type := ByteArray × Int × ByteArray × Int × Int × (List Int) × (Int × (Int × Unit)) × Unit
abbrev bedrocklaw03_SipShorts.p0.τ : Type := (Bool × Unit) ⊕ (ByteArray × Int × ByteArray × Int × Int × (List Int) × (Int × (Int × Unit)) × Unit)
def bedrocklaw03_SipShorts.p0.r (k : Nat) {ρ : Type} (x : bedrocklaw03_SipShorts.p0.σ) (K : bedrocklaw03_SipShorts.p0.τ → Option ρ) : Option ρ :=
  (bedrocklaw03_awake k ).bind fun t7 => bif (!t7.1) then (K (.inl (false, ()))) else (let v8 : Int := (((ByteArray.size x.1) : Nat) : Int)
  bif (!((x.2.2.2.2.1 == (0 : Int)) == (v8 == (80 : Int)))) then (K (.inl (false, ()))) else (bif (x.2.2.2.2.1 != (0 : Int)) then (bif (x.2.2.2.2.1 != (1 : Int)) then (K (.inl (false, ()))) else (bif (!((x.2.2.2.2.2.2.1.1 == (0 : Int)) && ((x.2.2.2.2.2.2.1.2.1 == (0 : Int)) && true))) then (K (.inl (false, ()))) else (K (.inr (x.1, (x.2.1, (x.2.2.1, (x.2.2.2.1, (x.2.2.2.2.1, (x.2.2.2.2.2.1, ((x.2.2.2.2.2.2.1.1, (x.2.2.2.2.2.2.1.2.1, ())), ()))))))))))) else (K (.inr (x.1, (x.2.1, (x.2.2.1, (x.2.2.2.1, (x.2.2.2.2.1, (x.2.2.2.2.2.1, ((x.2.2.2.2.2.2.1.1, (x.2.2.2.2.2.2.1.2.1, ())), ())))))))))))
def bedrocklaw03_SipShorts.p0 (k : Nat) (x : bedrocklaw03_SipShorts.p0.σ) : Option bedrocklaw03_SipShorts.p0.τ := bedrocklaw03_SipShorts.p0.r k x some
def bedrocklaw03_SipShorts.p0.T : StT := ⟨us 3 ++ .dat .str :: .dat (.int .u64) :: .ptr 0 [] :: .dat .str :: .dat (.int .i64) :: .ptr 1 [] :: .dat (.int .i64) :: us 171, [.dat (.arr 32 (.int .u8)), .dat (.pair (.int .u64) (.pair (.int .u64) .unit))]⟩
def bedrocklaw03_SipShorts.p0.os : List Out := [⟨.ret, [.mask [2], .auto 0], ⟨us 2 ++ .dat .bool :: us 178, []⟩⟩, ⟨.normal, [.mask [3, 4, 5, 6, 7, 8, 9], .auto 0], ⟨us 3 ++ .dat .str :: .dat (.int .u64) :: .ptr 0 [] :: .dat .str :: .dat (.int .i64) :: .ptr 1 [] :: .dat (.int .i64) :: us 171, [.dat (.arr 32 (.int .u8)), .dat (.pair (.int .u64) (.pair (.int .u64) .unit))]⟩⟩]
abbrev bedrocklaw03_SipShorts.p1.σ : Type := ByteArray × Int × ByteArray × Int × Int × (List Int) × (Int × (Int × Unit)) × Unit
abbrev bedrocklaw03_SipShorts.p1.τ : Type := (Bool × Unit) ⊕ (Int × ByteArray × Int × (List Int) × (Int × (Int × Unit)) × Unit)
def bedrocklaw03_SipShorts.p1.r (k : Nat) {ρ : Type} (x : bedrocklaw03_SipShorts.p1.σ) (K : bedrocklaw03_SipShorts.p1.τ → Option ρ) : Option ρ :=
  bif (x.2.2.2.2.1 == (0 : Int)) then ((bedrockref03_Keys k x.1 x.2.1).bind fun t12 => let v13 : Int := t12.1
  let v14 : Int := t12.2.1
  let v15 : Int := x.2.2.2.2.2.2.1.1
  bif (v15 != v13) then (K (.inl (false, ()))) else (let v16 : Int := x.2.2.2.2.2.2.1.2.1
  bif (v16 != v14) then (K (.inl (false, ()))) else (K (.inr (x.2.1, (x.2.2.1, (x.2.2.2.1, (x.2.2.2.2.2.1, ((x.2.2.2.2.2.2.1.1, (x.2.2.2.2.2.2.1.2.1, ())), ()))))))))) else (K (.inr (x.2.1, (x.2.2.1, (x.2.2.2.1, (x.2.2.2.2.2.1, ((x.2.2.2.2.2.2.1.1, (x.2.2.2.2.2.2.1.2.1, ())), ())))))))
def bedrocklaw03_SipShorts.p1 (k : Nat) (x : bedrocklaw03_SipShorts.p1.σ) : Option bedrocklaw03_SipShorts.p1.τ := bedrocklaw03_SipShorts.p1.r k x some
def bedrocklaw03_SipShorts.p1.T : StT := ⟨us 3 ++ .dat .str :: .dat (.int .u64) :: .ptr 0 [] :: .dat .str :: .dat (.int .i64) :: .ptr 1 [] :: .dat (.int .i64) :: us 171, [.dat (.arr 32 (.int .u8)), .dat (.pair (.int .u64) (.pair (.int .u64) .unit))]⟩
def bedrocklaw03_SipShorts.p1.os : List Out := [⟨.ret, [.mask [2], .auto 0], ⟨us 2 ++ .dat .bool :: us 178, []⟩⟩, ⟨.normal, [.mask [4, 5, 6, 7, 8], .auto 0], ⟨us 4 ++ .dat (.int .u64) :: .ptr 0 [] :: .dat .str :: .dat (.int .i64) :: .ptr 1 [] :: us 172, [.dat (.arr 32 (.int .u8)), .dat (.pair (.int .u64) (.pair (.int .u64) .unit))]⟩⟩]
abbrev bedrocklaw03_SipShorts.p2.σ : Type := Int × ByteArray × Int × Int × ByteArray × Int × Int × Int × Int × (List Int) × (Int × (Int × Unit)) × Unit
abbrev bedrocklaw03_SipShorts.p2.τ : Type := (Bool × Unit) ⊕ (ByteArray × Int × Unit)
def bedrocklaw03_SipShorts.p2.r (k : Nat) {ρ : Type} (x : bedrocklaw03_SipShorts.p2.σ) (K : bedrocklaw03_SipShorts.p2.τ → Option ρ) : Option ρ :=
  let v31 : Int := x.2.2.2.2.2.2.2.2.2.2.1.1
  let v32 : Int := x.2.2.2.2.2.2.2.2.2.2.1.2.1
  let v33 : (List Int) := x.2.2.2.2.2.2.2.2.2.1
  (bedrockref03_Short k v31 v32 v33).bind fun t34 => bif (x.2.2.2.1 != t34.1) then (K (.inl (false, ()))) else (bif (x.2.2.2.2.2.1 != (0 : Int)) then (K (.inl (false, ()))) else ((bedrockref01_Low k x.2.2.2.1 (6 : Int)).bind fun t35 => bif (!(strEq x.2.2.2.2.1 t35.1)) then (K (.inl (false, ()))) else (bif (x.2.2.2.2.2.2.1 != x.2.2.2.1) then (K (.inl (false, ()))) else (bif (x.2.2.2.2.2.2.2.1 != (0 : Int)) then (K (.inl (false, ()))) else (bif (!((x.2.2.2.2.2.2.2.2.1 == (0 : Int)) == (decide (x.1 < (281474976710656 : Int))))) then (K (.inl (false, ()))) else (bif (x.2.2.2.2.2.2.2.2.1 != (0 : Int)) then (bif (x.2.2.2.2.2.2.2.2.1 != (30 : Int)) then (K (.inl (false, ()))) else (K (.inr (x.2.1, (x.2.2.1, ()))))) else (K (.inr (x.2.1, (x.2.2.1, ()))))))))))
def bedrocklaw03_SipShorts.p2 (k : Nat) (x : bedrocklaw03_SipShorts.p2.σ) : Option bedrocklaw03_SipShorts.p2.τ := bedrocklaw03_SipShorts.p2.r k x some
def bedrocklaw03_SipShorts.p2.T : StT := ⟨us 4 ++ .dat (.int .u64) :: .ptr 0 [] :: .dat .str :: .dat (.int .i64) :: .ptr 1 [] :: us 3 ++ .dat (.int .u64) :: .dat .str :: .dat (.int .i64) :: .dat (.int .u64) :: .dat (.int .i64) :: us 1 ++ .dat (.int .i64) :: us 162, [.dat (.arr 32 (.int .u8)), .dat (.pair (.int .u64) (.pair (.int .u64) .unit))]⟩
def bedrocklaw03_SipShorts.p2.os : List Out := [⟨.ret, [.mask [2], .auto 0], ⟨us 2 ++ .dat .bool :: us 178, []⟩⟩, ⟨.normal, [.mask [6, 7], .auto 0], ⟨us 6 ++ .dat .str :: .dat (.int .i64) :: us 173, []⟩⟩]
abbrev bedrocklaw03_SipShorts.p3.σ : Type := ByteArray × Int × Int × Int × Unit
abbrev bedrocklaw03_SipShorts.p3.τ : Type := (Bool × Unit) ⊕ (ByteArray × Int × Int × Int × Unit)
def bedrocklaw03_SipShorts.p3.r (k : Nat) {ρ : Type} (x : bedrocklaw03_SipShorts.p3.σ) (K : bedrocklaw03_SipShorts.p3.τ → Option ρ) : Option ρ :=
  bif (decide (x.2.1 < (0 : Int))) then (bif (x.2.2.1 == (0 : Int)) then (K (.inl ((x.2.2.2.1 == (1 : Int)), ()))) else (K (.inl (false, ())))) else (let v42 : Int := (((ByteArray.size x.1) : Nat) : Int)
  bif (decide (x.2.1 > v42)) then (bif (x.2.2.1 == (0 : Int)) then (K (.inl ((x.2.2.2.1 == (1 : Int)), ()))) else (K (.inl (false, ())))) else (K (.inr (x.1, (x.2.1, (x.2.2.1, (x.2.2.2.1, ())))))))
def bedrocklaw03_SipShorts.p3 (k : Nat) (x : bedrocklaw03_SipShorts.p3.σ) : Option bedrocklaw03_SipShorts.p3.τ := bedrocklaw03_SipShorts.p3.r k x some
def bedrocklaw03_SipShorts.p3.T : StT := ⟨us 6 ++ .dat .str :: .dat (.int .i64) :: us 11 ++ .dat (.int .u64) :: .dat (.int .i64) :: us 160, []⟩
def bedrocklaw03_SipShorts.p3.os : List Out := [⟨.ret, [.mask [2], .auto 0], ⟨us 2 ++ .dat .bool :: us 178, []⟩⟩, ⟨.normal, [.mask [6, 7, 19, 20], .auto 0], ⟨us 6 ++ .dat .str :: .dat (.int .i64) :: us 11 ++ .dat (.int .u64) :: .dat (.int .i64) :: us 160, []⟩⟩]
def bedrocklaw03_SipShorts.c (k : Nat) {ρ : Type} (d : (ByteArray × (Int × ((List Int) × (ByteArray × (Int × Unit)))))) (K : Bool × Unit → Option ρ) : Option ρ :=
  let v0 : ByteArray := d.1
  let v1 : Int := d.2.1
  let v2 : (List Int) := d.2.2.1
  let v3 : ByteArray := d.2.2.2.1
  let v4 : Int := d.2.2.2.2.1
  (sip_Keys k v0 v1).bind fun t5 => let v6 : Int := t5.2.1
  (bedrocklaw03_SipShorts.p0 k (v0, (v1, (v3, (v4, (v6, (v2, ((t5.1.1, (t5.1.2.1, ())), ())))))))).bind fun t9 => (match t9 with | .inl t10 => (K (t10.1, ())) | .inr (t11) => ((bedrocklaw03_SipShorts.p1 k (t11.1, (t11.2.1, (t11.2.2.1, (t11.2.2.2.1, (t11.2.2.2.2.1, (t11.2.2.2.2.2.1, ((t11.2.2.2.2.2.2.1.1, (t11.2.2.2.2.2.2.1.2.1, ())), ())))))))).bind fun t17 => (match t17 with | .inl t18 => (K (t18.1, ())) | .inr (t19) => (let v20 : (List Int) := t19.2.2.2.1
  (sip_Short k (t19.2.2.2.2.1.1, (t19.2.2.2.2.1.2.1, ())) v20).bind fun t21 => (sip_ShortBytes k t21.1).bind fun t22 => let v23 : ByteArray := t22.1
  let v24 : Int := t22.2.1
  (sip_TakeShort k v23 (0 : Int)).bind fun t25 => let v26 : Int := t25.1
  let v27 : Int := t25.2.1
  (sip_ShortBytes k t19.1).bind fun t28 => let v29 : ByteArray := t28.1
  let v30 : Int := t28.2.1
  (bedrocklaw03_SipShorts.p2 k (t19.1, (t19.2.1, (t19.2.2.1, (t21.1, (v23, (v24, (v26, (v27, (v30, (t19.2.2.2.1, ((t19.2.2.2.2.1.1, (t19.2.2.2.2.1.2.1, ())), ())))))))))))).bind fun t36 => (match t36 with | .inl t37 => (K (t37.1, ())) | .inr (t38) => ((sip_TakeShort k t38.1 t38.2.1).bind fun t39 => let v40 : Int := t39.1
  let v41 : Int := t39.2.1
  (bedrocklaw03_SipShorts.p3 k (t38.1, (t38.2.1, (v40, (v41, ()))))).bind fun t43 => (match t43 with | .inl t44 => (K (t44.1, ())) | .inr (t45) => (let v46 : Int := (((ByteArray.size t45.1) : Nat) : Int)
  let v47 : Int := (IntKind.wrap IntKind.i64 (v46 - t45.2.1))
  bif (decide (v47 < (6 : Int))) then (bif (t45.2.2.1 == (0 : Int)) then (K ((t45.2.2.2.1 == (4 : Int)), ())) else (K (false, ()))) else (bif (t45.2.2.2.1 == (0 : Int)) then (let v48 : Int := (IntKind.wrap IntKind.i64 (t45.2.1 + (6 : Int)))
  bif (decide (((0 : Int) ≤ t45.2.1) ∧ ((t45.2.1 ≤ v48) ∧ (v48 ≤ (((ByteArray.size t45.1) : Nat) : Int))))) then (let v49 : ByteArray := (ByteArray.extract t45.1 (Int.toNat t45.2.1) (Int.toNat v48))
  (bedrockref01_Get k v49).bind fun t50 => K ((t45.2.2.1 == t50.1), ())) else (none)) else (K (false, ())))))))))))
def bedrocklaw03_SipShorts (k : Nat) (d : (ByteArray × (Int × ((List Int) × (ByteArray × (Int × Unit)))))) : Option (Bool × Unit) := bedrocklaw03_SipShorts.c k d some
def bedrocklaw03_SipShorts.tin : List Ty := [(.pair .str (.pair (.int .u64) (.pair (.arr 32 (.int .u8)) (.pair .str (.pair (.int .i64) .unit)))))]
def bedrocklaw03_SipShorts.tout : List Ty := [.bool]
def bedrocklaw03_SipShorts.sem (k : Nat) : CallSem := callPure bedrocklaw03_SipShorts.tin bedrocklaw03_SipShorts.tout fun x => bedrocklaw03_SipShorts k x.1
noncomputable def bedrocklaw03_SipShorts.ctx (k : Nat) : Ctx := ⟨Try.prog, gam [(55, (sip_Keys.sem k)), (14, (bedrocklaw03_awake.sem k)), (56, (bedrockref03_Keys.sem k)), (57, (sip_Short.sem k)), (58, (sip_ShortBytes.sem k)), (59, (sip_TakeShort.sem k)), (31, (bedrockref03_Short.sem k)), (60, (bedrockref01_Low.sem k)), (61, (bedrockref01_Get.sem k))]⟩
theorem bedrocklaw03_SipShorts.gok (k : Nat) : ∀ f, SemOK Try.prog f ((bedrocklaw03_SipShorts.ctx k).Γ f) := (gam_cons (sip_Keys.sem_ok k) (gam_cons (bedrocklaw03_awake.sem_ok k) (gam_cons (bedrockref03_Keys.sem_ok k) (gam_cons (sip_Short.sem_ok k) (gam_cons (sip_ShortBytes.sem_ok k) (gam_cons (sip_TakeShort.sem_ok k) (gam_cons (bedrockref03_Short.sem_ok k) (gam_cons (bedrockref01_Low.sem_ok k) (gam_cons (bedrockref01_Get.sem_ok k) gam_nil)))))))))
theorem bedrocklaw03_SipShorts.p0.is (k : Nat) : PieceIs (bedrocklaw03_SipShorts.ctx k) (codeAt (Func.code Try.f12) [1, 1, 1, 0]) (.nil) bedrocklaw03_SipShorts.p0.T bedrocklaw03_SipShorts.p0.os (bedrocklaw03_SipShorts.p0.r k) := by
  intro ρ x K; kernel_rfl
theorem bedrocklaw03_SipShorts.p0.ok (k : Nat) : StOK 0 Try.prog (codeAt (Func.code Try.f12) [1, 1, 1, 0]) (pieceSem bedrocklaw03_SipShorts.p0.T bedrocklaw03_SipShorts.p0.os (bedrocklaw03_SipShorts.p0 k)) :=
  piece_ok (C := bedrocklaw03_SipShorts.ctx k) (T := bedrocklaw03_SipShorts.p0.T) (os := bedrocklaw03_SipShorts.p0.os) (bedrocklaw03_SipShorts.gok k) Try.mix (fun x K => bedrocklaw03_SipShorts.p0.r k x K) AnnOK.nil (by kernel_rfl) (by kernel_rfl) (bedrocklaw03_SipShorts.p0.is k)
theorem bedrocklaw03_SipShorts.p1.is (k : Nat) : PieceIs (bedrocklaw03_SipShorts.ctx k) (codeAt (Func.code Try.f12) [1, 1, 1, 1, 0]) (.nil) bedrocklaw03_SipShorts.p1.T bedrocklaw03_SipShorts.p1.os (bedrocklaw03_SipShorts.p1.r k) := by
  intro ρ x K; kernel_rfl
theorem bedrocklaw03_SipShorts.p1.ok (k : Nat) : StOK 0 Try.prog (codeAt (Func.code Try.f12) [1, 1, 1, 1, 0]) (pieceSem bedrocklaw03_SipShorts.p1.T bedrocklaw03_SipShorts.p1.os (bedrocklaw03_SipShorts.p1 k)) :=
  piece_ok (C := bedrocklaw03_SipShorts.ctx k) (T := bedrocklaw03_SipShorts.p1.T) (os := bedrocklaw03_SipShorts.p1.os) (bedrocklaw03_SipShorts.gok k) Try.mix (fun x K => bedrocklaw03_SipShorts.p1.r k x K) AnnOK.nil (by kernel_rfl) (by kernel_rfl) (bedrocklaw03_SipShorts.p1.is k)
theorem bedrocklaw03_SipShorts.p2.is (k : Nat) : PieceIs (bedrocklaw03_SipShorts.ctx k) (codeAt (Func.code Try.f12) [1, 1, 1, 1, 1, 1, 1, 1, 1, 0]) (.nil) bedrocklaw03_SipShorts.p2.T bedrocklaw03_SipShorts.p2.os (bedrocklaw03_SipShorts.p2.r k) := by
  intro ρ x K; kernel_rfl
theorem bedrocklaw03_SipShorts.p2.ok (k : Nat) : StOK 0 Try.prog (codeAt (Func.code Try.f12) [1, 1, 1, 1, 1, 1, 1, 1, 1, 0]) (pieceSem bedrocklaw03_SipShorts.p2.T bedrocklaw03_SipShorts.p2.os (bedrocklaw03_SipShorts.p2 k)) :=
  piece_ok (C := bedrocklaw03_SipShorts.ctx k) (T := bedrocklaw03_SipShorts.p2.T) (os := bedrocklaw03_SipShorts.p2.os) (bedrocklaw03_SipShorts.gok k) Try.mix (fun x K => bedrocklaw03_SipShorts.p2.r k x K) AnnOK.nil (by kernel_rfl) (by kernel_rfl) (bedrocklaw03_SipShorts.p2.is k)
theorem bedrocklaw03_SipShorts.p3.is (k : Nat) : PieceIs (bedrocklaw03_SipShorts.ctx k) (codeAt (Func.code Try.f12) [1, 1, 1, 1, 1, 1, 1, 1, 1, 1, 1, 0]) (.nil) bedrocklaw03_SipShorts.p3.T bedrocklaw03_SipShorts.p3.os (bedrocklaw03_SipShorts.p3.r k) := by
  intro ρ x K; kernel_rfl
theorem bedrocklaw03_SipShorts.p3.ok (k : Nat) : StOK 0 Try.prog (codeAt (Func.code Try.f12) [1, 1, 1, 1, 1, 1, 1, 1, 1, 1, 1, 0]) (pieceSem bedrocklaw03_SipShorts.p3.T bedrocklaw03_SipShorts.p3.os (bedrocklaw03_SipShorts.p3 k)) :=
  piece_ok (C := bedrocklaw03_SipShorts.ctx k) (T := bedrocklaw03_SipShorts.p3.T) (os := bedrocklaw03_SipShorts.p3.os) (bedrocklaw03_SipShorts.gok k) Try.mix (fun x K => bedrocklaw03_SipShorts.p3.r k x K) AnnOK.nil (by kernel_rfl) (by kernel_rfl) (bedrocklaw03_SipShorts.p3.is k)
def bedrocklaw03_SipShorts.ann (k : Nat) : Ann := .node [] none (.nil) (.node [] none (.nil) (.node [] none (.nil) (.node [] none (.node [.mask [3, 4, 5, 6, 7, 8, 9], .auto 0] (some (pieceSem bedrocklaw03_SipShorts.p0.T bedrocklaw03_SipShorts.p0.os (bedrocklaw03_SipShorts.p0 k))) .nil .nil) (.node [] none (.node [.mask [3, 4, 5, 6, 7, 8, 9], .auto 0] (some (pieceSem bedrocklaw03_SipShorts.p1.T bedrocklaw03_SipShorts.p1.os (bedrocklaw03_SipShorts.p1 k))) .nil .nil) (.node [] none (.nil) (.node [] none (.nil) (.node [] none (.nil) (.node [] none (.nil) (.node [] none (.node [.mask [4, 5, 6, 7, 8, 12, 13, 14, 15, 16, 18], .auto 0] (some (pieceSem bedrocklaw03_SipShorts.p2.T bedrocklaw03_SipShorts.p2.os (bedrocklaw03_SipShorts.p2 k))) .nil .nil) (.node [] none (.nil) (.node [] none (.node [] (some (pieceSem bedrocklaw03_SipShorts.p3.T bedrocklaw03_SipShorts.p3.os (bedrocklaw03_SipShorts.p3 k))) .nil .nil) (.nil))))))))))))
theorem bedrocklaw03_SipShorts.body (k : Nat) : BodyIs (bedrocklaw03_SipShorts.ctx k) Try.f12 (Func.code Try.f12) (bedrocklaw03_SipShorts.ann k) bedrocklaw03_SipShorts.tin bedrocklaw03_SipShorts.tout (fun x K => bedrocklaw03_SipShorts.c k x.1 K) := by
  intro ρ x K; kernel_rfl
theorem bedrocklaw03_SipShorts.sem_ok (k : Nat) : SemOK Try.prog 12 (bedrocklaw03_SipShorts.sem k) :=
  callPure_ok (C := bedrocklaw03_SipShorts.ctx k) (bedrocklaw03_SipShorts.gok k) Try.mix (c := Func.code Try.f12) (ann := bedrocklaw03_SipShorts.ann k) (tin := bedrocklaw03_SipShorts.tin) (tout := bedrocklaw03_SipShorts.tout) (fun x K => bedrocklaw03_SipShorts.c k x.1 K) Try.func12 (by kernel_rfl) (by kernel_rfl) (AnnOK.seq AnnOK.nil (AnnOK.seq AnnOK.nil (AnnOK.seq AnnOK.nil (AnnOK.seq (AnnOK.loop (by kernel_rfl) (bedrocklaw03_SipShorts.p0.ok k)) (AnnOK.seq (AnnOK.loop (by kernel_rfl) (bedrocklaw03_SipShorts.p1.ok k)) (AnnOK.seq AnnOK.nil (AnnOK.seq AnnOK.nil (AnnOK.seq AnnOK.nil (AnnOK.seq AnnOK.nil (AnnOK.seq (AnnOK.loop (by kernel_rfl) (bedrocklaw03_SipShorts.p2.ok k)) (AnnOK.seq AnnOK.nil (AnnOK.seq (AnnOK.loop (by kernel_rfl) (bedrocklaw03_SipShorts.p3.ok k)) AnnOK.nil)))))))))))) (bedrocklaw03_SipShorts.body k)

end Go.Am
