/- A part of a proof: a machine of abstract values that tells what functions of the program compute, and the plain facts on them. -/
import Derived.Test.YtkcoljbmhmbmbaaGreatAm0
import Derived.Orders
set_option linter.unusedVariables false
set_option linter.unusedSimpArgs false
set_option linter.unnecessarySimpa false
set_option linter.unusedSectionVars false
namespace Go.Am
open Go
def Q1H (P : Program) (T : TypeId) : Option Bool :=
 match P.underlying T with
 | some (.struct _) => some true
 | some (.array _ _) => some true
 | some _ => some false
 | none => none
def Q16 (P : Program) (T : TypeId) : Option Nat := (P.info? T).map (·.size)
def Q9B (g : TypeId → Option Ty) : List Field → Option Ty
 | [] => some .unit
 | f :: fs => (g f.type).bind fun a => (Q9B g fs).bind fun b => some (.pair a b)
def tyOf (P : Program) : Nat → TypeId → Option Ty
 | 0, _ => none
 | n + 1, T =>
  match P.underlying T with
  | some .bool => some .bool
  | some (.int k) => some (.int k)
  | some .string => some .str
  | some (.slice e) => (tyOf P n e).bind fun t => some (.sl t)
  | some (.array len e) => (tyOf P n e).bind fun t => some (.arr len t)
  | some (.struct fs) => Q9B (tyOf P n) fs.toList
  | _ => none
def Q2c : Ty → List Value
 | .int k => [.int k 0]
 | .bool => [.bool false]
 | .str => [.string ByteArray.empty]
 | .unit => []
 | .pair a b => Q2c a ++ Q2c b
 | .arr n t => (List.replicate n (Q2c t)).flatten
 | .sl _ => [.slice none 0 0]
def beqV : Value → Value → Bool
 | .int k n, .int k' n' => decide (k = k') && decide (n = n')
 | .bool b, .bool b' => b == b'
 | .string s, .string s' => s.size == 0 && s'.size == 0
 | .slice none 0 0, .slice none 0 0 => true
 | .pointer none, .pointer none => true
 | _, _ => false
def beqL : List Value → List Value → Bool
 | [], [] => true
 | a :: l, b :: r => beqV a b && beqL l r
 | _, _ => false
def absL (g : TypeId → List Value → Option AVal) (sz : TypeId → Nat) : List Field → List Value → Option AVal
 | [], [] => some .unit
 | f :: fs, cs => (g f.type (cs.take (sz f.type))).bind fun a => (absL g sz fs (cs.drop (sz f.type))).bind fun b => some (.pair a b)
 | _, _ => none
def absR (g : List Value → Option AVal) (sz : Nat) : Nat → List Value → Option AVal
 | 0, [] => some .unit
 | k + 1, cs => (g (cs.take sz)).bind fun a => (absR g sz k (cs.drop sz)).bind fun b => some (.pair a b)
 | 0, _ :: _ => none
def absZ (P : Program) : Nat → TypeId → List Value → Option AVal
  | 0, _, _ => none
  | n + 1, T, cs =>
    match P.underlying T with
    | some (.struct fs) => absL (absZ P n) P.cellsOf fs.toList cs
    | some (.array len e) =>
      (match tyOf P n e with
       | some t => if beqL cs (Q2c (.arr len t)) = true then some (.arr len t (List.replicate len t.zero)) else none
       | none => absR (absZ P n e) (P.cellsOf e) len cs)
    | some _ =>
      match cs with
      | [.int k v] => some (.int k v)
      | [.bool b] => some (.bool b)
      | [.string s] => some (.str s)
      | [.pointer none] => some .nilp
      | [.slice none 0 0] => some .nils
      | [.map none] => some .nilm
      | _ => none
    | none => none
def Q4s (P : Program) (T : TypeId) : Option AVal :=
 match P.info? T with
 | some i => (match i.zero with | some z => absZ P 40 T z.cells.toList | none => none)
 | none => none
def Q6i (i : TypeInfo) (t : Ty) : Bool :=
 match i.zero with
 | some z => beqL z.cells.toList (Q2c t)
 | none => false
def Q79 (i : TypeInfo) (t : Ty) : Bool :=
 match i.zero with
 | some z => z.cells.size == t.size
 | none => false
def vbOK (t : Ty) (e : TypeId) : Bool := match t with | .int .u8 => e == 5 | _ => true
def Q7Q (P : Program) (E : TypeId) : Option Ty := (tyOf P 40 E).bind fun t => if vbOK t E then some t else none
inductive Eff where
 | pure | read (ids : List Nat) | push (n : Nat) (ids : List Nat) | touch (n : Nat) (ids : List Nat) | wr (id : Nat) | mut
structure Res where
 vc : Bool
 v : AVal
 H : Heap
 e : Eff
structure St where
 sl : List AVal
 H : Heap
def putA (sl : List AVal) (d : Option Nat) (v : AVal) : List AVal :=
 match d with
 | some d => sl.set d v
 | none => sl
def absC : Value → AVal
 | .int k n => .int k n
 | .bool b => .bool b
 | .string s => .str s
 | .pointer none => .nilp
 | .slice none 0 0 => .nils
 | .map none => .nilm
 | _ => .undef
def Q0i (sl : List AVal) : Operand → AVal
 | .tmp t => sl.getD t .undef
 | .const v => absC v
 | .func f => .fn f .unit
 | .global _ => .undef
def Q1N : AVal → Bool
 | .undef => false
 | .tup _ => false
 | .vec _ _ => false
 | .mpc _ _ _ => false
 | .pair a b => Q1N a && Q1N b
 | _ => true
def bytesOf (xs : List Int) : ByteArray := ⟨(xs.map fun n => UInt8.ofNat n.toNat).toArray⟩
def Q1x (s : ByteArray) : List Int := s.data.toList.map fun b => (b.toNat : Int)
def Q7q (s : ByteArray) (i : Nat) : Int := ((s.data.toList.getD i 0).toNat : Int)
def Q3W (s t : ByteArray) : Bool := s.toList == t.toList
def Qbr (s t : ByteArray) : Bool := Op.bytesLess s.toList t.toList
def Q1o (op : BinOp) (k : IntKind) (x y : Int) : Int :=
 let a := BitVec.ofInt k.bits x
 let b := BitVec.ofInt k.bits y
 match op with
 | .and => k.wrap (a &&& b).toNat
 | .or => k.wrap (a ||| b).toNat
 | .xor => k.wrap (a ^^^ b).toNat
 | .andNot => k.wrap (a &&& ~~~b).toNat
 | _ => 0
def Q4p (k : IntKind) (x y : Int) : Int := k.wrap (x * 2 ^ (min y.toNat k.bits))
def Q2H (k : IntKind) (x y : Int) : Int := x.fdiv (2 ^ (min y.toNat k.bits))
def binI (op : BinOp) (k : IntKind) (a b : Int) : Option (Bool × AVal) :=
 match op with
 | .add => some (true, .int k (k.wrap (a + b)))
 | .sub => some (true, .int k (k.wrap (a - b)))
 | .mul => some (true, .int k (k.wrap (a * b)))
 | .quo => some (!decide (b = 0), .int k (k.wrap (a.tdiv b)))
 | .rem => some (!decide (b = 0), .int k (a.tmod b))
 | .and => some (true, .int k (Q1o .and k a b))
 | .or => some (true, .int k (Q1o .or k a b))
 | .xor => some (true, .int k (Q1o .xor k a b))
 | .andNot => some (true, .int k (Q1o .andNot k a b))
 | .eql => some (true, .bool (a == b))
 | .neq => some (true, .bool (a != b))
 | .lss => some (true, .bool (decide (a < b)))
 | .leq => some (true, .bool (decide (a ≤ b)))
 | .gtr => some (true, .bool (decide (a > b)))
 | .geq => some (true, .bool (decide (a ≥ b)))
 | _ => none
def binS (op : BinOp) (x y : ByteArray) : Option (Bool × AVal) :=
 match op with
 | .add => some (Nat.ble (x.size + y.size) 9223372036854775807, .str (x ++ y))
 | .eql => some (true, .bool (Q3W x y))
 | .neq => some (true, .bool (!Q3W x y))
 | .lss => some (true, .bool (Qbr x y))
 | .leq => some (true, .bool (Qbr x y || Q3W x y))
 | .gtr => some (true, .bool (!(Qbr x y || Q3W x y)))
 | .geq => some (true, .bool (!Qbr x y))
 | _ => none
def eqD : (t : Ty) → t.den → t.den → Option Bool
 | .int _, a, b => some (a == b)
 | .bool, a, b => some (a == b)
 | .str, a, b => some (Q3W a b)
 | .unit, _, _ => some true
 | .pair a b, x, y => (eqD a x.1 y.1).bind fun p => (eqD b x.2 y.2).bind fun q => some (p && q)
 | .arr _ (.int _), xs, ys => some (decide ((xs : List Int) = ys))
 | _, _, _ => none
def eqA : AVal → AVal → Option Bool
 | .int k a, .int k' b => if k = k' then some (a == b) else none
 | .bool a, .bool b => some (a == b)
 | .str a, .str b => some (Q3W a b)
 | .unit, .unit => some true
 | .pair a b, .pair c d => (eqA a c).bind fun p => (eqA b d).bind fun q => some (p && q)
 | .arr n (.int k) xs, .arr n' (.int k') ys => if n = n' then if k = k' then some (decide ((xs : List Int) = ys)) else none else none
 | _, _ => none
def Q7u (g : TypeId → AVal → Bool) (sz : TypeId → Nat) : Nat → List Field → AVal → Bool
 | _, [], .unit => true
 | off, f :: fs, .pair a b => f.name != "_" && f.offset == off && sz f.type == a.size && g f.type a && Q7u g sz (off + a.size) fs b
 | _, _, _ => false
def eqTy (P : Program) : Nat → TypeId → AVal → Bool
 | 0, _, _ => false
 | n + 1, T, a =>
  match P.underlying T, a with
  | some .bool, .bool _ => true
  | some (.int k), .int k' _ => decide (k = k')
  | some .string, .str _ => true
  | some (.struct fs), a => a.isAgg && !P.stoodInHeld T && Q7u (eqTy P n) P.cellsOf 0 fs.toList a
  | some (.array len e), .arr n' (.int k) _ => len == n' && (match P.underlying e with | some (.int k') => decide (k = k') | _ => false) && Q16 P e == some 1
  | _, _ => false
def binA (P : Program) (op : BinOp) (T : TypeId) (x y : AVal) : Option (Bool × AVal) :=
 match x, y with
 | .int k a, .int k' b =>
  match op with
  | .shl => some (decide (0 ≤ b), .int k (Q4p k a b))
  | .shr => some (decide (0 ≤ b), .int k (Q2H k a b))
  | op => if k = k' then binI op k a b else none
 | .str a, .str b => binS op a b
 | .bool a, .bool b =>
  match op, P.underlying T with
  | .eql, some .bool => some (true, .bool (a == b))
  | .neq, some .bool => some (true, .bool (!(a == b)))
  | _, _ => none
 | .nilp, .nilp => (match op, P.underlying T with | .eql, some (.pointer _) => some (true, .bool true) | .neq, some (.pointer _) => some (true, .bool false) | _, _ => none)
 | .nils, .nils => (match op, P.underlying T with | .eql, some (.slice _) => some (true, .bool true) | .neq, some (.slice _) => some (true, .bool false) | _, _ => none)
 | .ros _ xs, .nils => (match op, P.underlying T with | .eql, some (.slice _) => some (Nat.ble 1 xs.length, .bool false) | .neq, some (.slice _) => some (Nat.ble 1 xs.length, .bool true) | _, _ => none)
 | .ptr _ _, .nilp => (match op, P.underlying T with | .eql, some (.pointer _) => some (true, .bool false) | .neq, some (.pointer _) => some (true, .bool true) | _, _ => none)
 | .rop _ _, .nilp => (match op, P.underlying T with | .eql, some (.pointer _) => some (true, .bool false) | .neq, some (.pointer _) => some (true, .bool true) | _, _ => none)
 | a, b =>
  if a.isAgg && b.isAgg && decide (a.sh = b.sh) && Q1N a && Q1N b && !P.eqGuardType P.depth T && eqTy P 40 T a then
   match op with
   | .eql => (eqA a b).bind fun r => some (true, .bool r)
   | .neq => (eqA a b).bind fun r => some (true, .bool (!r))
   | _ => none
  else none
def notI (k : IntKind) (n : Int) : Int := Q1o .xor k (if k.signed then -1 else k.max) n
def unA (op : UnOp) (x : AVal) : Option AVal :=
 match op, x with
 | .neg, .int k n => some (.int k (k.wrap (0 - n)))
 | .xor, .int k n => some (.int k (notI k n))
 | .not, .bool b => some (.bool (!b))
 | _, _ => none
def Q2U (H : Heap) : AVal → Option ((t : Ty) × List t.den × List Nat)
 | .ros t xs => some ⟨t, xs, []⟩
 | .vsl id => (match H[id]? with | some (some (.vec t xs)) => some ⟨t, xs, [id]⟩ | _ => none)
 | .sl id p off len =>
  match H[id]? with
  | some (some c) => (match getP c p with | some (.arr _ t xs) => some ⟨t, (xs.drop off).take len, [id]⟩ | some (.vec t xs) => some ⟨t, (xs.drop off).take len, [id]⟩ | _ => none)
  | _ => none
 | _ => none
def Q21 (H : Heap) (id : Nat) (p : List Nat) : Option AVal :=
 match H[id]? with
 | some (some c) => getP c p
 | _ => none
def Qbi : Option AVal → Option Ty
 | some (.arr _ t _) => some t
 | some (.vec t _) => some t
 | _ => none
def fitT (P : Program) (T : TypeId) (x : AVal) : Bool := Q1H P T == some x.isAgg && Q16 P T == some x.size
def pure1 (H : Heap) (v : AVal) : Option Res := some ⟨true, v, H, .pure⟩
def Q8F (P : Program) (H : Heap) (T : TypeId) (a : AVal) : Option Res :=
  match a with
  | .ptr id p => (Q21 H id p).bind fun x => if fitT P T x then some ⟨true, x, H, .read [id]⟩ else none
  | .rop t x => if fitT P T (toA t x) then some ⟨true, toA t x, H, .pure⟩ else none
  | .parr id p off n =>
    (match Q21 H id p with
     | some (.arr _ t xs) => if fitT P T (.arr n t ((xs.drop off).take n)) then some ⟨true, .arr n t ((xs.drop off).take n), H, .read [id]⟩ else none
     | some (.vec t xs) => if fitT P T (.arr n t ((xs.drop off).take n)) then some ⟨true, .arr n t ((xs.drop off).take n), H, .read [id]⟩ else none
     | _ => none)
  | _ => none
def Q6M (P : Program) (H : Heap) (T : TypeId) (a x : AVal) : Option Res :=
 match a with
 | .ptr id p =>
  match H[id]? with
  | some (some c) => (getP c p).bind fun old => if Q1N x && decide (old.sh = x.sh) && Q16 P T == some x.size && !c.isMp then (setP c p x).bind fun c' => some ⟨true, .undef, H.set id (some c'), .wr id⟩ else none
  | _ => none
 | _ => none
def Q4e (P : Program) (T : TypeId) (z : AVal) : List (Nat × AVal) → Option AVal
  | [] => some z
  | (i, x) :: rest =>
    match P.underlying T with
    | some (.struct fs) =>
      (match fs[i]?, z.sh.fieldOff i with
       | some f, some (o, s) => if f.offset == o && Q16 P f.type == some s.size && Q1N x && decide (x.sh = s) then (setF z i x).bind fun z' => Q4e P T z' rest else none
       | _, _ => none)
    | some (.array len e) =>
      (match z with
       | .arr n t _ => if i < n ∧ n = len then if Q16 P e == some t.size && Q1N x && decide (x.sh = t.sh) then (setF z i x).bind fun z' => Q4e P T z' rest else none else none
       | _ => none)
    | _ => none
def Q7M (P : Program) (T : TypeId) : Bool :=
 match P.underlying T with
 | some (.struct fs) => fs.toList.all fun f => (Q16 P f.type).isSome
 | some (.array _ e) => (Q16 P e).isSome
 | _ => false
def Q28 (size : Nat) (z : AVal) : List (Nat × AVal) → Option AVal
  | [] => some z
  | (i, x) :: rest =>
    (match z with
     | .vec t xs => if i < xs.length then if size == t.size && Q1N x && decide (x.sh = t.sh) then (setF z i x).bind fun z' => Q28 size z' rest else none else none
     | _ => none)
def Q25 (o : Option AVal) (d : Int) : Option Int :=
 match o with
 | none => some d
 | some (.int _ n) => some n
 | _ => none
def Q85 (P : Program) (H : Heap) (T : TypeId) (x : AVal) (lo hi : Option AVal) (mx : Bool) : Option Res :=
  if mx then none else
  match x with
  | .str s =>
    (match P.underlying T, Q25 lo 0, Q25 hi s.size with
     | some .string, some l, some h => some ⟨decide (0 ≤ l ∧ l ≤ h ∧ h ≤ s.size), .str (s.extract l.toNat h.toNat), H, .pure⟩
     | _, _, _ => none)
  | .ros t xs =>
    (match P.underlying T, Q25 lo 0, Q25 hi xs.length with
     | some (.slice e), some l, some h => if Q16 P e == some t.size then some ⟨decide (0 ≤ l ∧ l ≤ h ∧ h ≤ xs.length), .ros t ((xs.take h.toNat).drop l.toNat), H, .pure⟩ else none
     | _, _, _ => none)
  | .sl id p off len =>
    (match P.underlying T, Q25 lo 0, Q25 hi len, Qbi (Q21 H id p) with
     | some (.slice e), some l, some h, some t => if Q16 P e == some t.size then some ⟨decide (0 ≤ l ∧ l ≤ h ∧ h ≤ len), .sl id p (off + l.toNat) (h - l).toNat, H, .read [id]⟩ else none
     | _, _, _, _ => none)
  | .vsl id =>
    (match H[id]? with
     | some (some (.vec t xs)) =>
       (match P.underlying T, Q25 lo 0, Q25 hi xs.length with
        | some (.slice e), some l, some h => if Q16 P e == some t.size then some ⟨decide (0 ≤ l ∧ l ≤ h ∧ h ≤ xs.length), .sl id [] l.toNat (h - l).toNat, H, .read [id]⟩ else none
        | _, _, _ => none)
     | _ => none)
  | .nils =>
    (match P.underlying T, Q25 lo 0, Q25 hi 0 with
     | some (.slice e), some l, some h => if (Q16 P e).isSome then some ⟨decide (l = 0 ∧ h = 0), .nils, H, .pure⟩ else none
     | _, _, _ => none)
  | .ptr id p =>
    (match Q21 H id p with
     | some (.arr n t _) =>
       (match P.underlying T with
        | some (.array n' e) =>
          (match Q25 lo 0, Q25 hi n with
           | some l, some h => if n' == n && Q16 P e == some t.size then some ⟨decide (0 ≤ l ∧ l ≤ h ∧ h ≤ n), .sl id p l.toNat (h - l).toNat, H, .read [id]⟩ else none
           | _, _ => none)
        | _ => none)
     | _ => none)
  | .rop (.arr n t) xs =>
    (match P.underlying T with
     | some (.array n' e) =>
       (match Q25 lo 0, Q25 hi n with
        | some l, some h => if n' == n && Q16 P e == some t.size then some ⟨decide (0 ≤ l ∧ l ≤ h ∧ h ≤ n), .ros t (((xs : List t.den).take h.toNat).drop l.toNat), H, .pure⟩ else none
        | _, _ => none)
     | _ => none)
  | _ => none
def Q6E : (t : Ty) → t.den → Nat → Option ((t' : Ty) × t'.den)
 | .pair a _, x, 0 => some ⟨a, x.1⟩
 | .pair _ b, x, i + 1 => Q6E b x.2 i
 | _, _, _ => none
def Q3m (P : Program) (H : Heap) (S : TypeId) (a : AVal) (f : Nat) : Option Res :=
  match P.underlying S with
  | some (.struct fs) =>
    (match fs[f]? with
     | some fd =>
       (match a with
        | .ptr id p =>
          (match (Q21 H id p).bind fun c => c.sh.fieldOff f with
           | some (o, s) => if fd.offset == o && Q16 P fd.type == some s.size && s.size != 0 then some ⟨true, .ptr id (p ++ [f]), H, .read [id]⟩ else none
           | none => none)
        | .rop t x =>
          (match t.sh.fieldOff f, Q6E t x f with
           | some (o, s), some ⟨t', y⟩ => if fd.offset == o && Q16 P fd.type == some s.size && s.size != 0 then some ⟨true, .rop t' y, H, .pure⟩ else none
           | _, _ => none)
        | _ => none)
     | none => none)
  | _ => none
def Q5J (P : Program) (H : Heap) (S : TypeId) (a : AVal) (f : Nat) : Option Res :=
  match P.underlying S with
  | some (.struct fs) =>
    (match fs[f]?, a.sh.fieldOff f, Q6G a f with
     | some fd, some (o, s), some x => if a.isAgg && fd.offset == o && Q16 P fd.type == some s.size && Q1H P fd.type == some x.isAgg && Q1N a then some ⟨true, x, H, .pure⟩ else none
     | _, _, _ => none)
  | _ => none
def Q4x (s : Nat) : Sh → Option Nat
 | .unit => some 0
 | .pair a b => if a.size = s then (Q4x s b).map (· + 1) else none
 | _ => none
def Q3e (P : Program) (H : Heap) (T : TypeId) (x i : AVal) : Option Res :=
  match i with
  | .int _ i =>
    match P.underlying T with
    | some (.array len e) =>
      (match x with
       | .ptr id p =>
         (match Q21 H id p with
          | some (.arr n t _) => if n == len && Q16 P e == some t.size then some ⟨decide (0 ≤ i ∧ i < len), .ptr id (p ++ [i.toNat]), H, .read [id]⟩ else none
          | some c => (match Q16 P e with | some s => if Q4x s c.sh == some len then some ⟨decide (0 ≤ i ∧ i < len), .ptr id (p ++ [i.toNat]), H, .read [id]⟩ else none | none => none)
          | none => none)
       | .rop (.arr n t) xs => if n == len && Q16 P e == some t.size then some ⟨decide (0 ≤ i ∧ i < len), .rop t ((xs : List t.den).getD i.toNat t.zero), H, .pure⟩ else none
       | _ => none)
    | some (.slice e) =>
      (match x with
       | .sl id p off len =>
         (match Qbi (Q21 H id p) with
          | some t => if Q16 P e == some t.size then some ⟨decide (0 ≤ i ∧ i < len), .ptr id (p ++ [off + i.toNat]), H, .read [id]⟩ else none
          | _ => none)
       | .vsl id =>
         (match H[id]? with
          | some (some (.vec t xs)) => if Q16 P e == some t.size then some ⟨decide (0 ≤ i ∧ i < xs.length), .ptr id [i.toNat], H, .read [id]⟩ else none
          | _ => none)
       | .ros t xs => if Q16 P e == some t.size then some ⟨decide (0 ≤ i ∧ i < xs.length), .rop t (xs.getD i.toNat t.zero), H, .pure⟩ else none
       | .nils => some ⟨false, .undef, H, .pure⟩
       | _ => none)
    | _ => none
  | _ => none
def Q7y (P : Program) (H : Heap) (T : TypeId) (x i : AVal) : Option Res :=
  match i with
  | .int _ i =>
    (match P.underlying T, x with
     | some (.array len e), .arr n t xs => if n == len && Q16 P e == some t.size && Q1H P e == some (toA t t.zero).isAgg then some ⟨decide (0 ≤ i ∧ i < len), toA t (xs.getD i.toNat t.zero), H, .pure⟩ else none
     | some .string, .str s => some ⟨decide (0 ≤ i ∧ i < s.size), .int .u8 (Q7q s i.toNat), H, .pure⟩
     | _, _ => none)
  | _ => none
def nthA : AVal → Nat → Option AVal
 | .pair a _, 0 => some a
 | .pair _ b, i + 1 => nthA b i
 | _, _ => none
def Q4N (P : Program) (H : Heap) (src dst : TypeId) (x : AVal) : Option Res :=
  match P.underlying src, P.underlying dst with
  | some ts, some (.int k) => (match x with | .int _ n => pure1 H (.int k (k.wrap n)) | _ => match ts with | _ => none)
  | some .string, some .string => (match x with | .str s => pure1 H (.str s) | _ => none)
  | some (.slice e), some .string =>
    (match P.underlying e, x with
     | some (.int .u8), .nils => pure1 H (.str ByteArray.empty)
     | some (.int .u8), x =>
       (match Q2U H x with
        | some ⟨.int .u8, xs, ids⟩ => some ⟨true, .str (bytesOf xs), H, if ids.isEmpty then .pure else .read ids⟩
        | _ => none)
     | _, _ => none)
  | some .string, some (.slice e) =>
    (match P.underlying e, x with
     | some (.int .u8), .str s => if e == 5 then some ⟨true, .vsl H.length, H ++ [some (.vec (.int .u8) (Q1x s))], .push H.length []⟩ else none
     | _, _ => none)
  | _, _ => none
def Q2O (P : Program) (H : Heap) (T : TypeId) (l c : AVal) : Option Res :=
  match P.underlying T, l, c with
  | some (.slice e), .int _ l, .int _ c =>
    (match Q7Q P e, P.info? e with
     | some t, some i => if i.size == t.size && i.bytes != 0 && Q6i i t then
         some ⟨decide (0 ≤ l ∧ l ≤ c) && Nat.ble (c.toNat * i.bytes) 140737488355328, .vsl H.length, H ++ [some (.vec t (List.replicate l.toNat t.zero))], .push H.length []⟩ else none
     | _, _ => none)
  | _, _, _ => none
def keyB : Ty → Bool
 | .int _ => true
 | .bool => true
 | .str => true
 | .unit => true
 | .pair a b => keyB a && keyB b
 | .arr _ (.int _) => true
 | _ => false
def eqK (t : Ty) (x y : t.den) : Bool := (eqD t x y).getD false
def mget {β : Type} (t : Ty) (k : t.den) : List (t.den × β) → Option β
 | [] => none
 | x :: l => bif eqK t k x.1 then some x.2 else mget t k l
def mset {β : Type} (t : Ty) (k : t.den) (v : β) : List (t.den × β) → List (t.den × β)
 | [] => [(k, v)]
 | x :: l => bif eqK t k x.1 then (k, v) :: l else x :: mset t k v l
def mdel {β : Type} (t : Ty) (k : t.den) : List (t.den × β) → List (t.den × β)
 | [] => []
 | x :: l => bif eqK t k x.1 then l else x :: mdel t k l
def Q5r (P : Program) (T : TypeId) : Option (Ty × Ty) :=
 match P.underlying T with
 | some (.map K V) => (tyOf P 40 K).bind fun kt => (tyOf P 40 V).bind fun vt => if keyB kt then some (kt, vt) else none
 | _ => none
def Q8Y : Value → Bool
 | .agg _ => true
 | _ => false
def Q9X (P : Program) (T : TypeId) (k : AVal) (vt : Ty) : Bool :=
 match P.underlying T with
 | some (.map K V) => eqTy P 40 K k && (match P.info? V with | some i => Q6i i vt && (match i.zero with | some z => Q8Y z == (toA vt vt.zero).isAgg | none => false) | none => false)
 | _ => false
def Q3p (P : Program) (H : Heap) (T : TypeId) (res : Option AVal) : Option Res :=
 match Q5r P T, res with
 | some (kt, vt), none => some ⟨true, .mp H.length, H ++ [some (.mpc kt vt [])], .push H.length []⟩
 | some (kt, vt), some (.int _ _) => some ⟨true, .mp H.length, H ++ [some (.mpc kt vt [])], .push H.length []⟩
 | _, _ => none
def mapV (vt : Ty) (ok : Bool) (o : Option vt.den) : AVal :=
 match ok with
 | true => .tup (.pair (toA vt (o.getD vt.zero)) (.pair (.bool o.isSome) .unit))
 | false => toA vt (o.getD vt.zero)
def Q52 (P : Program) (H : Heap) (T : TypeId) (x k : AVal) (ok : Bool) : Option Res :=
  match x with
  | .mp id =>
    (match H[id]? with
     | some (some (.mpc kt vt xs)) =>
       if decide (Q5r P T = some (kt, vt)) && Q9X P T k vt then (Q12 kt k).bind fun key => some ⟨true, mapV vt ok (mget kt key xs), H, .read [id]⟩ else none
     | _ => none)
  | _ => none
def Q2N (P : Program) (H : Heap) (T : TypeId) (x k v : AVal) : Option Res :=
  match x with
  | .mp id =>
    (match H[id]? with
     | some (some (.mpc kt vt xs)) =>
       if decide (Q5r P T = some (kt, vt)) && Q9X P T k vt then (Q12 kt k).bind fun key => (Q12 vt v).bind fun val => some ⟨true, .undef, H.set id (some (.mpc kt vt (mset kt key val xs))), .wr id⟩ else none
     | _ => none)
  | _ => none
def Q5a (P : Program) (H : Heap) (T : TypeId) (x k : AVal) : Option Res :=
  match x with
  | .mp id =>
    (match H[id]? with
     | some (some (.mpc kt vt xs)) =>
       if decide (Q5r P T = some (kt, vt)) && Q9X P T k vt then (Q12 kt k).bind fun key => some ⟨true, .tup .unit, H.set id (some (.mpc kt vt (mdel kt key xs))), .wr id⟩ else none
     | _ => none)
  | _ => none
def lenA (P : Program) (H : Heap) (T : TypeId) (x : AVal) : Option Res :=
 match P.underlying T, x with
 | some .string, .str s => pure1 H (.int .i64 s.size)
 | some (.slice _), .ros _ xs => pure1 H (.int .i64 xs.length)
 | some (.slice _), .sl _ _ _ len => pure1 H (.int .i64 len)
 | some (.slice _), .vsl id => (match H[id]? with | some (some (.vec _ xs)) => some ⟨true, .int .i64 xs.length, H, .read [id]⟩ | _ => none)
 | some (.slice _), .vbs id => (match H[id]? with | some (some (.vec _ xs)) => some ⟨true, .int .i64 xs.length, H, .read [id]⟩ | _ => none)
 | some (.slice _), .nils => pure1 H (.int .i64 0)
 | some (.map _ _), .mp id => (match H[id]? with | some (some (.mpc _ _ xs)) => some ⟨true, .int .i64 xs.length, H, .read [id]⟩ | _ => none)
 | some (.array n _), _ => pure1 H (.int .i64 n)
 | some (.pointer a), _ => (match P.underlying a with | some (.array n _) => pure1 H (.int .i64 n) | _ => none)
 | _, _ => none
def Q2p (H : Heap) (t : Ty) (x : AVal) : Option (List t.den × List Nat) :=
 match x with
 | .nils => some ([], [])
 | .str s => (match t with | .int .u8 => some (Q1x s, []) | _ => none)
 | x =>
  match Q2U H x with
  | some ⟨t', xs, ids⟩ => if h : t' = t then some (h ▸ xs, ids) else none
  | none => none
def Q5e (P : Program) (H : Heap) (S : TypeId) (X : Option TypeId) (s x : AVal) : Option Res :=
  match P.underlying S, X.bind P.underlying with
  | some (.slice _), some (.int _) => none
  | some (.slice e), some _ =>
    (match P.info? e, Q7Q P e with
     | some i, some t =>
       if i.size == t.size && i.bytes != 0 && Q79 i t then
         (Q2p H t x).bind fun (ys, ids) =>
           match s with
           | .nils => some ⟨Nat.ble (ys.length * i.bytes) 140737488355328, .vsl H.length, H ++ [some (.vec t ys)], .push H.length ids⟩
           | .vsl id =>
             (match H[id]? with
              | some (some (.vec t' xs)) => if h : t' = t then
                  some ⟨Nat.ble ((xs.length + ys.length) * i.bytes) 140737488355328, .vsl H.length, H.set id none ++ [some (.vec t ((h ▸ xs : List t.den) ++ ys))], .touch H.length [id]⟩ else none
              | _ => none)
           | .vbs id =>
             (match H[id]? with
              | some (some (.vec t' xs)) => if h : t' = t then
                  some ⟨Nat.ble ((xs.length + ys.length) * i.bytes) 140737488355328, .vbs H.length, H.set id none ++ [some (.vec t ((h ▸ xs : List t.den) ++ ys))], .touch H.length [id]⟩ else none
              | _ => none)
           | .sl id [] off len =>
             (match H[id]? with
              | some (some (.vec t' xs)) => if h : t' = t then
                  some ⟨Nat.ble ((len + ys.length) * i.bytes) 140737488355328, .vsl H.length, H.set id none ++ [some (.vec t (((h ▸ xs : List t.den).drop off).take len ++ ys))], .touch H.length [id]⟩ else none
              | _ => none)
           | _ => none
       else none
     | _, _ => none)
  | _, _ => none
def Q2F {α : Type} (xs : List α) (off : Nat) (ys : List α) (n : Nat) : List α := xs.take off ++ ys.take n ++ xs.drop (off + n)
def Q9z (P : Program) (H : Heap) (D : TypeId) (d x : AVal) : Option Res :=
  match P.underlying D with
  | some (.slice e) =>
    (match d with
     | .nils => none
     | .sl id p off len =>
       (match H[id]? with
        | some (some c) =>
          (match getP c p with
           | some (.arr n t xs) =>
             if Q16 P e == some t.size then
               (Q2p H t x).bind fun (ys, _) =>
                 (setP c p (.arr n t (Q2F xs off ys (min ys.length len)))).bind fun c' => some ⟨true, .int .i64 (min ys.length len : Nat), H.set id (some c'), .touch H.length [id]⟩
             else none
           | some (.vec t xs) =>
             if Q16 P e == some t.size && p.isEmpty then
               (Q2p H t x).bind fun (ys, _) => some ⟨true, .int .i64 (min ys.length len : Nat), H.set id (some (.vec t (Q2F xs off ys (min ys.length len)))), .touch H.length [id]⟩
             else none
           | _ => none)
        | _ => none)
     | .vsl id =>
       (match H[id]? with
        | some (some (.vec t xs)) =>
          if Q16 P e == some t.size then
            (Q2p H t x).bind fun (ys, _) => some ⟨true, .int .i64 (min ys.length xs.length : Nat), H.set id (some (.vec t (Q2F xs 0 ys (min ys.length xs.length)))), .touch H.length [id]⟩
          else none
        | _ => none)
     | _ => none)
  | _ => none
def Q5U (P : Program) (H : Heap) (arr : TypeId) (x : AVal) : Option Res :=
  match P.underlying arr, x with
     | some (.array n _), .ros t xs => if n = 0 then none else some ⟨decide (n ≤ xs.length), .rop (.arr n t) (xs.take n), H, .pure⟩
     | some (.array n _), .vsl id =>
       (match H[id]? with | some (some (.vec _ xs)) => if n = 0 then none else some ⟨decide (n ≤ xs.length), .parr id [] 0 n, H, .read [id]⟩ | _ => none)
     | some (.array n _), .sl id p off len => if n = 0 then none else some ⟨decide (n ≤ len), .parr id p off n, H, .pure⟩
     | _, _ => none
def Q9L (P : Program) : Nat → TypeId → List (List Nat)
  | 0, _ => []
  | n + 1, T =>
    match P.info? T with
    | some i =>
      if i.str == "strings.Builder" then [[]] else
        (match P.underlying T with
         | some (.struct fs) => (fs.toList.zipIdx.map fun f => (Q9L P n f.1.type).map (f.2 :: ·)).flatten
         | _ => [])
    | none => []
def Q8P (n : Nat) (T : TypeId) (a : AVal) (p : List Nat) : Option AVal :=
 match a.sh.offP p, getP a p with
 | some _, some (.pair .nilp (.pair .nils r)) => setP a p (.pair (.sfp n p T) (.pair (.vbs (n + 1)) r))
 | _, _ => none
def dryA : AVal → Bool
 | .ptr _ _ => false
 | .sl _ _ _ _ => false
 | .vsl _ => false
 | .parr _ _ _ _ => false
 | .sfp _ _ _ => false
 | .vbs _ => false
 | .mp _ => false
 | .pair a b => dryA a && dryA b
 | .fn _ c => dryA c
 | .tup a => dryA a
 | _ => true
def allocA (P : Program) (H : Heap) (T : TypeId) (z : AVal) : Res :=
  match cond (z.sh.size == 0) [] (Q9L P 3 T) with
  | [p] =>
    (match Q8P H.length T z p with
     | some z' => ⟨true, .ptr H.length [], H ++ [some z', some (.vec (.int .u8) [])], .touch H.length []⟩
     | none => ⟨true, .ptr H.length [], H ++ [some z], .touch H.length []⟩)
  | _ => ⟨true, .ptr H.length [], H ++ [some z], cond (dryA z) (.push H.length []) (.touch H.length [])⟩
def Q9U (P : Program) (H : Heap) (op : BinOp) (T : TypeId) (x y : AVal) : Option Res :=
  match x, y with
  | .vsl id, .nils =>
    (match H[id]? with
     | some (some (.vec _ xs)) => (match op, P.underlying T with | .eql, some (.slice _) => some ⟨Nat.ble 1 xs.length, .bool false, H, .read [id]⟩ | .neq, some (.slice _) => some ⟨Nat.ble 1 xs.length, .bool true, H, .read [id]⟩ | _, _ => none)
     | _ => none)
  | a, b => (binA P op T a b).bind fun r => some ⟨r.1, r.2, H, .pure⟩
def Q67 (P : Program) (H : Heap) (T : TypeId) (x : AVal) (lo hi : Option AVal) (mx : AVal) : Option Res :=
  match hi, mx with
  | some (.int _ h), .int _ m =>
    (match x with
     | .ros t xs =>
       (match P.underlying T, Q25 lo 0 with
        | some (.slice e), some l => if Q16 P e == some t.size then some ⟨decide (0 ≤ l ∧ l ≤ h ∧ h ≤ m ∧ m ≤ xs.length), .ros t ((xs.take h.toNat).drop l.toNat), H, .pure⟩ else none
        | _, _ => none)
     | .vsl id =>
       (match H[id]? with
        | some (some (.vec t xs)) =>
          (match P.underlying T, Q25 lo 0 with
           | some (.slice e), some l => if Q16 P e == some t.size then some ⟨decide (0 ≤ l ∧ l ≤ h ∧ h ≤ m ∧ m ≤ xs.length), .sl id [] l.toNat (h - l).toNat, H, .read [id]⟩ else none
           | _, _ => none)
        | _ => none)
     | .nils =>
       (match P.underlying T, Q25 lo 0 with
        | some (.slice e), some l => if (Q16 P e).isSome then some ⟨decide (l = 0 ∧ h = 0 ∧ m = 0), .nils, H, .pure⟩ else none
        | _, _ => none)
     | _ => none)
  | _, _ => none
def Q5m (P : Program) (sl : List AVal) (H : Heap) (o : Oper) : Option Res :=
  match o.op with
  | .move x => pure1 H (Q0i sl x)
  | .assign x => pure1 H (Q0i sl x)
  | .pick c a b => (match Q0i sl c with | .bool t => pure1 H (cond t (Q0i sl a) (Q0i sl b)) | _ => none)
  | .alloc T => (Q4s P T).bind fun z => some (allocA P H T z)
  | .box T x => if Q1N (Q0i sl x) then some (allocA P H T (Q0i sl x)) else none
  | .build T parts => (Q4s P T).bind fun z => if Q7M P T then (Q4e P T z (parts.toList.map fun p => (p.1, Q0i sl p.2))).bind fun v => pure1 H v else none
  | .buildSlice T len parts =>
    (match P.underlying T with
     | some (.slice e) =>
       (match Q7Q P e, P.info? e with
        | some t, some i =>
          if i.size == t.size && Q6i i t && t.size != 0 && decide (len * t.size ≤ 16777216) then
            (Q28 t.size (.vec t (List.replicate len t.zero)) (parts.toList.map fun p => (p.1, Q0i sl p.2))).bind fun c => some ⟨true, .vsl H.length, H ++ [some c], .push H.length []⟩ else none
        | _, _ => none)
     | _ => none)
  | .load T a => Q8F P H T (Q0i sl a)
  | .store T a x => Q6M P H T (Q0i sl a) (Q0i sl x)
  | .nilCheck x => (match Q0i sl x with | .ptr i p => pure1 H (.ptr i p) | .rop t y => pure1 H (.rop t y) | .fn f c => pure1 H (.fn f c) | _ => none)
  | .binOp op T x y _ => Q9U P H op T (Q0i sl x) (Q0i sl y)
  | .unOp op _ x => (unA op (Q0i sl x)).bind fun v => pure1 H v
  | .convert src dst x => Q4N P H src dst (Q0i sl x)
  | .sliceToArrayPointer arr x =>
    Q5U P H arr (Q0i sl x)
  | .makeFunc (.func f) first caps => if first.isEmpty && caps.toList.all (fun x => Q1N (Q0i sl x) && !(Q0i sl x).isAgg) then pure1 H (.fn f (caps.toList.foldr (fun x r => .pair (Q0i sl x) r) .unit)) else none
  | .makeSlice T l c => Q2O P H T (Q0i sl l) (Q0i sl c)
  | .slice T x lo hi mx => (match mx with | none => Q85 P H T (Q0i sl x) (lo.map (Q0i sl)) (hi.map (Q0i sl)) false | some q => Q67 P H T (Q0i sl x) (lo.map (Q0i sl)) (hi.map (Q0i sl)) (Q0i sl q))
  | .fieldAddr S x f => Q3m P H S (Q0i sl x) f
  | .field S x f => Q5J P H S (Q0i sl x) f
  | .indexAddr T x i => Q3e P H T (Q0i sl x) (Q0i sl i)
  | .index T x i => Q7y P H T (Q0i sl x) (Q0i sl i)
  | .makeMap T r => Q3p P H T (r.map (Q0i sl))
  | .lookup T x k ok => Q52 P H T (Q0i sl x) (Q0i sl k) ok
  | .mapUpdate T x k v => Q2N P H T (Q0i sl x) (Q0i sl k) (Q0i sl v)
  | .extract t i => (match Q0i sl t with | .tup s => (nthA s i).bind fun v => pure1 H v | _ => none)
  | .call { callee := .builtin b, args, argTypes } =>
    (match b, argTypes.toList, args.toList with
     | .len, T :: _, x :: _ => lenA P H T (Q0i sl x)
     | .delete, T :: _, x :: k :: _ => Q5a P H T (Q0i sl x) (Q0i sl k)
     | .append, S :: X :: _, s :: x :: _ => Q5e P H S (some X) (Q0i sl s) (Q0i sl x)
     | .copy, D :: _, d :: x :: _ => Q9z P H D (Q0i sl d) (Q0i sl x)
     | .min, _, [x, y] => (match Q0i sl x, Q0i sl y with | .int k a, .int k' b => if k = k' then pure1 H (.int k (if b < a then b else a)) else none | _, _ => none)
     | .max, _, [x, y] => (match Q0i sl x, Q0i sl y with | .int k a, .int k' b => if k = k' then pure1 H (.int k (if b > a then b else a)) else none | _, _ => none)
     | _, _, _ => none)
  | _ => none
structure Qj where
 f : {ρ : Type} → List AVal → Heap → (AVal → Heap → Eff → Option ρ) → Option ρ
structure Ctx where
 P : Program
 Γ : Nat → Qj
def Qbb : AVal → List AVal
 | .pair a b => a :: Qbb b
 | _ => []
def Q5G : AVal → Bool
 | .pair a b => !a.isAgg && Q5G b
 | .unit => true
 | _ => false
def evOp {ρ : Type} (C : Ctx) (o : Oper) (st : St) (k : St → Eff → Option ρ) : Option ρ :=
  match o.op with
  | .call { callee := .value f, args, argTypes := _ } =>
    (match Q0i st.sl f with
     | .fn i caps => cond (Q5G caps) ((C.Γ i).f (args.toList.map (Q0i st.sl) ++ Qbb caps) st.H fun v H' e => k ⟨putA st.sl o.dst v, H'⟩ e) none
     | _ => none)
  | _ =>
    match Q5m C.P st.sl st.H o with
    | some r => cond r.vc (k ⟨putA st.sl o.dst r.v, r.H⟩ r.e) none
    | none => none
def ltB (n : Nat) : List Nat → Bool
 | [] => true
 | i :: l => Nat.blt i n && ltB n l
def Eff.norm (n : Nat) : Eff → Eff
 | .read ids => cond (ltB n ids) (.read ids) .mut
 | .push m ids => cond (ltB n ids) (.push m ids) .mut
 | e => e
def Q1W {ρ : Type} (C : Ctx) (ops : Array Oper) : List Oper → St → List Eff → (St → List Eff → Option ρ) → Option ρ
  | [], st, es, k => k st es
  | o :: rest, st, es, k =>
    match o.guard with
    | none => evOp C o st fun st' e => Q1W C ops rest st' (e.norm st.H.length :: es) k
    | some (j, want) =>
      match ((ops[j]?).bind (·.dst)) with
      | none => none
      | some d =>
        match st.sl.getD d .undef with
        | .bool b =>
          (match want with
           | true => cond b (evOp C o ⟨st.sl.set d (.bool true), st.H⟩ fun st' e => Q1W C ops rest st' (e.norm st.H.length :: es) k)
                            (Q1W C ops rest ⟨putA (st.sl.set d (.bool false)) o.dst (.tup .unit), st.H⟩ (.pure :: es) k)
           | false => cond b (Q1W C ops rest ⟨putA (st.sl.set d (.bool true)) o.dst (.tup .unit), st.H⟩ (.pure :: es) k)
                             (evOp C o ⟨st.sl.set d (.bool false), st.H⟩ fun st' e => Q1W C ops rest st' (e.norm st.H.length :: es) k))
        | .tup .unit => Q1W C ops rest ⟨putA st.sl o.dst (.tup .unit), st.H⟩ (.pure :: es) k
        | _ => none
def inB (i : Nat) : List Nat → Bool
 | [] => false
 | j :: l => cond (Nat.beq i j) true (inB i l)
def Q1C : Eff → Eff → Bool
 | .pure, _ => true
 | _, .pure => true
 | .read _, .read _ => true
 | .read ids, .push n _ => !inB n ids
 | .push n _, .read ids => !inB n ids
 | .push n ids, .push n' ids' => !inB n ids' && !inB n' ids
 | .push n ids, .wr id => !Nat.beq n id && !inB id ids
 | .wr id, .push n ids => !Nat.beq n id && !inB id ids
 | .wr a, .wr b => !Nat.beq a b
 | .read ids, .wr id => !inB id ids
 | .wr id, .read ids => !inB id ids
 | .read ids, .touch n ts => ids.all fun i => decide (i < n) && !ts.contains i
 | .touch n ts, .read ids => ids.all fun i => decide (i < n) && !ts.contains i
 | _, _ => false
def QaM (acc : List Nat) (es : List Edge) : Nat :=
 es.foldl (fun s e => if Region.binds .any e = true then (s ||| 2 ^ e.on) ||| acc.getD e.on 0 else s) 0
def befL : List Oper → List Nat → List Nat
 | [], acc => acc
 | o :: os, acc => befL os (acc ++ [QaM acc o.after.toList])
def Q78 (ops : Array Oper) (b : Nat) (o' : Oper) (e' : Eff) : Nat → List Oper → List Eff → Bool
 | i, o :: os, e :: es => (b.testBit i || (o.apart ops o' && Q1C e e')) && Q78 ops b o' e' (i + 1) os es
 | _, _, _ => true
def Q5D (ops : Array Oper) (seen : List Oper) (seenE : List Eff) : Nat → List Nat → List Oper → List Eff → Bool
 | j, b :: bs, o :: os, e :: es => o.after.toList.all (fun x => !Region.binds .any x || decide (x.on < j)) && Q78 ops b o e 0 seen seenE && Q5D ops (seen ++ [o]) (seenE ++ [e]) (j + 1) bs os es
 | _, [], [], [] => true
 | _, _, _, _ => false
def Qbg {ρ : Type} (C : Ctx) (ops : Array Oper) (draw : Bool) (st : St) (k : St → Option ρ) : Option ρ :=
 Q1W C ops ops.toList st [] fun st' es => cond (!draw || Q5D ops [] [] 0 (befL ops.toList []) ops.toList es.reverse) (k st') none
inductive Q24 where
 | slot (i : Nat)
 | blk (id : Nat) (p : List Nat)
def idsA : AVal → List Nat
 | .ptr i _ => [i]
 | .sl i _ _ _ => [i]
 | .vsl i => [i]
 | .parr i _ _ _ => [i]
 | .sfp i _ _ => [i]
 | .vbs i => [i]
 | .mp i => [i]
 | .pair a b => idsA a ++ idsA b
 | .fn _ c => idsA c
 | .tup a => idsA a
 | _ => []
def Q8C : AVal → List Nat
 | .ptr i _ => [i]
 | .parr i _ _ _ => [i]
 | .sfp i _ _ => [i]
 | .mp i => [i]
 | .pair a b => Q8C a ++ Q8C b
 | .fn _ c => Q8C c
 | .tup a => Q8C a
 | _ => []
def Q3L (H : Heap) : Nat → List Nat → List Nat → List Nat
 | 0, seen, _ => seen
 | n + 1, seen, l =>
  match l with
  | [] => seen
  | i :: rest =>
   if seen.contains i then Q3L H n seen rest else
    match H[i]? with
    | some (some a) => Q3L H n (seen ++ [i]) (idsA a ++ rest)
    | _ => Q3L H n seen rest
def idsL : List AVal → List Nat
 | [] => []
 | a :: l => idsA a ++ idsL l
def Qdh : List AVal → List Nat
 | [] => []
 | a :: l => Q8C a ++ Qdh l
def Q9P (H : Heap) : List Nat → List Nat
 | [] => []
 | i :: l => (match H[i]? with | some (some a) => Q8C a | _ => []) ++ Q9P H l
def Qbf (ps : List Nat) (b : Bool) : List Nat → List Nat
 | [] => []
 | i :: l => cond (inB i ps == b) (i :: Qbf ps b l) (Qbf ps b l)
def Q1V : List Nat → Bool
 | [] => true
 | a :: l => !inB a l && Q1V l
inductive Q1i where
 | mask (keep : List Nat)
 | drop (id : Nat)
 | renum (keep : List Nat)
 | freeze (at_ : Q24)
 | rebase (at_ : Q24)
 | own (at_ : Q24) (t : Ty)
 | auto (np : Nat)
def Q3j (keep : List Nat) : Nat → List AVal → List AVal
 | _, [] => []
 | i, x :: xs => (if keep.contains i then x else .undef) :: Q3j keep (i + 1) xs
def Q1F (i : Nat) : Nat → List Nat → Option Nat
 | _, [] => none
 | k, j :: l => if i = j then some k else Q1F i (k + 1) l
def renA (keep : List Nat) : AVal → Option AVal
 | .ptr id p => (Q1F id 0 keep).bind fun i => some (.ptr i p)
 | .sl id p off len => (Q1F id 0 keep).bind fun i => some (.sl i p off len)
 | .vsl id => (Q1F id 0 keep).bind fun i => some (.vsl i)
 | .parr id p off n => (Q1F id 0 keep).bind fun i => some (.parr i p off n)
 | .sfp id p T => (Q1F id 0 keep).bind fun i => some (.sfp i p T)
 | .vbs id => (Q1F id 0 keep).bind fun i => some (.vbs i)
 | .mp id => (Q1F id 0 keep).bind fun i => some (.mp i)
 | .pair a b => (renA keep a).bind fun a' => (renA keep b).bind fun b' => some (.pair a' b')
 | .fn f c => (renA keep c).bind fun c' => some (.fn f c')
 | .tup a => (renA keep a).bind fun a' => some (.tup a')
 | .undef => some .undef
 | .int k n => some (.int k n)
 | .bool b => some (.bool b)
 | .str s => some (.str s)
 | .nilp => some .nilp
 | .nils => some .nils
 | .ros t xs => some (.ros t xs)
 | .rop t x => some (.rop t x)
 | .arr n t xs => some (.arr n t xs)
 | .vec t xs => some (.vec t xs)
 | .unit => some .unit
 | .nilm => some .nilm
 | .mpc k v xs => some (.mpc k v xs)
def frzA (H : Heap) : AVal → Option (AVal × List Nat)
 | .vsl id => (match H[id]? with | some (some (.vec t xs)) => cond (t.size == 0) none (some (.ros t xs, [id])) | _ => none)
 | .sl id p off len => (match Q2U H (.sl id p off len) with | some ⟨t, xs, _⟩ => cond (t.size == 0) none (some (.ros t xs, [id])) | none => none)
 | .pair a b => (frzA H a).bind fun x => (frzA H b).bind fun y => some (.pair x.1 y.1, x.2 ++ y.2)
 | .tup a => (frzA H a).bind fun x => some (.tup x.1, x.2)
 | .nils => some (.nils, [])
 | .undef => some (.undef, [])
 | .int k n => some (.int k n, [])
 | .bool b => some (.bool b, [])
 | .str s => some (.str s, [])
 | .ros t xs => some (.ros t xs, [])
 | .rop t x => some (.rop t x, [])
 | .arr n t xs => some (.arr n t xs, [])
 | .unit => some (.unit, [])
 | .nilp => some (.nilp, [])
 | .ptr i p => some (.ptr i p, [])
 | .sfp i p T => some (.sfp i p T, [])
 | .mp i => some (.mp i, [])
 | .nilm => some (.nilm, [])
 | _ => none
def Q0v : List Nat → Heap → Heap
 | [], H => H
 | i :: l, H => Q0v l (H.set i none)
def Q24.get (st : St) : Q24 → Option AVal
 | .slot i => some (st.sl.getD i .undef)
 | .blk id p => Q21 st.H id p
def Q24.set (st : St) (v : AVal) : Q24 → Option St
 | .slot i => some ⟨st.sl.set i v, st.H⟩
 | .blk id p =>
  match st.H[id]? with
  | some (some c) => (match c.sh.offP p with
   | some _ => (setP c p v).bind fun c' => if decide (c'.sh = c.sh) then some ⟨st.sl, st.H.set id (some c')⟩ else none
   | none => none)
  | _ => none
def Q1i.run0 (g : Q1i) (st : St) : Option St :=
  match g with
  | .mask keep => some ⟨Q3j keep 0 st.sl, st.H⟩
  | .drop id => some ⟨st.sl, st.H.set id none⟩
  | .renum keep =>
    some ⟨st.sl.map fun a => (renA keep a).getD .undef, keep.map fun i => (st.H.getD i none).bind (renA keep)⟩
  | .freeze pl => (pl.get st).bind fun a => (frzA st.H a).bind fun r => (pl.set st r.1).map fun st' => ⟨st'.sl, Q0v r.2 st'.H⟩
  | .rebase pl =>
    match pl.get st with
    | some (.sl id [] off len) =>
      (match st.H[id]? with
       | some (some (.vec t xs)) => (pl.set st (.vsl st.H.length)).map fun st' => ⟨st'.sl, st'.H.set id none ++ [some (.vec t ((xs.drop off).take len))]⟩
       | _ => none)
    | _ => none
  | .own pl t =>
    match pl.get st with
    | some .nils => (pl.set st (.vsl st.H.length)).map fun st' => ⟨st'.sl, st'.H ++ [some (.vec t [])]⟩
    | _ => none
  | .auto _ => none
def QaV (i : Nat) : List Nat → Nat
 | [] => 0
 | j :: l => cond (Nat.beq i j) (QaV i l + 1) (QaV i l)
def idsH : Heap → List Nat
 | [] => []
 | none :: l => idsH l
 | some a :: l => idsA a ++ idsH l
def Qdi (np : Nat) (st : St) (id : Nat) : Bool :=
 Nat.ble np id && Nat.beq (QaV id (idsL st.sl ++ idsH st.H)) 1 && (match st.H[id]? with | some (some (.vec _ _)) => true | _ => false)
def Qb7 : List (List Nat × Nat) → List (List Nat × Nat)
 | [] => []
 | (j :: p, i) :: l => ((j + 1) :: p, i) :: Qb7 l
 | ([], _) :: l => Qb7 l
def pre0 : List (List Nat × Nat) → List (List Nat × Nat)
 | [] => []
 | (p, i) :: l => (0 :: p, i) :: pre0 l
def Qau : AVal → List (List Nat × Nat)
 | .sl i [] _ _ => [([], i)]
 | .pair x y => pre0 (Qau x) ++ Qb7 (Qau y)
 | _ => []
def Qas (np : Nat) (st : St) : Nat → List AVal → Option Q24
 | _, [] => none
 | i, .sl id [] _ _ :: l => cond (Qdi np st id) (some (.slot i)) (Qas np st (i + 1) l)
 | i, _ :: l => Qas np st (i + 1) l
def Qcd (np : Nat) (st : St) (i : Nat) : List (List Nat × Nat) → Option Q24
 | [] => none
 | (p, id) :: l => cond (Qdi np st id) (some (.blk i p)) (Qcd np st i l)
def Qay (np : Nat) (st : St) : Nat → Heap → Option Q24
 | _, [] => none
 | i, none :: l => Qay np st (i + 1) l
 | i, some a :: l => match Qcd np st i (Qau a) with | some pl => some pl | none => Qay np st (i + 1) l
def Q3i (np : Nat) (st : St) : List Nat := Q3L st.H 400 (List.range np) (idsH (st.H.take np) ++ idsL st.sl)
def Q5B (keep : List Nat) : Nat → Bool
 | 0 => true
 | n + 1 => Q5B keep n && (match keep[n]? with | some i => Nat.beq i n | none => false)
def Q4j (np : Nat) : Nat → St → Option St
 | 0, _ => none
 | n + 1, st =>
  match Qas np st 0 st.sl with
  | some pl => (Q1i.run0 (.rebase pl) st).bind (Q4j np n)
  | none =>
   match Qay np st 0 st.H with
   | some pl => (Q1i.run0 (.rebase pl) st).bind (Q4j np n)
   | none => cond (Q1V (Q3i np st) && Q5B (Q3i np st) np) (Q1i.run0 (.renum (Q3i np st)) st) none
def Q1i.run (g : Q1i) (st : St) : Option St :=
 match g with
 | .auto np => Q4j np 60 st
 | g => g.run0 st
def Q2k : List Q1i → St → Option St
 | [], st => some st
 | g :: gs, st => (g.run st).bind (Q2k gs)
structure Q2T where
 f : {ρ : Type} → St → (Exit → St → Option ρ) → Option ρ
inductive Ann : Type 1 where
 | nil
 | node (pre : List Q1i) (sem : Option Q2T) (a b : Ann)
def Ann.pre : Ann → List Q1i
 | .nil => []
 | .node p _ _ _ => p
def Ann.sem : Ann → Option Q2T
 | .nil => none
 | .node _ s _ _ => s
def Ann.l : Ann → Ann
 | .nil => .nil
 | .node _ _ a _ => a
def Ann.r : Ann → Ann
 | .nil => .nil
 | .node _ _ _ b => b
def evC {ρ : Type} (C : Ctx) : Code → Ann → St → (Exit → St → Option ρ) → Option ρ
 | c, ann, st0, k =>
  match Q2k ann.pre st0 with
  | none => none
  | some st =>
  match ann.sem with
  | some s => s.f st k
  | none =>
   match c with
   | .skip => k .normal st
   | .region _ ops draw => Qbg C ops draw st (k .normal)
   | .seq a b => evC C a ann.l st fun e st' => (match e with | .normal => evC C b ann.r st' k | e => k e st')
   | .cond x t e => (match Q0i st.sl x with | .bool b => cond b (evC C t ann.l st k) (evC C e ann.r st k) | _ => none)
   | .block id body => evC C body ann.l st fun e st' => (match e with | .exit i => cond (i == id) (k .normal st') (k (.exit i) st') | e => k e st')
   | .exit id => k (.exit id) st
   | .ret => k .ret st
   | _ => none
end Go.Am
namespace Go.Am
open Go
def Qba (fr : Nat → AVal) : Prop := (fr = fun n => .ptr n []) ∨ (fr = fun n => .vsl n) ∨ fr = fun n => .mp n
def Q0u (g : Heap → Option Res) (H : Heap) : Prop :=
 ∀ r, g H = some r → match r.e with
  | .pure => r.H = H ∧ ∀ H2, g H2 = some ⟨r.vc, r.v, H2, .pure⟩
  | .read ids => r.H = H ∧ ∀ H2 : Heap, (∀ i, i ∈ ids → H2[i]? = H[i]?) → g H2 = some ⟨r.vc, r.v, H2, .read ids⟩
  | .push n ids => n = H.length ∧ ∃ b fr, Qba fr ∧ dryA b = true ∧ r.v = fr n ∧ r.H = H ++ [some b] ∧
    ∀ H2 : Heap, (∀ i, i ∈ ids → H2[i]? = H[i]?) → g H2 = some ⟨r.vc, fr H2.length, H2 ++ [some b], .push H2.length ids⟩
  | .touch n ts => ∀ i, i < n → i ∉ ts → r.H[i]? = H[i]?
  | .wr id => id < H.length ∧ ∃ c', r.H = H.set id (some c') ∧ ∀ H2 : Heap, H2[id]? = H[id]? → g H2 = some ⟨r.vc, r.v, H2.set id (some c'), .wr id⟩
  | .mut => True
theorem Q0u.none {H : Heap} : Q0u (fun _ => none) H := fun r h => by cases h
theorem Q0u.pure1 {H : Heap} (v : AVal) : Q0u (fun H => pure1 H v) H := fun r h => by
 simp only [Go.Am.pure1, Option.some.injEq] at h; subst h; exact ⟨rfl, fun _ => rfl⟩
theorem Q0u.pur {H : Heap} (b : Bool) (v : AVal) : Q0u (fun H => some ⟨b, v, H, .pure⟩) H := fun r h => by
 simp only [Option.some.injEq] at h; subst h; exact ⟨rfl, fun _ => rfl⟩
theorem Q0u.bind {H : Heap} {α : Type} (o : Option α) {g : α → Heap → Option Res} (h : ∀ x, Q0u (g x) H) : Q0u (fun H => o.bind fun x => g x H) H := by
 cases o with
 | none => exact Q0u.none
 | some x => exact h x
theorem Q0u.ite {H : Heap} {p : Prop} [Decidable p] {g : Heap → Option Res} (h : Q0u g H) : Q0u (fun H => if p then g H else Option.none) H := by
 by_cases hp : p
 ·simpa [hp] using h
 ·simpa [hp] using Q0u.none (H := H)
theorem Q0u.at {H : Heap} {id : Nat} {f : Option (Option AVal) → Option (Bool × AVal)} : Q0u (fun H => (f H[id]?).bind fun r => some ⟨r.1, r.2, H, .read [id]⟩) H := fun r h => by
 cases hf : f H[id]? with
 | none => simp [hf] at h
 | some x =>
  simp only [hf, Option.bind_some, Option.some.injEq] at h
  subst h
  exact ⟨rfl, fun H2 h2 => by simp [h2 id (by simp), hf]⟩
theorem Q0u.at' {H : Heap} {id : Nat} {g : Heap → Option Res} (f : Option (Option AVal) → Option (Bool × AVal)) (h : ∀ H : Heap, g H = (f H[id]?).bind fun r => some ⟨r.1, r.2, H, .read [id]⟩) : Q0u g H := by
 have : g = fun H => (f H[id]?).bind fun r => some ⟨r.1, r.2, H, .read [id]⟩ := funext h
 rw [this]; exact Q0u.at
theorem Q5i {H : Heap} {x : AVal} {t : Ty} {xs : List t.den} {ids : List Nat} (h : Q2U H x = some ⟨t, xs, ids⟩) :
  ∀ H2 : Heap, (∀ i, i ∈ ids → H2[i]? = H[i]?) → Q2U H2 x = some ⟨t, xs, ids⟩ := by
 intro H2 h2
 unfold Q2U at h ⊢
 split at h
 ·exact h
 ·rename_i id
  split at h
  ·rename_i t' xs' heq
   simp only [Option.some.injEq] at h
   cases h
   rw [h2 id (by simp), heq]
  ·cases h
 ·rename_i id p off len
  have hid : ids = [id] := by
   split at h
   ·split at h
    ·cases h; rfl
    ·cases h; rfl
    ·cases h
   ·cases h
  subst hid
  rw [h2 id (by simp)]; exact h
 ·cases h
theorem Q2D {H H2 : Heap} {id : Nat} (h : H2[id]? = H[id]?) (p : List Nat) : Q21 H2 id p = Q21 H id p := by
 unfold Q21; rw [h]
theorem Qam (P : Program) (H : Heap) (T : TypeId) (a : AVal) : Q0u (fun H => Q8F P H T a) H := by
 intro r h
 dsimp only at h ⊢
 unfold Q8F at h ⊢
 cases a <;> dsimp only at h ⊢ <;> (try cases h; done)
 case ptr id p =>
  cases hc : Q21 H id p with
  | none => simp [hc] at h
  | some x =>
   simp only [hc, Option.bind_some] at h
   split at h
   ·rename_i hf
    cases h
    exact ⟨rfl, fun H2 h2 => by simp only [Q2D (h2 id (by simp)), hc, Option.bind_some, hf, if_true]⟩
   ·cases h
 case rop t x =>
  split at h
  ·rename_i hf; cases h; exact ⟨rfl, fun H2 => by simp [hf]⟩
  ·cases h
 case parr id p off n =>
  split at h <;> (try cases h; done)
  all_goals
   rename_i hc
   split at h
   ·rename_i hf
    cases h
    exact ⟨rfl, fun H2 h2 => by simp only [Q2D (h2 id (by simp)), hc, hf, if_true]⟩
   ·cases h
theorem Q96 (P : Program) (H : Heap) (T : TypeId) (x : AVal) (lo hi : Option AVal) (mx : Bool) : Q0u (fun H => Q85 P H T x lo hi mx) H := by
 intro r h
 dsimp only at h ⊢
 unfold Q85 at h ⊢
 split at h
 ·cases h
 rename_i hm
 simp only [hm, Bool.false_eq_true, if_false]
 split at h <;> (try cases h; done)
 all_goals (repeat' (split at h <;> (try cases h; done)))
 all_goals cases h
 all_goals refine ⟨rfl, fun H2 => ?_⟩
 all_goals (try intro h2)
 all_goals (try (have e := h2 _ (List.mem_singleton.2 rfl)))
 all_goals (try rw [Q2D e])
 all_goals (try rw [e])
 all_goals simp only [*, if_true]
theorem Q6t (P : Program) (H : Heap) (S : TypeId) (a : AVal) (f : Nat) : Q0u (fun H => Q3m P H S a f) H := by
 intro r h
 dsimp only at h ⊢
 unfold Q3m at h ⊢
 all_goals (repeat' (split at h <;> (try cases h; done)))
 all_goals cases h
 all_goals refine ⟨rfl, fun H2 => ?_⟩
 all_goals (try intro h2)
 all_goals (try (have e := h2 _ (List.mem_singleton.2 rfl)))
 all_goals (try rw [Q2D e])
 all_goals (try rw [e])
 all_goals (try simp only [*, if_true, if_false])
theorem Q97 (P : Program) (H : Heap) (S : TypeId) (a : AVal) (f : Nat) : Q0u (fun H => Q5J P H S a f) H := by
 intro r h
 dsimp only at h ⊢
 unfold Q5J at h ⊢
 all_goals (repeat' (split at h <;> (try cases h; done)))
 all_goals cases h
 all_goals refine ⟨rfl, fun H2 => ?_⟩
 all_goals (try intro h2)
 all_goals (try (have e := h2 _ (List.mem_singleton.2 rfl)))
 all_goals (try rw [Q2D e])
 all_goals (try rw [e])
 all_goals (try simp only [*, if_true, if_false])
theorem Q6J (P : Program) (H : Heap) (T : TypeId) (x i : AVal) : Q0u (fun H => Q3e P H T x i) H := by
 intro r h
 dsimp only at h ⊢
 unfold Q3e at h ⊢
 all_goals (repeat' (split at h <;> (try cases h; done)))
 all_goals cases h
 all_goals refine ⟨rfl, fun H2 => ?_⟩
 all_goals (try intro h2)
 all_goals (try (have e := h2 _ (List.mem_singleton.2 rfl)))
 all_goals (try rw [Q2D e])
 all_goals (try rw [e])
 all_goals (try simp only [*, if_true, if_false])
theorem Q9d (P : Program) (H : Heap) (T : TypeId) (x i : AVal) : Q0u (fun H => Q7y P H T x i) H := by
 intro r h
 dsimp only at h ⊢
 unfold Q7y at h ⊢
 all_goals (repeat' (split at h <;> (try cases h; done)))
 all_goals cases h
 all_goals refine ⟨rfl, fun H2 => ?_⟩
 all_goals (try intro h2)
 all_goals (try (have e := h2 _ (List.mem_singleton.2 rfl)))
 all_goals (try rw [Q2D e])
 all_goals (try rw [e])
 all_goals (try simp only [*, if_true, if_false])
theorem Q8g (P : Program) (H : Heap) (arr : TypeId) (x : AVal) : Q0u (fun H => Q5U P H arr x) H := by
 intro r h
 dsimp only at h ⊢
 unfold Q5U at h ⊢
 all_goals (repeat' (split at h <;> (try cases h; done)))
 all_goals cases h
 all_goals refine ⟨rfl, fun H2 => ?_⟩
 all_goals (try intro h2)
 all_goals (try (have e := h2 _ (List.mem_singleton.2 rfl)))
 all_goals (try rw [Q2D e])
 all_goals (try rw [e])
 all_goals (try simp only [*, if_true, if_false])
theorem QaS (P : Program) (H : Heap) (T : TypeId) (x : AVal) : Q0u (fun H => lenA P H T x) H := by
 intro r h
 dsimp only at h ⊢
 unfold lenA Go.Am.pure1 at h ⊢
 all_goals (repeat' (split at h <;> (try cases h; done)))
 all_goals cases h
 all_goals refine ⟨rfl, fun H2 => ?_⟩
 all_goals (try intro h2)
 all_goals (try (have e := h2 _ (List.mem_singleton.2 rfl)))
 all_goals (try rw [Q2D e])
 all_goals (try rw [e])
 all_goals (try simp only [*, if_true, if_false])
theorem Q6L (P : Program) (H : Heap) (T : TypeId) (l c : AVal) : Q0u (fun H => Q2O P H T l c) H := by
 intro r h
 dsimp only at h ⊢
 unfold Q2O at h
 all_goals (repeat' (split at h <;> (try cases h; done)))
 all_goals cases h
 exact ⟨rfl, _, _, .inr (.inl rfl), rfl, rfl, rfl, fun H2 _ => by unfold Q2O; simp only [*, if_true, if_false]⟩
theorem Q7n (P : Program) (H : Heap) (src dst : TypeId) (x : AVal) : Q0u (fun H => Q4N P H src dst x) H := by
 intro r h
 dsimp only at h ⊢
 unfold Q4N Go.Am.pure1 at h ⊢
 split at h
 ·split at h
  ·cases h; exact ⟨rfl, fun H2 => by simp only [*]⟩
  ·split at h <;> cases h
 ·split at h
  ·cases h; exact ⟨rfl, fun H2 => by simp only [*]⟩
  ·cases h
 ·rename_i e h1 h2
  split at h
  ·rename_i h3
   cases h; exact ⟨rfl, fun H2 => by simp only [*]⟩
  ·rename_i y h3 h4
   split at h
   ·rename_i xs ids hv
    cases h
    dsimp only
    cases ids with
    | nil =>
     refine ⟨rfl, fun H2 => ?_⟩
     rw [Q5i hv H2 (by simp)]; rfl
    | cons i l =>
     refine ⟨rfl, fun H2 h5 => ?_⟩
     rw [Q5i hv H2 h5]; rfl
   ·cases h
  ·cases h
 ·split at h
  ·split at h
   ·cases h; exact ⟨rfl, _, _, .inr (.inl rfl), rfl, rfl, rfl, fun H2 _ => by simp only [*, if_true]⟩
   ·cases h
  ·cases h
 ·cases h
theorem Q4Z {H : Heap} {id : Nat} {x : Option AVal} : ∀ i, i < H.length → i ∉ [id] → (H.set id x)[i]? = H[i]? := fun i _ hi => by
 rw [List.getElem?_set_ne]
 intro e; exact hi (by simp [e])
theorem Q6r {H : Heap} {id : Nat} {x : Option AVal} {l : Heap} : ∀ i, i < H.length → i ∉ [id] → (H.set id x ++ l)[i]? = H[i]? := fun i h hi => by
 rw [List.getElem?_append_left (by simpa using h)]
 exact Q4Z i h hi
theorem Qap {H : Heap} {t : Ty} {x : AVal} {ys : List t.den} {ids : List Nat} (h : Q2p H t x = some (ys, ids)) :
  ∀ H2 : Heap, (∀ i, i ∈ ids → H2[i]? = H[i]?) → Q2p H2 t x = some (ys, ids) := by
 intro H2 h2
 unfold Q2p at h ⊢
 split at h
 ·exact h
 ·exact h
 ·split at h
  ·rename_i t' xs ids' hv
   split at h
   ·rename_i ht
    simp only [Option.some.injEq, Prod.mk.injEq] at h
    obtain ⟨rfl, rfl⟩ := h
    rw [Q5i hv H2 h2]
    simp only [ht, dif_pos]
   ·cases h
  ·cases h
theorem Q8l (P : Program) (H : Heap) (S : TypeId) (X : Option TypeId) (s x : AVal) : Q0u (fun H => Q5e P H S X s x) H := by
 intro r h
 dsimp only at h ⊢
 unfold Q5e at h
 split at h
 ·cases h
 ·split at h
  ·split at h
   ·obtain ⟨⟨ys, ids⟩, h1, h2⟩ := Option.bind_eq_some_iff.1 h
    dsimp only at h2
    split at h2
    ·cases h2
     refine ⟨rfl, _, _, .inr (.inl rfl), rfl, rfl, rfl, fun H2 hi => ?_⟩
     have h3 := Qap h1 H2 hi
     unfold Q5e
     simp only [*, if_true, Option.bind_some]
    ·split at h2
     ·split at h2
      ·cases h2; exact Q6r
      ·cases h2
     ·cases h2
    ·split at h2
     ·split at h2
      ·cases h2; exact Q6r
      ·cases h2
     ·cases h2
    ·split at h2
     ·split at h2
      ·cases h2; exact Q6r
      ·cases h2
     ·cases h2
    ·cases h2
   ·cases h
  ·cases h
 ·cases h
theorem Q9N (P : Program) (H : Heap) (D : TypeId) (d x : AVal) : Q0u (fun H => Q9z P H D d x) H := by
 intro r h
 dsimp only at h ⊢
 unfold Q9z at h
 split at h
 ·split at h
  ·cases h
  ·split at h
   ·split at h
    ·split at h
     ·obtain ⟨⟨ys, ids⟩, h1, h2⟩ := Option.bind_eq_some_iff.1 h
      obtain ⟨c', h3, h4⟩ := Option.bind_eq_some_iff.1 h2
      cases h4; exact Q4Z
     ·cases h
    ·split at h
     ·obtain ⟨⟨ys, ids⟩, h1, h2⟩ := Option.bind_eq_some_iff.1 h
      cases h2; exact Q4Z
     ·cases h
    ·cases h
   ·cases h
  ·split at h
   ·split at h
    ·obtain ⟨⟨ys, ids⟩, h1, h2⟩ := Option.bind_eq_some_iff.1 h
     cases h2; exact Q4Z
    ·cases h
   ·cases h
  ·cases h
 ·cases h
theorem Q95 (P : Program) (H : Heap) (T : TypeId) (a x : AVal) : Q0u (fun H => Q6M P H T a x) H := by
 intro r h
 dsimp only at h ⊢
 unfold Q6M at h
 split at h
 ·split at h
  ·obtain ⟨c', h3, h4⟩ := Option.bind_eq_some_iff.1 h
   split at h4
   ·rename_i c hc hok
    obtain ⟨c', h5, h6⟩ := Option.bind_eq_some_iff.1 h4
    cases h6
    refine ⟨(List.getElem?_eq_some_iff.1 hc).1, c', rfl, fun H2 h2 => ?_⟩
    unfold Q6M
    dsimp only
    rw [h2, hc]
    dsimp only
    rw [h3, Option.bind_some, if_pos hok, h5]
    rfl
   ·cases h4
  ·cases h
 ·cases h
theorem Q5q (P : Program) (H : Heap) (T : TypeId) (z : AVal) : Q0u (fun H => some (allocA P H T z)) H := by
 intro r h
 simp only [Option.some.injEq] at h
 unfold allocA at h
 split at h
 ·split at h
  ·subst h; exact fun i hi _ => List.getElem?_append_left hi
  ·subst h; exact fun i hi _ => List.getElem?_append_left hi
 ·rename_i hb
  cases hd : dryA z with
  | false => rw [hd] at h; subst h; exact fun i hi _ => List.getElem?_append_left hi
  | true =>
   rw [hd] at h
   subst h
   refine ⟨rfl, z, _, .inl rfl, hd, rfl, rfl, fun H2 _ => ?_⟩
   unfold allocA
   split
   ·rename_i p hp; exact absurd hp (hb p)
   ·rw [hd]; rfl
theorem Q6Y {size : Nat} : ∀ {l : List (Nat × AVal)} {z z' : AVal}, (∃ t xs, z = .vec t xs) → Q28 size z l = some z' → dryA z' = true
 | [], z, z', ⟨t, xs, hz⟩, h => by simp only [Q28, Option.some.injEq] at h; subst h; subst hz; rfl
 | (i, x) :: rest, z, z', ⟨t, xs, hz⟩, h => by
  subst hz
  simp only [Q28] at h
  split at h
  ·split at h
   ·obtain ⟨y, h1, h2⟩ := Option.bind_eq_some_iff.1 h
    refine Q6Y ?_ h2
    simp only [setF] at h1
    obtain ⟨u, _, h3⟩ := Option.bind_eq_some_iff.1 h1
    cases h3
    exact ⟨_, _, rfl⟩
   ·cases h
  ·cases h
theorem Q7H (P : Program) (H : Heap) (T : TypeId) (o : Option AVal) : Q0u (fun H => Q3p P H T o) H := by
 intro r h
 dsimp only at h ⊢
 unfold Q3p at h
 split at h
 ·rename_i kt vt ht
  cases h
  refine ⟨rfl, _, _, .inr (.inr rfl), rfl, rfl, rfl, fun H2 _ => ?_⟩
  simp only [Q3p, ht]
 ·rename_i kt vt q z ht
  cases h
  refine ⟨rfl, _, _, .inr (.inr rfl), rfl, rfl, rfl, fun H2 _ => ?_⟩
  simp only [Q3p, ht]
 ·cases h
theorem Q8h (P : Program) (H : Heap) (T : TypeId) (x k : AVal) (ok : Bool) : Q0u (fun H => Q52 P H T x k ok) H := by
 intro r h
 dsimp only at h ⊢
 unfold Q52 at h
 split at h
 ·rename_i id
  split at h
  ·rename_i kt vt xs hi
   split at h
   ·rename_i hok
    obtain ⟨key, h1, h2⟩ := Option.bind_eq_some_iff.1 h
    cases h2
    refine ⟨rfl, fun H2 h2 => ?_⟩
    have e := h2 id (by simp)
    simp only [Q52, e, hi]
    rw [if_pos hok, h1]
    rfl
   ·cases h
  ·cases h
 ·cases h
theorem Q6z (P : Program) (H : Heap) (T : TypeId) (x k v : AVal) : Q0u (fun H => Q2N P H T x k v) H := by
 intro r h
 dsimp only at h ⊢
 unfold Q2N at h
 split at h
 ·rename_i id
  split at h
  ·rename_i kt vt xs hi
   split at h
   ·rename_i hok
    obtain ⟨key, h1, h2⟩ := Option.bind_eq_some_iff.1 h
    obtain ⟨val, h3, h4⟩ := Option.bind_eq_some_iff.1 h2
    cases h4
    refine ⟨(List.getElem?_eq_some_iff.1 hi).1, _, rfl, fun H2 e => ?_⟩
    simp only [Q2N, e, hi]
    rw [if_pos hok, h1, Option.bind_some, h3]
    rfl
   ·cases h
  ·cases h
 ·cases h
theorem Q8k (P : Program) (H : Heap) (T : TypeId) (x k : AVal) : Q0u (fun H => Q5a P H T x k) H := by
 intro r h
 dsimp only at h ⊢
 unfold Q5a at h
 split at h
 ·rename_i id
  split at h
  ·rename_i kt vt xs hi
   split at h
   ·rename_i hok
    obtain ⟨key, h1, h2⟩ := Option.bind_eq_some_iff.1 h
    cases h2
    refine ⟨(List.getElem?_eq_some_iff.1 hi).1, _, rfl, fun H2 e => ?_⟩
    simp only [Q5a, e, hi]
    rw [if_pos hok, h1]
    rfl
   ·cases h
  ·cases h
 ·cases h
theorem Qai (P : Program) (H : Heap) (op : BinOp) (T : TypeId) (x y : AVal) : Q0u (fun H => Q9U P H op T x y) H := by
 intro r h
 dsimp only at h ⊢
 unfold Q9U at h ⊢
 split at h
 ·split at h
  ·rename_i hc
   split at h
   ·cases h
    exact ⟨rfl, fun H2 h2 => by simp only [h2 _ (List.mem_singleton.2 rfl), hc, *]⟩
   ·cases h
    exact ⟨rfl, fun H2 h2 => by simp only [h2 _ (List.mem_singleton.2 rfl), hc, *]⟩
   ·cases h
  ·cases h
 ·obtain ⟨q, hb, hr⟩ := Option.bind_eq_some_iff.1 h
  cases hr
  exact ⟨rfl, fun H2 => by rw [hb]; rfl⟩
theorem Q8j (P : Program) (H : Heap) (T : TypeId) (x : AVal) (lo hi : Option AVal) (mx : AVal) : Q0u (fun H => Q67 P H T x lo hi mx) H := by
 intro r h
 dsimp only at h ⊢
 unfold Q67 at h ⊢
 all_goals (repeat' (split at h <;> (try cases h; done)))
 all_goals cases h
 all_goals refine ⟨rfl, fun H2 => ?_⟩
 all_goals (try intro h2)
 all_goals (try (have e := h2 _ (List.mem_singleton.2 rfl)))
 all_goals (try rw [e])
 all_goals simp only [*, if_true]
theorem Q9b (P : Program) (sl : List AVal) (H : Heap) (o : Oper) : Q0u (fun H => Q5m P sl H o) H := by
 obtain ⟨dst, op, type, pos, after, guard⟩ := o
 simp only [Q5m]
 cases op <;> (try exact Q0u.none)
 case move x => exact Q0u.pure1 _
 case makeMap T o => exact Q7H P H T _
 case lookup T x k ok => exact Q8h P H T _ _ _
 case mapUpdate T x k v => exact Q6z P H T _ _ _
 case assign x => exact Q0u.pure1 _
 case pick c a b => dsimp only; cases Q0i sl c <;> first | exact Q0u.none | exact Q0u.pure1 _
 case alloc T =>
  exact Q0u.bind _ fun z => Q5q P H T z
 case box T x =>
  exact Q0u.ite (Q5q P H T _)
 case build T ps => exact Q0u.bind _ fun z => Q0u.ite (Q0u.bind _ fun v => Q0u.pure1 _)
 case buildSlice T len ps =>
  intro r h
  dsimp only at h
  split at h
  ·split at h
   ·split at h
    ·rename_i hok
     obtain ⟨z, h1, h2⟩ := Option.bind_eq_some_iff.1 h
     cases h2
     refine ⟨rfl, z, _, .inr (.inl rfl), Q6Y ⟨_, _, rfl⟩ h1, rfl, rfl, fun H2 _ => ?_⟩
     simp only [*, if_true, Option.bind_some]
    ·cases h
   ·cases h
  ·cases h
 case load T a => exact Qam P H T _
 case store T a x => exact Q95 P H T _ _
 case nilCheck x => dsimp only; cases Q0i sl x <;> first | exact Q0u.none | exact Q0u.pure1 _
 case binOp op T x y f => exact Qai P H _ _ _ _
 case unOp op f x => exact Q0u.bind _ fun v => Q0u.pure1 _
 case convert a b x => exact Q7n P H _ _ _
 case sliceToArrayPointer a x => exact Q8g P H _ _
 case makeFunc f first caps =>
  cases f <;> first | exact Q0u.none | (dsimp only; exact Q0u.ite (Q0u.pure1 _))
 case makeSlice T l c => exact Q6L P H _ _ _
 case slice T x lo hi mx =>
  dsimp only
  cases mx with
  | none => exact Q96 P H _ _ _ _ _
  | some q => exact Q8j P H _ _ _ _ _
 case fieldAddr S x f => exact Q6t P H _ _ _
 case field S x f => exact Q97 P H _ _ _
 case indexAddr T x i => exact Q6J P H _ _ _
 case index T x i => exact Q9d P H _ _ _
 case extract t i => dsimp only; cases Q0i sl t <;> first | exact Q0u.none | exact Q0u.bind _ fun v => Q0u.pure1 _
 case call c =>
  obtain ⟨callee, args, argTypes⟩ := c
  cases callee <;> (try exact Q0u.none)
  rename_i b
  cases b <;> (try exact Q0u.none)
  case append =>
   dsimp only
   cases argTypes.toList with
   | nil => exact Q0u.none
   | cons S l => cases l with
    | nil => exact Q0u.none
    | cons X l2 => cases args.toList with
     | nil => exact Q0u.none
     | cons s l3 => cases l3 with
      | nil => exact Q0u.none
      | cons x l4 => exact Q8l P H _ _ _ _
  case delete =>
   dsimp only
   cases argTypes.toList with
   | nil => exact Q0u.none
   | cons S l => cases args.toList with
     | nil => exact Q0u.none
     | cons s l3 => cases l3 with
      | nil => exact Q0u.none
      | cons x l4 => exact Q8k P H _ _ _
  case len =>
   dsimp only
   cases argTypes.toList with
   | nil => exact Q0u.none
   | cons S l => cases args.toList with
     | nil => exact Q0u.none
     | cons s l3 => exact QaS P H _ _
  case copy =>
   dsimp only
   cases argTypes.toList with
   | nil => exact Q0u.none
   | cons S l => cases args.toList with
     | nil => exact Q0u.none
     | cons s l3 => cases l3 with
      | nil => exact Q0u.none
      | cons x l4 => exact Q9N P H _ _ _
  case min =>
   dsimp only
   split <;> (try exact Q0u.none)
   all_goals (try simp_all; done)
   cases Q0i sl _ <;> cases Q0i sl _ <;> first | exact Q0u.none | exact Q0u.ite (Q0u.pure1 _)
  case max =>
   dsimp only
   split <;> (try exact Q0u.none)
   all_goals (try simp_all; done)
   cases Q0i sl _ <;> cases Q0i sl _ <;> first | exact Q0u.none | exact Q0u.ite (Q0u.pure1 _)
end Go.Am
namespace Go.Am
open Go
theorem Q4X (P : Program) (w : World) : program.run P w = .ok P w := rfl
theorem Qa {P : Program} {T : TypeId} {d : TypeDesc} (h : P.underlying T = some d) (w : World) : (underlying T).run P w = .ok d w := by
 simp only [underlying, run_bind, Q4X, h]; rfl
theorem Q31 {P : Program} {T : TypeId} {i : TypeInfo} (h : P.info? T = some i) (w : World) : (typeInfo T).run P w = .ok i w := by
 simp only [typeInfo, run_bind, Q4X, h]; rfl
theorem Q0N {P : Program} {T : TypeId} {n : Nat} (h : Q16 P T = some n) (w : World) : (sizeOf T).run P w = .ok n w := by
 unfold Q16 at h
 cases hi : P.info? T with
 | none => rw [hi] at h; cases h
 | some i =>
  rw [hi] at h
  simp only [Option.map_some, Option.some.injEq] at h
  subst h
  simp only [sizeOf, run_bind, Q31 hi]; rfl
theorem Q2s {P : Program} {T : TypeId} {b : Bool} (h : Q1H P T = some b) (w : World) : (isAgg T).run P w = .ok b w := by
 unfold Q1H at h
 cases hu : P.underlying T with
 | none => rw [hu] at h; cases h
 | some d =>
  rw [hu] at h
  simp only [isAgg, run_bind, Qa hu]
  cases d <;> simp only [Option.some.injEq] at h <;> subst h <;> rfl
theorem Q1y {P : Program} {T : TypeId} {i : TypeInfo} {z : Value} (h : P.info? T = some i) (hz : i.zero = some z) (w : World) : (zeroValue T).run P w = .ok z w := by
 simp only [zeroValue, run_bind, Q31 h, hz]; rfl
theorem Qdc {P : Program} {T : TypeId} {d : TypeDesc} (h : P.underlying T = some d) : ∃ b, Q1H P T = some b := by
 unfold Q1H; rw [h]; cases d <;> exact ⟨_, rfl⟩
theorem Q50 {a : AVal} (h : a.isAgg = false) : a.sh = .leaf := by
 cases a <;> first | rfl | cases h
theorem CRel.one {m : Mem} {μ : LMap} {a : AVal} {cs : List Value} (h : CRel m μ a cs) (ha : a.isAgg = false) : ∃ v, cs = [v] := by
 have := h.length
 rw [AVal.size, Q50 ha] at this
 match cs, this with
 | [v], _ => exact ⟨v, rfl⟩
theorem CRel.isTup {m : Mem} {μ : LMap} {a : AVal} {cs : List Value} (h : CRel m μ a cs) : ∀ s, a ≠ .tup s := by
 intro s e; subst e; exact h
theorem CRel.isUndef {m : Mem} {μ : LMap} {a : AVal} {cs : List Value} (h : CRel m μ a cs) : a ≠ .undef := by
 intro e; subst e; exact h
theorem Q4D {m : Mem} {μ : LMap} {a : AVal} {cs : Array Value} (h : CRel m μ a cs.toList) (ha : a.isAgg = true) : VRel m μ a (.agg cs) := by
 cases a <;> first | (cases ha; done) | exact ⟨cs, rfl, h⟩
theorem Q3c {m : Mem} {μ : LMap} {a : AVal} {v : Value} (h : CRel m μ a [v]) (ha : a.isAgg = false) : VRel m μ a v := by
 cases a <;> first | (cases ha; done) | exact h | exact h.elim
theorem Q34 {m : Mem} {μ : LMap} {a : AVal} {v : Value} (h : VRel m μ a v) (ho : Q1N a = true) : CRel m μ a v.cells.toList := by
 cases ha : a.isAgg with
 | true =>
  have : ∃ cs, v = .agg cs ∧ CRel m μ a cs.toList := by
   cases a <;> first | (cases ha; done) | exact h
  obtain ⟨cs, rfl, hc⟩ := this
  exact hc
 | false =>
  have hc : CRel m μ a [v] := by
   cases a <;> first | (cases ha; done) | (cases ho; done) | exact h
  have := hc.flat v (by simp)
  cases v <;> first | exact hc | (cases this; done)
theorem VRel.agg {m : Mem} {μ : LMap} {a : AVal} {v : Value} (h : VRel m μ a v) (ha : a.isAgg = true) : ∃ cs, v = .agg cs ∧ CRel m μ a cs.toList := by
 cases a <;> first | (cases ha; done) | exact h
theorem VRel.one {m : Mem} {μ : LMap} {a : AVal} {v : Value} (h : VRel m μ a v) (ha : a.isAgg = false) (ho : Q1N a = true) : CRel m μ a [v] := by
 cases a <;> first | (cases ha; done) | (cases ho; done) | exact h
theorem Q04 {m : Mem} {μ : LMap} {sl : List AVal} {a : Act} (h : RS m μ sl a) (x : Operand) : VRel m μ (Q0i sl x) (a.eval x) := by
 cases x with
 | tmp t =>
  simp only [Q0i, Act.eval]
  rcases Nat.lt_or_ge t sl.length with ht | ht
  ·obtain ⟨v, hv, hr⟩ := h.rel t _ (List.getElem?_eq_getElem ht)
   rw [List.getD_eq_getElem?_getD, List.getElem?_eq_getElem ht]
   rw [Array.getD_eq_getD_getElem?, hv]
   exact hr
  ·rw [List.getD_eq_getElem?_getD, List.getElem?_eq_none ht]
   trivial
 | const v =>
  simp only [Q0i, Act.eval]
  unfold absC
  split <;> first | exact rfl | trivial
 | global g => trivial
 | func f => exact ⟨#[], rfl, rfl⟩
theorem VRel.isBool {m : Mem} {μ : LMap} {b : Bool} {v : Value} (h : VRel m μ (.bool b) v) : v = .bool b := (List.cons.inj (h.one rfl rfl)).1
theorem VRel.isInt {m : Mem} {μ : LMap} {k : IntKind} {n : Int} {v : Value} (h : VRel m μ (.int k n) v) : v = .int k n := (List.cons.inj (h.one rfl rfl)).1
def Qdx (nx : Next) (v : Value) : Prop := nx = .value v ∨ (nx = .skip ∧ v = undef)
def Does (P : Program) (m : Mem) (μ : LMap) (H : Heap) (w : World) (s : Sem Next) (x : AVal) (H' : Heap) : Prop :=
 ∃ nx v w' μ', s.run P w = .ok nx w' ∧ Qdx nx v ∧ VRel m μ' x v ∧ Post m μ H w m μ' H' w'
theorem Does.val {P : Program} {m : Mem} {μ : LMap} {H : Heap} {w : World} {s : Sem Value} {x : AVal} {v : Value} (rh : RH m μ H w) (hr : s.run P w = .ok v w) (hx : VRel m μ x v) :
  Does P m μ H w (do pure (.value (← s))) x H :=
 ⟨.value v, v, w, μ, by simp only [run_bind, hr]; rfl, .inl rfl, hx, .refl rh⟩
theorem Does.pureV {P : Program} {m : Mem} {μ : LMap} {H : Heap} {w : World} {x : AVal} {v : Value} (rh : RH m μ H w) (hx : VRel m μ x v) :
  Does P m μ H w (pure (.value v)) x H :=
 ⟨.value v, v, w, μ, rfl, .inl rfl, hx, .refl rh⟩
theorem QcX : ∀ {a b : Value}, beqV a b = true → a = b := by
 intro a b h
 unfold beqV at h
 split at h
 ·simp only [Bool.and_eq_true, decide_eq_true_eq] at h
  rw [h.1, h.2]
 ·rw [beq_iff_eq] at h; rw [h]
 ·simp only [Bool.and_eq_true, beq_iff_eq] at h
  rename_i s s'
  have e1 : s = ByteArray.empty := by simpa using h.1
  have e2 : s' = ByteArray.empty := by simpa using h.2
  rw [e1, e2]
 ·rfl
 ·rfl
 ·cases h
theorem Q8X : ∀ {l r : List Value}, beqL l r = true → l = r
 | [], [], _ => rfl
 | a :: l, b :: r, h => by
  simp only [beqL, Bool.and_eq_true] at h
  rw [QcX h.1, Q8X h.2]
 | [], _ :: _, h | _ :: _, [], h => by simp [beqL] at h
theorem Q4M {α : Type} (n i : Nat) (z d : α) (h : i < n) : (List.replicate n z).getD i d = z := by
 rw [List.getD_eq_getElem?_getD, List.getElem?_replicate, if_pos h]; rfl
theorem Q1T (t : List Value) (s : Nat) (hs : t.length = s) : ∀ (n i : Nat), i < n → (((List.replicate n t).flatten).drop (i * s)).take s = t
 | 0, _, h => absurd h (Nat.not_lt_zero _)
 | n + 1, 0, _ => by
  simp only [List.replicate_succ, List.flatten_cons, Nat.zero_mul, List.drop_zero]
  rw [List.take_append_of_le_length (by omega), ← hs, List.take_length]
 | n + 1, i + 1, h => by
  simp only [List.replicate_succ, List.flatten_cons]
  rw [Nat.add_mul, Nat.one_mul, Nat.add_comm, ← List.drop_drop, List.drop_append_of_le_length (by omega), ← hs, List.drop_length, List.nil_append, hs]
  exact Q1T t s hs n i (by omega)
theorem Q1O (m : Mem) : ∀ (t : Ty), DRel m t t.zero (Q2c t)
 | .int _ => rfl
 | .bool => rfl
 | .str => rfl
 | .unit => rfl
 | .pair a b => by
  have ha := Q1O m a
  have hb := Q1O m b
  have hl := ha.length
  refine ⟨?_, ?_⟩
  ·simp only [Q2c, Ty.zero]; rw [List.take_append_of_le_length (by omega), ← hl, List.take_length]; exact ha
  ·simp only [Q2c, Ty.zero]; rw [List.drop_append_of_le_length (by omega), ← hl, List.drop_length]; exact hb
 | .arr n t => by
  have ht := Q1O m t
  have hl := ht.length
  refine ⟨by simp [Ty.zero], by simp [Q2c, hl, List.length_flatten], fun i hi => ?_⟩
  simp only [Q2c, Ty.zero]
  rw [Q1T _ _ hl n i hi, Q4M _ _ _ _ hi]
  exact ht
 | .sl _ => ⟨none, 0, rfl, Nat.le_refl _, fun i hi => absurd hi (Nat.not_lt_zero i)⟩
theorem Q82 {m : Mem} {μ : LMap} {g : TypeId → List Value → Option AVal} {sz : TypeId → Nat} (hg : ∀ T cs a, g T cs = some a → CRel m μ a cs) :
  ∀ (fs : List Field) (cs : List Value) (a : AVal), absL g sz fs cs = some a → CRel m μ a cs ∧ a.isAgg = true
 | [], [], a, h => by simp only [absL, Option.some.injEq] at h; subst h; exact ⟨rfl, rfl⟩
 | [], _ :: _, a, h => by simp [absL] at h
 | f :: fs, cs, a, h => by
  simp only [absL] at h
  cases h1 : g f.type (cs.take (sz f.type)) with
  | none => rw [h1] at h; cases h
  | some x =>
   rw [h1] at h
   simp only [Option.bind_some] at h
   cases h2 : absL g sz fs (cs.drop (sz f.type)) with
   | none => rw [h2] at h; cases h
   | some y =>
    rw [h2] at h
    simp only [Option.bind_some, Option.some.injEq] at h
    subst h
    refine ⟨?_, rfl⟩
    have hx := hg _ _ _ h1
    have hy := (Q82 hg fs _ _ h2).1
    have hl := hx.length
    simp only [List.length_take] at hl
    simp only [CRel]
    rcases Nat.lt_or_ge cs.length (sz f.type) with hlt | hge
    ·rw [Nat.min_eq_right (by omega)] at hl
     rw [List.take_of_length_le (by omega)] at hx
     rw [List.drop_eq_nil_of_le (by omega)] at hy
     rw [List.take_of_length_le (by omega), List.drop_eq_nil_of_le (by omega)]
     exact ⟨hx, hy⟩
    ·rw [Nat.min_eq_left hge] at hl
     rw [← hl]; exact ⟨hx, hy⟩
theorem Qah {m : Mem} {μ : LMap} {g : List Value → Option AVal} {sz : Nat} (hg : ∀ cs a, g cs = some a → CRel m μ a cs) :
  ∀ (k : Nat) (cs : List Value) (a : AVal), absR g sz k cs = some a → CRel m μ a cs
 | 0, [], a, h => by simp only [absR, Option.some.injEq] at h; subst h; exact rfl
 | 0, _ :: _, a, h => by simp [absR] at h
 | k + 1, cs, a, h => by
  simp only [absR] at h
  cases h1 : g (cs.take sz) with
  | none => rw [h1] at h; cases h
  | some x =>
   rw [h1] at h
   simp only [Option.bind_some] at h
   cases h2 : absR g sz k (cs.drop sz) with
   | none => rw [h2] at h; cases h
   | some y =>
    rw [h2] at h
    simp only [Option.bind_some, Option.some.injEq] at h
    subst h
    have hx := hg _ _ h1
    have hy := Qah hg k _ _ h2
    have hl := hx.length
    simp only [List.length_take] at hl
    simp only [CRel]
    rcases Nat.lt_or_ge cs.length sz with hlt | hge
    ·rw [Nat.min_eq_right (by omega)] at hl
     rw [List.take_of_length_le (by omega)] at hx
     rw [List.drop_eq_nil_of_le (by omega)] at hy
     rw [List.take_of_length_le (by omega), List.drop_eq_nil_of_le (by omega)]
     exact ⟨hx, hy⟩
    ·rw [Nat.min_eq_left hge] at hl
     rw [← hl]; exact ⟨hx, hy⟩
theorem Q6b {m : Mem} {μ : LMap} {P : Program} : ∀ (n : Nat) (T : TypeId) (cs : List Value) (a : AVal), absZ P n T cs = some a → CRel m μ a cs
 | 0, _, _, _, h => by simp [absZ] at h
 | n + 1, T, cs, a, h => by
  simp only [absZ] at h
  split at h
  ·exact (Q82 (fun T cs a => Q6b n T cs a) _ _ _ h).1
  ·rename_i len e _
   cases ht : tyOf P n e with
   | none => rw [ht] at h; exact Qah (fun cs a => Q6b n e cs a) _ _ _ h
   | some t =>
    rw [ht] at h
    simp only at h
    split at h
    ·rename_i hb
     cases h
     rw [Q8X hb]
     exact Q1O m (.arr len t)
    ·cases h
  ·split at h <;> first | (cases h; done) | (cases h; exact rfl)
  ·cases h
theorem Q6p {m : Mem} {μ : LMap} {P : Program} {T : TypeId} {a : AVal} (h : Q4s P T = some a) :
  ∃ i z, P.info? T = some i ∧ i.zero = some z ∧ CRel m μ a z.cells.toList := by
 unfold Q4s at h
 cases hi : P.info? T with
 | none => rw [hi] at h; cases h
 | some i =>
  rw [hi] at h
  simp only at h
  cases hz : i.zero with
  | none => rw [hz] at h; cases h
  | some z =>
   rw [hz] at h
   exact ⟨i, z, rfl, hz, Q6b _ _ _ _ h⟩
theorem Q6l {t : Ty} (xs ys : List t.den) : (AVal.vec t xs).isVb = (AVal.vec t ys).isVb := by
 cases t with
 | int k => cases k <;> rfl
 | _ => rfl
theorem Q9a {a x a' : AVal} {i : Nat} (h : setF a i x = some a') : a'.isVb = a.isVb := by
 cases a with
 | pair a b =>
  cases i with
  | zero => simp only [setF, Option.some.injEq] at h; subst h; rfl
  | succ i => simp only [setF, Option.bind_eq_some_iff, Option.some.injEq] at h; obtain ⟨y, _, h⟩ := h; subst h; rfl
 | arr n t xs => simp only [setF, Option.bind_eq_some_iff, Option.some.injEq] at h; obtain ⟨y, _, h⟩ := h; subst h; rfl
 | vec t xs => simp only [setF, Option.bind_eq_some_iff, Option.some.injEq] at h; obtain ⟨y, _, h⟩ := h; subst h; exact Q6l _ _
 | _ => simp [setF] at h
theorem Q6a {c x c' : AVal} : ∀ {p : List Nat}, setP c p x = some c' → x.isVb = false → c'.isVb = true → c.isVb = true
 | [], h, hx, hv => by
  simp only [setP, Option.some.injEq] at h
  subst h
  rw [hx] at hv; cases hv
 | i :: p, h, _, hv => by
  simp only [setP, Option.bind_eq_some_iff] at h
  obtain ⟨y, _, z, _, h⟩ := h
  rw [← Q9a h]; exact hv
theorem Qct {c x y c' : AVal} {p : List Nat} (hg : getP c p = some y) (h : setP c p x = some c') (hx : x.isVb = y.isVb) : c'.isVb = true → c.isVb = true := by
 cases p with
 | nil =>
  simp only [setP, Option.some.injEq] at h
  simp only [getP, Option.some.injEq] at hg
  subst h; subst hg
  rw [hx]; exact id
 | cons i p =>
  simp only [setP, Option.bind_eq_some_iff] at h
  obtain ⟨y, _, z, _, h⟩ := h
  rw [← Q9a h]; exact id
theorem Q8T {a : AVal} (h : Q1N a = true) : a.isVb = false := by
 cases a <;> first | rfl | (cases h; done)
theorem Q6D {P : Program} {e : TypeId} {t : Ty} {xs : List t.den} (h : Q7Q P e = some t) (hv : (AVal.vec t xs).isVb = true) : e = 5 := by
 unfold Q7Q at h
 obtain ⟨t', _, h⟩ := Option.bind_eq_some_iff.1 h
 split at h
 ·rename_i hok
  cases h
  cases t with
  | int k => cases k <;> first | (cases hv; done) | simpa [vbOK] using hok
  | _ => cases hv
 ·cases h
theorem QcU {P : Program} : ∀ {n : Nat} {T : TypeId} {cs : List Value} {a : AVal}, absZ P n T cs = some a → a.isVb = false
 | 0, _, _, _, h => by simp [absZ] at h
 | n + 1, T, cs, a, h => by
  simp only [absZ] at h
  split at h
  ·rename_i fs _
   cases hf : fs.toList with
   | nil =>
    rw [hf] at h
    cases cs with
    | nil => simp only [absL, Option.some.injEq] at h; subst h; rfl
    | cons _ _ => simp [absL] at h
   | cons f l =>
    rw [hf] at h
    simp only [absL, Option.bind_eq_some_iff, Option.some.injEq] at h
    obtain ⟨x, _, y, _, h⟩ := h
    subst h; rfl
  ·split at h
   ·split at h
    ·cases h; rfl
    ·cases h
   ·rename_i len e _ _ _
    cases len with
    | zero =>
     cases cs with
     | nil => simp only [absR, Option.some.injEq] at h; subst h; rfl
     | cons _ _ => simp [absR] at h
    | succ k =>
     simp only [absR, Option.bind_eq_some_iff, Option.some.injEq] at h
     obtain ⟨x, _, y, _, h⟩ := h
     subst h; rfl
  ·split at h <;> first | (cases h; rfl) | (cases h; done)
  ·cases h
theorem Qcr {P : Program} {T : TypeId} {a : AVal} (h : Q4s P T = some a) : a.isVb = false := by
 unfold Q4s at h
 split at h
 ·split at h
  ·exact QcU h
  ·cases h
 ·cases h
theorem Q4h {P : Program} (T : TypeId) (v : Value) (w : World) : (newVar T v).run P w = .ok ⟨w.heap.size, 0, none⟩ { w with heap := w.heap.push (.cells v.cells T) } := rfl
theorem Q3o {P : Program} (T : TypeId) (cs : Array Value) (w : World) : (newRow T cs).run P w = .ok ⟨w.heap.size, 0, none⟩ { w with heap := w.heap.push (.cells cs T) } := rfl
theorem Does.newVar {P : Program} {m : Mem} {μ : LMap} {H : Heap} {w : World} {x : AVal} {v : Value} (T : TypeId) (rh : RH m μ H w) (hx : CRel m μ x v.cells.toList) (hv : x.isVb = false) :
  Does P m μ H w (do pure (.value (← (do pure (.pointer (some (← Go.newVar T v))) : Sem Value)))) (.ptr H.length []) (H ++ [some x]) := by
 have hl := hx.length
 simp only [AVal.size] at hl
 have hp := rh.push (a := x) (cs := v.cells) (E := T) (fz := (0, 0)) (dr := w.drawn) (by simpa using Nat.le_of_eq hl.symm) (fun j _ h => by omega) (by rw [← hl, List.take_length]; exact hx) (fun h => by rw [hv] at h; cases h)
 refine ⟨.value (.pointer (some ⟨w.heap.size, 0, none⟩)), .pointer (some ⟨w.heap.size, 0, none⟩), _, _, ?_, .inl rfl, ?_, hp⟩
 ·simp only [run_bind, Q4h]; rfl
 ·exact ⟨_, 0, x.sh, by simp; rfl, rfl, rfl⟩
theorem Q9O (cs : List Value) (o n : Nat) : Q0R cs o ((cs.drop o).take n) = cs := by
 unfold Q0R
 rw [List.length_take, List.length_drop]
 apply List.ext_getElem?
 intro i
 simp only [List.append_assoc]
 by_cases h1 : i < o
 ·by_cases h2 : i < cs.length
  ·rw [List.getElem?_append_left (by simp; omega), List.getElem?_take, if_pos h1]
  ·rw [List.getElem?_eq_none (by simp; omega), List.getElem?_eq_none (by omega)]
 ·by_cases h3 : o ≤ cs.length
  ·rw [List.getElem?_append_right (by simp; omega), List.length_take, Nat.min_eq_left h3]
   by_cases h2 : i - o < min n (cs.length - o)
   ·rw [List.getElem?_append_left (by simp; omega), List.getElem?_take, if_pos (by omega), List.getElem?_drop, show o + (i - o) = i by omega]
   ·rw [List.getElem?_append_right (by simp; omega), List.length_take, List.length_drop, List.getElem?_drop]
    congr 1
    omega
  ·rw [List.getElem?_eq_none (by simp; omega), List.getElem?_eq_none (by omega)]
theorem QbS {m : Mem} {μ : LMap} {n : Nat} {T : TypeId} {l l2 : Loc} (hl : μ n = some l) (hE : l.E = T) (h0 : l.off = 0) (ht : l.tot = l.sh.size) (hp : 0 < l.tot) (hl2 : μ (n + 1) = some l2) (hs2 : l2.sh = .arr 0 (.int .u8)) {a a' : AVal} (hs : l.sh = a.sh) {p : List Nat} (h : Q8P n T a p = some a') {cs : List Value} (hc : CRel m μ a cs) :
  a'.sh = a.sh ∧ CRel m μ a' cs := by
 unfold Q8P at h
 split at h
 ·rename_i os r ho hg
  obtain ⟨o, s⟩ := os
  obtain ⟨hle, x, hx, hxs, hxr⟩ := Q1E hc ho
  rw [hg] at hx
  cases hx
  have h2 : CRel m μ (.pair (.sfp n p T) (.pair (.vbs (n + 1)) r)) ((cs.drop o).take s.size) := by
   simp only [CRel, AVal.size, AVal.sh, Sh.size] at hxr ⊢
   exact ⟨⟨l, o, s, hl, hE, h0, ht, hp, by rw [hs]; exact ho, .inl hxr.1⟩, ⟨l2, 0, none, 0, hl2, hs2, Nat.le_refl _, hxr.2.1, .inr ⟨rfl, rfl⟩⟩, hxr.2.2⟩
  have h3 : (AVal.pair (.sfp n p T) (.pair (.vbs (n + 1)) r)).sh = s := hxs
  have := Q3Q hc ho h2 h3 h
  rw [Q9O] at this
  exact this
 ·cases h
theorem Qcp {n : Nat} {T : TypeId} {a a' : AVal} {p : List Nat} (h : Q8P n T a p = some a') : a'.isVb = true → a.isVb = true := by
 unfold Q8P at h
 split at h
 ·exact Q6a h rfl
 ·cases h
theorem QbY {x : AVal} (h : x.sh.size ≠ 0) : x.isMp = false := by
 cases x <;> first | rfl | exact absurd rfl h
theorem QbK {m : Mem} {μ μ1 μ2 : LMap} {H : Heap} {w w1 : World} {x z' : AVal} {p : List Nat} {T : TypeId} {l : Loc} {cs : List Value} (hp : Post m μ H w m μ1 (H ++ [some x]) w1)
  (hp2 : Post m μ1 (H ++ [some x]) w1 m μ2 (H ++ [some x] ++ [some (.vec (.int .u8) [])]) w1) (hl : μ1 H.length = some l) (hE : l.E = T) (h0 : l.off = 0) (ht : l.tot = l.sh.size) (hpos : 0 < l.tot) (hs : l.sh = x.sh) (hx : CRel m μ x cs) (hz' : Q8P H.length T x p = some z') :
  Post m μ H w m μ2 (H ++ [some z', some (.vec (.int .u8) [])]) w1 ∧ μ2 H.length = some l := by
 have hi : (H ++ [some x] ++ [some (AVal.vec (.int .u8) [])])[H.length]? = some (some x) := by
  rw [List.getElem?_append_left (by simp), List.getElem?_append_right (Nat.le_refl _)]; simp
 have hl1 := hp2.μl _ _ hl
 obtain ⟨l2, hb2⟩ := hp2.rh.blk (H.length + 1) (.vec (.int .u8) []) (by rw [List.getElem?_append_right (by simp)]; simp)
 have hm : ∀ cs, CRel m μ2 x cs → z'.sh = x.sh ∧ CRel m μ2 z' cs := fun cs hc => QbS hl1 hE h0 ht hpos hb2.loc hb2.sh hs hz' hc
 have hr := hp2.rh.recast hi (hm _ (hx.mono (Mem.le_refl m) (LMap.le_trans hp.μl hp2.μl))).1 (fun cs hc => (hm cs hc).2) (Qcp hz') (QbY (by rw [← hs, ← ht]; omega))
 have hset : (H ++ [some x] ++ [some (AVal.vec (.int .u8) [])]).set H.length (some z') = H ++ [some z', some (.vec (.int .u8) [])] := by
  rw [List.append_assoc, List.set_append_right _ _ (Nat.le_refl _), Nat.sub_self]; rfl
 rw [hset] at hr
 exact ⟨(hp.trans hp2).trans hr, hl1⟩
theorem Does.allocA {P : Program} {m : Mem} {μ : LMap} {H : Heap} {w : World} {x : AVal} {v : Value} (T : TypeId) (rh : RH m μ H w) (hx : CRel m μ x v.cells.toList) (hv : x.isVb = false) :
  Does P m μ H w (do pure (.value (← (do pure (.pointer (some (← Go.newVar T v))) : Sem Value)))) (allocA P H T x).v (allocA P H T x).H := by
 unfold Am.allocA
 split
 ·rename_i p hps
  split
  ·rename_i z' hz'
   have hz : x.sh.size ≠ 0 := by
    intro h0
    rw [h0] at hps
    simp at hps
   have hl := hx.length
   simp only [AVal.size] at hl
   have hp := rh.push (a := x) (cs := v.cells) (E := T) (fz := (0, 0)) (dr := w.drawn) (by simpa using Nat.le_of_eq hl.symm) (fun j _ h => by omega) (by rw [← hl, List.take_length]; exact hx) (fun h => by rw [hv] at h; cases h)
   have hsz : v.cells.size = x.sh.size := by simpa using hl
   have hp2 := hp.rh.phantom (a := .vec (.int .u8) []) (by simp [AVal.sh, Sh.size]) (by show DRel m (.arr _ (.int .u8)) _ _; simp [DRel]) 0
   have hlen : (H ++ [some x]).length = H.length + 1 := by simp
   rw [hlen] at hp2
   obtain ⟨hfin, hl1⟩ := QbK (l := ⟨w.heap.size, 0, x.sh, v.cells.size, T, false⟩) hp hp2 (if_pos rfl) rfl rfl hsz (show 0 < v.cells.size by omega) rfl hx hz'
   refine ⟨.value (.pointer (some ⟨w.heap.size, 0, none⟩)), .pointer (some ⟨w.heap.size, 0, none⟩), _, _, ?_, .inl rfl, ?_, hfin⟩
   ·simp only [run_bind, Q4h]; rfl
   ·exact ⟨⟨w.heap.size, 0, x.sh, v.cells.size, T, false⟩, 0, x.sh, hl1, rfl, rfl⟩
  ·exact Does.newVar T rh hx hv
 ·exact Does.newVar T rh hx hv
theorem Q8s {P : Program} {T : TypeId} {x : AVal} (h : fitT P T x = true) : Q1H P T = some x.isAgg ∧ Q16 P T = some x.size := by
 simp only [fitT, Bool.and_eq_true, beq_iff_eq] at h; exact h
theorem Q4C {P : Program} {m : Mem} {μ : LMap} {w : World} {T : TypeId} {x : AVal} {b o : Nat} {cs : Array Value} {E : TypeId} {fz : Nat × Nat} (hT : fitT P T x = true)
  (hb : w.heap[b]? = some (.cells cs E fz)) (hle : o + x.size ≤ cs.size) (hx : CRel m μ x ((cs.toList.drop o).take x.size)) :
  ∃ v, (loadVar T ⟨b, o, none⟩).run P w = .ok v w ∧ VRel m μ x v := by
 obtain ⟨h1, h2⟩ := Q8s hT
 cases ha : x.isAgg with
 | true =>
  rw [ha] at h1
  refine ⟨.agg ((cs.toList.drop o).take x.size).toArray, ?_, Q4D (by simpa using hx) ha⟩
  simp only [loadVar, run_bind, Q2s h1, Q0N h2, if_true, Q2i hb hle]; rfl
 | false =>
  rw [ha] at h1
  obtain ⟨v, hv⟩ := hx.one ha
  have hs : x.size = 1 := by rw [AVal.size, Q50 ha]; rfl
  rw [hs] at hv hle
  refine ⟨v, ?_, Q3c (by rw [← hv, ← hs]; exact hx) ha⟩
  have hc : w.cell? ⟨b, o, none⟩ = some v := by
   rw [Q4b hb]
   have := congrArg (·[0]?) hv
   simpa [List.getElem?_take, List.getElem?_drop] using this
  simp only [loadVar, run_bind, Q2s h1]
  exact Q4T hc
theorem Q2j {m : Mem} {μ : LMap} {H : Heap} {w : World} (rh : RH m μ H w) {id : Nat} {c x : AVal} {p : List Nat} {l : Loc} {o : Nat} {s : Sh} (hi : H[id]? = some (some c)) (hg : getP c p = some x)
  (hl : μ id = some l) (ho : l.sh.offP p = some (o, s)) :
  x.sh = s ∧ c.sh = l.sh ∧ o + s.size ≤ l.sh.size ∧ (0 < s.size → 0 < l.tot ∧ m l.b = none ∧ ∃ cs E fz, w.heap[l.b]? = some (.cells cs E fz) ∧ cs.size = l.tot ∧ (∀ j, j < l.tot → ¬ (fz.1 ≤ j ∧ j < fz.2)) ∧ l.off + l.sh.size ≤ cs.size ∧
   CRel m μ c ((cs.toList.drop l.off).take l.sh.size) ∧ CRel m μ x ((cs.toList.drop (l.off + o)).take s.size)) := by
 obtain ⟨l', hb⟩ := rh.blk id c hi
 have : l' = l := Option.some.inj (hb.loc.symm.trans hl)
 subst this
 rw [hb.sh] at ho
 rcases hb.cells with ⟨p1, p2, p3, p4⟩ | ⟨p0, gm, cs, E, fz, g1, g2, g3, g4, g5⟩
 ·obtain ⟨hle, x', hx', hs, hr⟩ := Q1E p4 ho
  rw [hg] at hx'; cases hx'
  exact ⟨hs, hb.sh.symm, by rw [hb.sh]; exact hle, fun h0 => by omega⟩
 ·obtain ⟨hle, x', hx', hs, hr⟩ := Q1E g5 ho
  rw [hg] at hx'; cases hx'
  rw [Q0Z _ _ _ _ _ hle] at hr
  refine ⟨hs, hb.sh.symm, by rw [hb.sh]; exact hle, fun _ => ⟨p0, gm, cs, E, fz, g1, g2, g3, by rw [hb.sh, g2]; exact g4, by rw [hb.sh]; exact g5, hr⟩⟩
theorem Q2v {m : Mem} {b o n : Nat} {c : List Value} (h : m.cells b o n = some c) : ∃ cs, m b = some cs ∧ o + n ≤ cs.size ∧ c = (cs.toList.drop o).take n := by
 unfold Mem.cells at h
 cases hm : m b with
 | none => rw [hm] at h; cases h
 | some cs =>
  rw [hm] at h
  simp only at h
  split at h
  ·exact ⟨cs, rfl, ‹_›, (Option.some.inj h).symm⟩
  ·cases h
theorem Q44 {H : Heap} {id : Nat} {p : List Nat} {x : AVal} (h : Q21 H id p = some x) : ∃ c, H[id]? = some (some c) ∧ getP c p = some x := by
 unfold Q21 at h
 split at h
 ·exact ⟨_, ‹_›, h⟩
 ·cases h
theorem Qdb {x : AVal} {T : TypeId} {P : Program} (_ : fitT P T x = true) : x.size = 0 ∨ 0 < x.size := by omega
theorem Q3D {P : Program} {m : Mem} {μ : LMap} {w : World} {T : TypeId} {x : AVal} {a : Addr} (hT : fitT P T x = true) (h0 : x.size = 0) (hx : CRel m μ x []) :
  ∃ v, (loadVar T a).run P w = .ok v w ∧ VRel m μ x v := by
 obtain ⟨h1, h2⟩ := Q8s hT
 cases ha : x.isAgg with
 | true =>
  rw [ha] at h1
  rw [h0] at h2
  refine ⟨.agg #[], ?_, Q4D (by simpa using hx) ha⟩
  simp only [loadVar, run_bind, Q2s h1, Q0N h2, if_true, loadCells, loadCellsFrom]; rfl
 | false => rw [AVal.size, Q50 ha] at h0; cases h0
theorem Qat {m : Mem} {μ : LMap} {H : Heap} {w : World} (rh : RH m μ H w) {id : Nat} {c x : AVal} {p : List Nat} {l : Loc} {o : Nat} {s : Sh} (hi : H[id]? = some (some c)) (hg : getP c p = some x)
  (hl : μ id = some l) (ho : l.sh.offP p = some (o, s)) (h0 : s.size = 0) : CRel m μ x [] := by
 obtain ⟨l', hb⟩ := rh.blk id c hi
 have : l' = l := Option.some.inj (hb.loc.symm.trans hl)
 subst this
 rw [hb.sh] at ho
 have key : ∀ cs, CRel m μ c cs → CRel m μ x [] := by
  intro cs hc
  obtain ⟨hle, x', hx', hs, hr⟩ := Q1E hc ho
  rw [hg] at hx'; cases hx'
  rw [h0] at hr
  simpa using hr
 rcases hb.cells with ⟨p1, p2, p3, p4⟩ | ⟨p0, gm, cs, E, fz, g1, g2, g3, g4, g5⟩
 ·exact key _ p4
 ·exact key _ g5
theorem Q7L {P : Program} {m : Mem} {μ : LMap} {H : Heap} {w : World} {T : TypeId} {a : AVal} {v : Value} {r : Res} (rh : RH m μ H w) (hv : VRel m μ a v) (h : Q8F P H T a = some r) :
  r.H = H ∧ ∃ u, (Instr.loadAt T v).run P w = .ok u w ∧ VRel m μ r.v u := by
 cases a <;> simp only [Q8F] at h <;> try (cases h; done)
 ·rename_i id p
  cases hc : Q21 H id p with
  | none => rw [hc] at h; cases h
  | some x =>
   rw [hc] at h
   simp only [Option.bind_some] at h
   split at h
   ·rename_i hT
    cases h
    obtain ⟨c, hi, hg⟩ := Q44 hc
    have hv' := hv.one rfl rfl
    obtain ⟨l, o, s, hl, ho, he⟩ := hv'
    cases he
    obtain ⟨hs, _, hle, hpos⟩ := Q2j rh hi hg hl ho
    subst hs
    refine ⟨rfl, ?_⟩
    simp only [Instr.loadAt, run_bind, Instr.sureAddr, QP]
    rcases Nat.eq_zero_or_pos x.sh.size with h0 | h0
    ·exact Q3D hT h0 (Qat rh hi hg hl ho h0)
    ·obtain ⟨_, _, cs, E, fz, g1, g2, _, g4, _, g6⟩ := hpos h0
     exact Q4C hT g1 (by rw [AVal.size]; omega) g6
   ·cases h
 ·rename_i t x
  split at h
  ·rename_i hT
   cases h
   obtain ⟨ad, c, he, hsp, hm, hd⟩ := hv.one rfl rfl
   cases he
   obtain ⟨cs, hmb, hle, hcc⟩ := Q2v hm
   obtain ⟨E, fz, hb⟩ := rh.mem _ _ hmb
   refine ⟨rfl, ?_⟩
   simp only [Instr.loadAt, run_bind, Instr.sureAddr, QP]
   have : ad = ⟨ad.block, ad.off, none⟩ := by cases ad; simp_all
   rw [this]
   have hsz := Q4L t x
   exact Q4C hT hb (by rw [hsz]; exact hle) (by rw [hsz, ← hcc]; exact Q1n.2 hd)
  ·cases h
 ·rename_i id p off n
  have key : ∀ {t : Ty} {xs : List t.den} {y : AVal}, Q21 H id p = some y → (∃ N, y.sh = .arr N t ∧ ∀ cs, CRel m μ y cs → DRel m (.arr N t) xs cs) → fitT P T (.arr n t ((xs.drop off).take n)) = true →
    ∃ u, (Instr.loadAt T v).run P w = .ok u w ∧ VRel m μ (.arr n t ((xs.drop off).take n)) u := by
   intro t xs y hc ⟨N, hsh, hdy⟩ hT
   obtain ⟨c, hi, hg⟩ := Q44 hc
   obtain ⟨l, o, N', t', hl, ho, hle', he⟩ := hv.one rfl rfl
   cases he
   obtain ⟨hs, _, hle, hpos⟩ := Q2j rh hi hg hl ho
   rw [hsh] at hs
   cases hs
   simp only [Instr.loadAt, run_bind, Instr.sureAddr, QP]
   have hmul : (off + n) * t.size ≤ N * t.size := Nat.mul_le_mul_right _ hle'
   rw [Nat.add_mul] at hmul
   have harr : ∀ cs, DRel m (.arr N t) xs cs → CRel m μ (.arr n t ((xs.drop off).take n)) ((cs.drop (off * t.size)).take (n * t.size)) := by
    intro cs hd
    simp only [DRel] at hd
    obtain ⟨d1, d2, d3⟩ := hd
    simp only [CRel, DRel]
    refine ⟨by simp [d1]; omega, by simp [d2]; omega, fun i hin => ?_⟩
    have e1 : ((xs.drop off).take n).getD i t.zero = xs.getD (off + i) t.zero := by
     simp only [List.getD_eq_getElem?_getD, List.getElem?_take, if_pos hin, List.getElem?_drop]
    rw [e1]
    have hm : (i + 1) * t.size ≤ n * t.size := Nat.mul_le_mul_right _ hin
    rw [Nat.add_mul] at hm
    rw [Q0Z _ _ _ _ _ (by omega), ← Nat.add_mul]
    exact d3 _ (by omega)
   rcases Nat.eq_zero_or_pos (n * t.size) with h0 | h0
   ·refine Q3D hT h0 ?_
    have hlen : (N * t.size) = (N * t.size) := rfl
    obtain ⟨l', hb⟩ := rh.blk id c hi
    have : l' = l := Option.some.inj (hb.loc.symm.trans hl)
    subst this
    rw [hb.sh] at ho
    have fin : ∀ cs, CRel m μ c cs → CRel m μ (.arr n t ((xs.drop off).take n)) [] := by
     intro cs hc'
     obtain ⟨_, x', hx', _, hr⟩ := Q1E hc' ho
     rw [hg] at hx'; cases hx'
     have := harr _ (hdy _ hr)
     rw [h0] at this
     simpa using this
    rcases hb.cells with ⟨_, _, _, p4⟩ | ⟨_, _, _, _, _, _, _, _, _, g5⟩
    ·exact fin _ p4
    ·exact fin _ g5
   ·have hN : 0 < N * t.size := by
     have : n * t.size ≤ N * t.size := Nat.mul_le_mul_right _ (by omega)
     omega
    obtain ⟨_, _, cs, E, fz, g1, g2, _, g4, _, g6⟩ := hpos hN
    have := harr _ (hdy _ g6)
    rw [Q0Z _ _ _ _ _ (by simp only [Sh.size]; omega)] at this
    simp only [Sh.size] at hle
    exact Q4C (x := .arr n t ((xs.drop off).take n)) hT g1 (by show l.off + o + off * t.size + n * t.size ≤ cs.size; omega) this
  split at h
  ·rename_i N t xs hc
   split at h
   ·rename_i hT
    cases h
    exact ⟨rfl, key hc ⟨N, rfl, fun cs hc => hc⟩ hT⟩
   ·cases h
  ·rename_i t xs hc
   split at h
   ·rename_i hT
    cases h
    exact ⟨rfl, key hc ⟨xs.length, rfl, fun cs hc => hc⟩ hT⟩
   ·cases h
  ·cases h
theorem Q9n {P : Program} {T : TypeId} {v : Value} {n : Nat} (hT : Q16 P T = some n) (hn : v.cells.size = n) (a : Addr) (w : World) :
  (storeVar T a v).run P w = (storeCells a v.cells.toList).run P w := by
 simp only [storeVar, run_bind, Q0N hT, hn, ne_eq, not_true_eq_false, if_false]
theorem Q9K {P : Program} {m : Mem} {μ : LMap} {H : Heap} {w : World} (rh : RH m μ H w) {id : Nat} {c x c' : AVal} {p : List Nat} {l : Loc} {o : Nat} {s : Sh} {cells : List Value} (hi : H[id]? = some (some c))
  (hl : μ id = some l) (ho : l.sh.offP p = some (o, s)) (hx : CRel m μ x cells) (hs : x.sh = s) (hset : setP c p x = some c') (hvx : c'.isVb = true → c.isVb = true) (hnm : c.isMp = false) :
  ∃ w', (storeCells ⟨l.b, l.off + o, none⟩ cells).run P w = .ok () w' ∧ Post m μ H w m μ (H.set id (some c')) w' := by
 obtain ⟨l', hb⟩ := rh.blk id c hi
 have : l' = l := Option.some.inj (hb.loc.symm.trans hl)
 subst this
 have hlen := hx.length
 simp only [AVal.size] at hlen
 rw [hb.sh] at ho
 rcases hb.cells with ⟨p1, p2, p3, p4⟩ | ⟨p0, gm, cs, E, fz, g1, g2, g3, g4, g5⟩
 ·-- a block of no cells: nothing is written
  obtain ⟨hle, _⟩ := Q1E p4 ho
  have hnil : cells = [] := List.eq_nil_of_length_eq_zero (by rw [hlen, hs]; omega)
  subst hnil
  obtain ⟨q1, q2⟩ := Q3Q p4 ho hx hs hset
  refine ⟨w, rfl, ?_⟩
  have hsp : Q0R ([] : List Value) o [] = [] := by simp [Q0R]
  rw [hsp] at q2
  have hil : id < H.length := (List.getElem?_eq_some_iff.1 hi).1
  have look : ∀ {j : Nat} {y : AVal}, (H.set id (some c'))[j]? = some (some y) → (j = id ∧ y = c') ∨ (j ≠ id ∧ H[j]? = some (some y)) := by
   intro j y hj
   by_cases hji : j = id
   ·subst hji; rw [List.getElem?_set_self hil] at hj; exact .inl ⟨rfl, (Option.some.inj (Option.some.inj hj)).symm⟩
   ·rw [List.getElem?_set_ne (Ne.symm hji)] at hj; exact .inr ⟨hji, hj⟩
  have old : ∀ {j : Nat} {y : AVal}, (H.set id (some c'))[j]? = some (some y) → ∃ z, H[j]? = some (some z) := by
   intro j y hj
   rcases look hj with ⟨h1, _⟩ | ⟨_, h1⟩
   ·subst h1; exact ⟨c, hi⟩
   ·exact ⟨y, h1⟩
  refine ⟨⟨rh.mem, ?_, ?_, ?_, ?_, ?_, ?_, ?_⟩, Mem.le_refl _, LMap.le_refl _, rfl, rfl, rfl, Nat.le_refl _, fun _ _ _ => rfl, ?_, fun _ _ h => .inl h, ⟨by simp, fun _ _ h => h⟩⟩
  ·intro j y hj
   rcases look hj with ⟨h1, h2⟩ | ⟨_, h1⟩
   ·subst h1; subst h2
    exact ⟨l', hl, by rw [hb.sh, q1], .inl ⟨p1, p2, by rw [q1]; exact p3, q2⟩⟩
   ·exact rh.blk j y h1
  ·intro j k y z lj lk hj hk hlj hlk z1 z2 he
   obtain ⟨y', hy'⟩ := old hj
   obtain ⟨z', hz'⟩ := old hk
   exact rh.inj j k y' z' lj lk hy' hz' hlj hlk z1 z2 he
  ·intro j hj; rw [List.length_set] at hj; exact rh.dom j hj
  ·intro j y lj hj hlj hz
   obtain ⟨y', hy'⟩ := old hj
   exact rh.typ j y' lj hy' hlj hz
  ·intro j y lj hj hy hlj hz
   rcases look hj with ⟨h1, h2⟩ | ⟨_, h1⟩
   ·subst h1; subst h2
    exact rh.vb j c lj hi (hvx hy) hlj hz
   ·exact rh.vb j y lj h1 hy hlj hz
  ·refine rh.mpk (Mem.le_refl _) ?_ (fun _ _ _ hb => hb)
   intro j y lj hj hlj hpz
   rcases look hj with ⟨h1, h2⟩ | ⟨h1, h2⟩
   ·subst h1
    obtain ⟨_, kt, vt, xs, es, cc, e, _⟩ := rh.mp j c lj hi hlj hpz
    rw [e] at hnm; cases hnm
   ·exact ⟨j, h2, hlj⟩
  ·intro j k y z lj lk hj hk pj pk hlj hlk he
   obtain ⟨y', hy'⟩ := old hj
   obtain ⟨z', hz'⟩ := old hk
   exact rh.mpi j k y' z' lj lk hy' hz' pj pk hlj hlk he
  ·rintro b ⟨j, y, lj, hj, hlj, q, he⟩ _
   obtain ⟨y', hy'⟩ := old hj
   exact ⟨j, y', lj, hy', hlj, q, he⟩
 ·obtain ⟨hle, _⟩ := Q1E g5 ho
  obtain ⟨q1, q2⟩ := Q3Q g5 ho hx hs hset
  obtain ⟨w', cs', hr, hp, hcs⟩ := Q2E (P := P) (b := l'.b) (l'.off + o) cells 0 w cs g1 (by rw [hlen, hs]; omega) (by rw [g2]; exact g3) hx.flat
  refine ⟨w', hr, ?_⟩
  have hn : cs'.size = cs.size := by
   rw [← Array.length_toList, hcs, Q1p (by simp; rw [hlen, hs]; omega)]; simp
  refine rh.put hi hl p0 g1 hp q1 hn ?_ hvx
  rw [hcs, q1, Nat.add_zero, Q2L (by omega) (by rw [hlen, hs]; omega) (by simp; omega), show l'.off + o - l'.off = o from by omega]
  exact q2
theorem Q9C {P : Program} {m : Mem} {μ : LMap} {H : Heap} {w : World} {T : TypeId} {a x : AVal} {v u : Value} {r : Res} (rh : RH m μ H w) (hv : VRel m μ a v) (hu : VRel m μ x u) (h : Q6M P H T a x = some r) :
  r.v = .undef ∧ ∃ w', (Instr.storeAt T v u).run P w = .ok () w' ∧ Post m μ H w m μ r.H w' := by
 cases a <;> simp only [Q6M] at h <;> try (cases h; done)
 rename_i id p
 split at h
 ·rename_i c hi
  cases hg : getP c p with
  | none => rw [hg] at h; cases h
  | some old =>
   rw [hg] at h
   simp only [Option.bind_some] at h
   split at h
   ·rename_i hok
    simp only [Bool.and_eq_true, decide_eq_true_eq, beq_iff_eq] at hok
    obtain ⟨⟨⟨ok, hsh⟩, hsz⟩, hnm⟩ := hok
    have hnm : c.isMp = false := by simpa using hnm
    cases hset : setP c p x with
    | none => rw [hset] at h; cases h
    | some c' =>
     rw [hset] at h
     simp only [Option.bind_some, Option.some.injEq] at h
     subst h
     obtain ⟨l, o, s, hl, ho, he⟩ := hv.one rfl rfl
     cases he
     obtain ⟨hs, _, _, _⟩ := Q2j rh hi hg hl ho
     have hx := Q34 hu ok
     have hlen := hx.length
     obtain ⟨w', hr, hp⟩ := Q9K (P := P) rh hi hl ho hx (by rw [← hsh, hs]) hset (Q6a hset (Q8T ok)) hnm
     refine ⟨rfl, w', ?_, hp⟩
     simp only [Instr.storeAt, run_bind, Instr.sureAddr, QP]
     rw [Q9n hsz (by simpa using hlen)]
     exact hr
   ·cases h
 ·cases h
end Go.Am
