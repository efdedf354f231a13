/- Part 3 of the texts of DmJ. -/
import Derived.Test.YtdgphamhpjnmpaaWa2
import Derived.Below
import Derived.Deep.Slices
import Derived.KernelRfl
import Derived.Laws.Append
import Derived.Laws.Build
import Derived.Laws.BytesString
import Derived.Laws.Cells
import Derived.Laws.Concat
import Derived.Laws.Entries
import Derived.Laws.MakeOwn
import Derived.Laws.Slices
import Derived.Laws.Strings
import Derived.Laws.Strings2
import Derived.Laws.StructEq
import Derived.Lib.Strings
import Derived.Lib.UnsafeStr
import Derived.Orders
import Derived.OrdersHeld
import Derived.OrdersIn
import Derived.ProofKit
import Derived.RangeFuncCalls
import Derived.RangeFuncIn
import Derived.RangeFuncLeaves
import Derived.RangeFuncRecord
import Derived.Shelf.Bits.Mul64
import Derived.Shelf.Strings.Builder1
import Derived.Shelf.Strings.Builder2
import Derived.Shelf.Strings.BuilderF
import Derived.Shelf.Strings.Prefix
import Derived.Shelf.Strings.Repeat
import Derived.Tactics
import Derived.TacticsIn
import Derived.Test.YtdgphamhpjnmpaaProg
import Derived.Test.YtdgphamhpjnmpaaRows
/- tmframe: numbers and bytes; valid. -/
namespace Go.Proofs.Ytdgphamhpjnmpaa
namespace Sx

def b8 (m : Int) : UInt8 := UInt8.ofNat (m % 256).toNat
theorem bv_b8 (m : Int) : Value.int .u8 (m % 256) = bv (b8 m) := bv_wrap m
theorem b8_toNat (m : Int) : ((b8 m).toNat : Int) = m % 256 := by
  have h : 0 ≤ m % 256 ∧ m % 256 < 256 := by omega
  rw [b8, UInt8.toNat_ofNat', Nat.mod_eq_of_lt (by omega)]; omega
/-- unsigned registers: masks and unions -/
theorem bits_orU {kd : IntKind} (hw : ∀ m, kd.wrap m = m % ((2 ^ kd.bits : Nat) : Int)) {a b k : Nat} (hb : b < 2 ^ k) (h : a * 2 ^ k + b < 2 ^ kd.bits) : bits2 .or kd ((a * 2 ^ k : Nat) : Int) (b : Int) = ((a * 2 ^ k + b : Nat) : Int) := by
  have e : (BitVec.ofInt kd.bits ((a * 2 ^ k : Nat) : Int) ||| BitVec.ofInt kd.bits (b : Int)).toNat = a * 2 ^ k + b := by
    rw [BitVec.toNat_or, BitVec.ofInt_natCast, BitVec.ofInt_natCast, BitVec.toNat_ofNat, BitVec.toNat_ofNat, Nat.mod_eq_of_lt (by omega), Nat.mod_eq_of_lt (a := b) (by omega)]
    have := Nat.shiftLeft_add_eq_or_of_lt hb a
    rw [Nat.shiftLeft_eq] at this
    exact this.symm
  show kd.wrap ((BitVec.ofInt kd.bits ((a * 2 ^ k : Nat) : Int) ||| BitVec.ofInt kd.bits (b : Int)).toNat : Int) = _
  rw [e, hw, ← Int.natCast_emod, Nat.mod_eq_of_lt h]
theorem bits_maskU {kd : IntKind} (hw : ∀ m, kd.wrap m = m % ((2 ^ kd.bits : Nat) : Int)) {x k : Nat} (hk : k ≤ kd.bits) (hx : x < 2 ^ kd.bits) : bits2 .and kd (x : Int) ((2 ^ k - 1 : Nat) : Int) = ((x % 2 ^ k : Nat) : Int) := by
  have h2 : (2 : Nat) ^ k ≤ 2 ^ kd.bits := Nat.pow_le_pow_right (by decide) hk
  have hp : 0 < (2 : Nat) ^ k := Nat.two_pow_pos k
  have e : (BitVec.ofInt kd.bits (x : Int) &&& BitVec.ofInt kd.bits ((2 ^ k - 1 : Nat) : Int)).toNat = x % 2 ^ k := by
    rw [BitVec.toNat_and, BitVec.ofInt_natCast, BitVec.ofInt_natCast, BitVec.toNat_ofNat, BitVec.toNat_ofNat, Nat.mod_eq_of_lt hx, Nat.mod_eq_of_lt (a := 2 ^ k - 1) (by omega), Nat.and_two_pow_sub_one_eq_mod]
  show kd.wrap ((BitVec.ofInt kd.bits (x : Int) &&& BitVec.ofInt kd.bits ((2 ^ k - 1 : Nat) : Int)).toNat : Int) = _
  have := Nat.mod_lt x hp
  rw [e, hw, ← Int.natCast_emod, Nat.mod_eq_of_lt (by omega)]
theorem or_u64 {a b k : Nat} (hb : b < 2 ^ k) (h : a * 2 ^ k + b < 2 ^ 64) : bits2 .or .u64 ((a * 2 ^ k : Nat) : Int) (b : Int) = ((a * 2 ^ k + b : Nat) : Int) := bits_orU (kd := .u64) (fun _ => rfl) hb h
theorem mask_u64 {x k : Nat} (hk : k ≤ 64) (hx : x < 2 ^ 64) : bits2 .and .u64 (x : Int) ((2 ^ k - 1 : Nat) : Int) = ((x % 2 ^ k : Nat) : Int) := bits_maskU (kd := .u64) (fun _ => rfl) hk hx

/-- the number that bytes are -/
def numN (l : List UInt8) : Nat := l.foldl (fun a c => a * 256 + c.toNat) 0
theorem numN_snoc (l : List UInt8) (c : UInt8) : numN (l ++ [c]) = numN l * 256 + c.toNat := by simp [numN]
theorem numN_ge : ∀ (l : List UInt8) (a k : Nat), a < 256 ^ k → l.foldl (fun a c => a * 256 + c.toNat) a < 256 ^ (k + l.length) := by
  intro l; induction l with
  | nil => intro a k h; exact h
  | cons c l ih =>
    intro a k h
    have hc := c.toNat_lt
    have := ih (a * 256 + c.toNat) (k + 1) (by rw [Nat.pow_succ]; omega)
    rw [List.foldl_cons, List.length_cons, show k + (l.length + 1) = k + 1 + l.length by omega]; exact this
theorem numN_lt (l : List UInt8) : numN l < 256 ^ l.length := by
  have := numN_ge l 0 0 (by decide)
  rwa [Nat.zero_add] at this
theorem number_ok {l : List UInt8} (hl : l.length ≤ 7) : Fn Try.prog 53 #[S l] [] (Ret fun v Q => v = .int .u64 (numN l) ∧ Q = []) := by
  refine Fn.of (args := _) Try.func53 rfl Try.ntmps53 rfl ?_
  intro w0 g0
  refine CW.seq ?_
  refine CW.region ?_
  refine LW.v (ov_assign rfl) ?_
  refine LW.nil ?_
  refine KW.thenN ?_
  refine CW.seq ?_
  refine CW.region ?_
  refine LW.v (ov_assign rfl) ?_
  refine LW.nil ?_
  refine KW.thenN ?_
  refine CW.seq ?_
  refine CW.seq ?_
  refine CW.region ?_
  refine LW.v (ov_move rfl) ?_
  refine LW.v (ov_lenS un9 rfl) ?_
  refine LW.v (ov_move rfl) ?_
  refine LW.nil ?_
  refine KW.thenN ?_
  refine CW.block ?_
  refine CW.loopW (fun n env As => ∃ (k : Nat), k + n = l.length ∧ env = [(0, S l), (3, .int .u64 (numN (l.take k))), (6, .int .i64 l.length), (7, .int .i64 k)] ∧ As = [ex g0]) l.length [0] ⟨0, by simp, rfl, rfl⟩ ⟨rfl, rfl, rfl, rfl, trivial⟩ rfl rfl ?_
  rintro n _ _ ⟨k, hkn, rfl, rfl⟩
  refine CW.seq ?_
  refine CW.region ?_
  refine LW.v (ov_lss rfl rfl) ?_
  refine LW.nil ?_
  refine KW.thenN ?_
  refine CW.seq ?_
  refine CW.condD (by rfl) (fun h => ?_) (fun h => ?_)
  · have hk : k < l.length := by omega
    have hc : l[k]? = some l[k] := List.getElem?_eq_getElem hk
    have hlt : numN (l.take k) < 256 ^ 6 := Nat.lt_of_lt_of_le (numN_lt _) (Nat.pow_le_pow_right (by decide) (by simp; omega))
    have hs := numN_snoc (l.take k) l[k]
    rw [← List.take_succ_eq_append_getElem hk] at hs
    generalize l[k] = c at hc hs
    generalize numN (l.take k) = a at hlt hs
    have hcl := c.toNat_lt
    have e11 : IntKind.u64.wrap ((a : Int) * 2 ^ (min (8 : Int).toNat IntKind.u64.bits)) = ((a * 2 ^ 8 : Nat) : Int) := by
      rw [wrap_u64]
      show ((a : Int) * 256) % 18446744073709551616 = ((a * 256 : Nat) : Int)
      omega
    have e15 : ((c.toNat : Int)) % 18446744073709551616 = (c.toNat : Int) := by omega
    refine CW.skip ?_
    refine KW.thenN ?_
    refine CW.seq ?_
    refine CW.block ?_
    refine CW.seq ?_
    refine CW.region ?_
    refine LW.v (ov_move rfl) ?_
    refine LW.v (ov_assign rfl) ?_
    refine LW.nil ?_
    refine KW.thenN ?_
    refine CW.region ?_
    refine LW.v (ov_move rfl) ?_
    refine LW.v (OpV.eq (ov_shl rfl rfl (by decide)) (congrArg (Value.int .u64) e11)) ?_
    refine LW.v (ov_move rfl) ?_
    refine LW.v (ov_move rfl) ?_
    refine LW.v (ov_strIdx un9 rfl rfl rfl hc) ?_
    refine LW.v (OpV.eq (ov_toU un123 us5 rfl wrap_u64) (congrArg (Value.int .u64) e15)) ?_
    refine LW.v (ov_bits (.inr (.inl rfl)) rfl rfl (or_u64 (a := a) (b := c.toNat) (k := 8) (by omega) (by omega))) ?_
    refine LW.v (ov_assign rfl) ?_
    refine LW.nil ?_
    refine KW.blockN ?_
    refine KW.thenN ?_
    refine CW.region ?_
    first | refine LW.v (ov_add rfl rfl (by omega)) ?_ | refine LW.v (ov_addW rfl rfl) ?_
    refine LW.v (ov_move rfl) ?_
    refine LW.nil ?_
    exact KW.again (n - 1) [0] (by omega) ⟨k + 1, by omega, rfl, rfl⟩ ⟨rfl, by rw [hs]; rfl, rfl, rfl, trivial⟩ rfl rfl
  · have hk : k = l.length := by omega
    subst hk
    refine CW.exit ?_
    refine KW.thenX ?_
    refine KW.thenX ?_
    refine KW.hit ?_
    refine KW.thenN ?_
    refine CW.seq ?_
    refine CW.region ?_
    refine LW.v (ov_move rfl) ?_
    refine LW.v (ov_assign rfl) ?_
    refine LW.nil ?_
    refine KW.thenN ?_
    refine CW.ret ?_
    exact KW.retF (.cons (.tmp rfl) (.nil)) [] rfl rfl (⟨by rw [List.take_length]; rfl, rfl⟩)

/-- a number in some bytes -/
def beB (n : Int) : Nat → List UInt8
  | 0 => []
  | k + 1 => b8 (n / 256 ^ k) :: beB n k
theorem beB_len (n : Int) : ∀ k, (beB n k).length = k := by
  intro k; induction k with
  | zero => rfl
  | succ k ih => simp [beB, ih]
theorem bytesA_app (e : TypeId) (v : Value) (l l2 : List UInt8) : bytesA e v (l ++ l2) = ownS e 1 v (l.length + l2.length) (l.map bv ++ l2.map bv) := by
  simp only [bytesA, List.length_append, List.map_append]
theorem appended_ok {v : Value} {l : List UInt8} {n : Int} {many : Nat} (hm : many ≤ 8) (hl : l.length ≤ 100000) : Fn Try.prog 83 #[v, .int .u64 n, .int .i64 many] [bytesA 5 v l]
    (Ret fun v' Q => Q = [bytesA 5 v' (l ++ beB n many)]) := by
  refine Fn.of (args := _) Try.func83 rfl Try.ntmps83 rfl ?_
  intro w0 g0
  refine CW.seq ?_
  refine CW.region ?_
  refine LW.v (ov_assign rfl) ?_
  refine LW.nil ?_
  refine KW.thenN ?_
  refine CW.seq ?_
  refine CW.seq ?_
  refine CW.region ?_
  refine LW.v (ov_move rfl) ?_
  first | refine LW.v (ov_sub rfl rfl (by omega)) ?_ | refine LW.v (ov_subW rfl rfl) ?_
  refine LW.v (ov_assign rfl) ?_
  refine LW.nil ?_
  refine KW.thenN ?_
  refine CW.block ?_
  refine CW.loopW (fun r env As => ∃ (v' : Value) (l' : List UInt8), r ≤ many ∧ l' ++ beB n r = l ++ beB n many ∧ env = [(0, v'), (1, .int .u64 n), (7, .int .i64 ((r : Int) - 1))] ∧ As = [ex g0, bytesA 5 v' l']) many [0, 1] ⟨v, l, by omega, rfl, rfl, rfl⟩ ⟨rfl, rfl, rfl, trivial⟩ rfl rfl ?_
  rintro r _ _ ⟨v', l', hr, hrel, rfl, rfl⟩
  refine CW.seq ?_
  refine CW.seq ?_
  refine CW.region ?_
  refine LW.v (ov_move rfl) ?_
  refine LW.v (ov_geq rfl rfl) ?_
  refine LW.nil ?_
  refine KW.thenN ?_
  refine CW.condD (by rfl) (fun h => ?_) (fun h => ?_)
  · obtain ⟨k, rfl⟩ : ∃ k, r = k + 1 := ⟨r - 1, by omega⟩
    have hll : l'.length ≤ 100010 := by
      have := congrArg List.length hrel
      rw [List.length_append, List.length_append, beB_len, beB_len] at this; omega
    have ek : (((k + 1 : Nat) : Int) - 1) = (k : Int) := by omega
    have e18 : n.fdiv (2 ^ (min ((8 : Int) * (k : Int)).toNat IntKind.u64.bits)) = n / 256 ^ k := by
      have h1 : min ((8 : Int) * (k : Int)).toNat IntKind.u64.bits = 8 * k := by
        show min ((8 : Int) * (k : Int)).toNat 64 = 8 * k
        omega
      rw [h1, Int.fdiv_eq_ediv_of_nonneg _ (Int.pow_nonneg (by decide)), Int.pow_mul]; rfl
    refine CW.skip ?_
    refine KW.thenN ?_
    refine CW.seq ?_
    refine CW.block ?_
    refine CW.region ?_
    refine LW.v (ov_move rfl) ?_
    refine LW.v (ov_move rfl) ?_
    refine LW.v (OpV.eq (ov_move rfl) (congrArg (Value.int .i64) ek)) ?_
    first | refine LW.v (ov_mul rfl rfl (by omega)) ?_ | refine LW.v (ov_mulW rfl rfl) ?_
    refine LW.v (OpV.eq (ov_shr rfl rfl (by omega)) (congrArg (Value.int .u64) e18)) ?_
    refine LW.v (ov_toU un5 us123 rfl wrap_u8) ?_
    refine LW.opBA (ob_bs1 so107 zc5 (xs := [_]) rfl rfl rfl (by decide) rfl (fun _ => .c (.c (.n)))) rfl rfl (fun b20 => ?_)
    refine LW.opX (ox_appR 2 so107 zo5 rfl so107 rfl rfl rfl rfl rfl (by omega) (by omega) (by omega) (fun _ => .t (.h))) rfl rfl (fun a21 c21 => ?_)
    refine LW.v (ov_assign rfl) ?_
    refine LW.nil ?_
    refine KW.blockN ?_
    refine KW.thenN ?_
    refine CW.region ?_
    refine LW.v (ov_move rfl) ?_
    refine LW.v (OpV.eq (ov_sub rfl rfl (by omega)) (congrArg (Value.int .i64) (show (((k + 1 : Nat) : Int) - 1 - 1) = (k : Int) - 1 by omega))) ?_
    refine LW.v (ov_assign rfl) ?_
    refine LW.nil ?_
    refine KW.again k [0, 1] (by omega) ⟨_, l' ++ [b8 (n / 256 ^ k)], by omega, ?_, rfl, ?_⟩ ⟨rfl, rfl, rfl, trivial⟩ rfl rfl
    · rw [← hrel]; simp [beB]
    · simp only [bv_b8, bytesA_app]; rfl
  · obtain rfl : r = 0 := by omega
    refine CW.exit ?_
    refine KW.thenX ?_
    refine KW.thenX ?_
    refine KW.hit ?_
    refine KW.thenN ?_
    refine CW.seq ?_
    refine CW.region ?_
    refine LW.v (ov_move rfl) ?_
    refine LW.v (ov_assign rfl) ?_
    refine LW.nil ?_
    refine KW.thenN ?_
    refine CW.ret ?_
    simp only [beB, List.append_nil] at hrel
    exact KW.retF (.cons (.tmp rfl) (.nil)) [1] rfl rfl (by rw [← hrel]; rfl)

structure Tf where
  craft : Int
  chan : Int
  master : Int
  count : Int
  first : Int
  data : List UInt8
  word : Int
abbrev tfv (f : Tf) : Value := .agg #[.int .i64 f.craft, .int .i64 f.chan, .int .i64 f.master, .int .i64 f.count, .int .i64 f.first, S f.data, .int .u32 f.word]
def Tf.ok (f : Tf) : Prop := 0 ≤ f.craft ∧ f.craft ≤ 255 ∧ 0 ≤ f.master ∧ f.master ≤ 255 ∧ 0 ≤ f.count ∧ f.count ≤ 255 ∧ 0 ≤ f.chan ∧ f.chan ≤ 7 ∧ 32 ≤ f.data.length ∧ f.data.length ≤ 200 ∧ (0 ≤ f.first ∧ f.first < f.data.length ∨ f.first = 2046 ∨ f.first = 2047)
instance (f : Tf) : Decidable f.ok := by unfold Tf.ok; infer_instance
theorem valid_ok (f : Tf) : Fn Try.prog 55 #[tfv f] [] (Ret fun v Q => v = .bool (decide f.ok) ∧ Q = []) := by
  refine Fn.of (args := _) Try.func55 rfl Try.ntmps55 rfl ?_
  intro w0 g0
  refine CW.seq ?_
  refine CW.region ?_
  refine LW.opBA (ob_box rfl .agg (fun _ => .c (.n))) rfl rfl (fun b1 => ?_)
  refine LW.v (ov_assign rfl) ?_
  refine LW.nil ?_
  refine KW.thenN ?_
  refine CW.seq ?_
  refine CW.seq ?_
  refine CW.region ?_
  refine LW.v (ov_fieldAddr fo85_0 rfl) ?_
  refine LW.v (ov_loadR 1 ta3 rfl rfl rfl) ?_
  refine LW.v (ov_fieldAddr fo85_2 rfl) ?_
  refine LW.v (ov_loadR 1 ta3 rfl rfl rfl) ?_
  refine LW.v (ov_fieldAddr fo85_3 rfl) ?_
  refine LW.v (ov_loadR 1 ta3 rfl rfl rfl) ?_
  refine LW.v (ov_buildA ar175 ta3 zc175 rfl (.c rfl (.one rfl) rfl (.h (.n)) (.c rfl (.one rfl) rfl (.t (.h (.n))) (.c rfl (.one rfl) rfl (.t (.t (.h (.n)))) (.n))))) ?_
  refine LW.v (ov_move rfl) ?_
  refine LW.nil ?_
  refine KW.thenN ?_
  refine CW.block ?_
  refine CW.loopW (fun n env As => ∃ (k : Nat), k + n = 3 ∧ (∀ j, j < k → ∀ m, [f.craft, f.master, f.count][j]? = some m → 0 ≤ m ∧ m ≤ 255) ∧ env = [(1, P1 b1 0), (12, .agg #[.int .i64 f.craft, .int .i64 f.master, .int .i64 f.count]), (13, .int .i64 k)] ∧ As = [ex g0, row b1 85 [.int .i64 f.craft, .int .i64 f.chan, .int .i64 f.master, .int .i64 f.count, .int .i64 f.first, S f.data, .int .u32 f.word]]) 3 [0, 1] ⟨0, rfl, by intro j hj; omega, rfl, rfl⟩ ⟨rfl, rfl, rfl, trivial⟩ rfl rfl ?_
  rintro n _ _ ⟨k, hkn, hall, rfl, rfl⟩
  refine CW.seq ?_
  refine CW.region ?_
  refine LW.v (ov_lss rfl rfl) ?_
  refine LW.nil ?_
  refine KW.thenN ?_
  refine CW.seq ?_
  refine CW.condD (by rfl) (fun h => ?_) (fun h => ?_)
  · have hk : k < 3 := by omega
    obtain ⟨m, hm⟩ : ∃ m, [f.craft, f.master, f.count][k]? = some m := ⟨_, List.getElem?_eq_getElem (by simpa using hk)⟩
    have hv : (#[Value.int .i64 f.craft, .int .i64 f.master, .int .i64 f.count] : Array Value)[k]? = some (.int .i64 m) := by
      have : k = 0 ∨ k = 1 ∨ k = 2 := by omega
      rcases this with rfl | rfl | rfl <;> (simp at hm ⊢; exact hm)
    have hno : ¬ (0 ≤ m ∧ m ≤ 255) → decide f.ok = false := fun q => decide_eq_false (fun o => q (by
      unfold Tf.ok at o
      have : k = 0 ∨ k = 1 ∨ k = 2 := by omega
      rcases this with rfl | rfl | rfl <;> (simp at hm; omega)))
    refine CW.skip ?_
    refine KW.thenN ?_
    refine CW.seq ?_
    refine CW.block ?_
    refine CW.seq ?_
    refine CW.region ?_
    refine LW.v (ov_arrIdx (i := k) ar175 ta3 rfl rfl rfl hk hv) ?_
    refine LW.v (ov_assign rfl) ?_
    refine LW.nil ?_
    refine KW.thenN ?_
    refine CW.seq ?_
    refine CW.region ?_
    refine LW.v (ov_move rfl) ?_
    refine LW.v (ov_lss rfl rfl) ?_
    refine LW.v (ov_move rfl) ?_
    refine KW.splitD 18 rfl (fun h1 => ?_) (fun h1 => ?_)
    · refine LW.skip rfl rfl ?_
      refine LW.skip rfl rfl ?_
      first | refine LW.v (ov_pickT rfl rfl) ?_ | refine LW.v (ov_pickF rfl rfl) ?_ | refine LW.v (ov_pick rfl rfl rfl) ?_
      refine LW.nil ?_
      refine KW.thenN ?_
      refine CW.condT rfl rfl ?_
      refine CW.seq ?_
      refine CW.region ?_
      refine LW.v (ov_assign rfl) ?_
      refine LW.nil ?_
      refine KW.thenN ?_
      refine CW.ret ?_
      refine KW.blockR ?_
      refine KW.thenR ?_
      refine KW.thenR ?_
      refine KW.blockR ?_
      refine KW.thenR ?_
      exact KW.retF (.cons (.tmp rfl) (.nil)) [] rfl rfl (⟨by rw [hno (by omega)]; rfl, rfl⟩)
    · refine LW.v (ov_move rfl) ?_
      refine LW.v (ov_gtr rfl rfl) ?_
      first | refine LW.v (ov_pickT rfl rfl) ?_ | refine LW.v (ov_pickF rfl rfl) ?_ | refine LW.v (ov_pick rfl rfl rfl) ?_
      refine LW.nil ?_
      refine KW.thenN ?_
      refine CW.condD (by rfl) (fun h2 => ?_) (fun h2 => ?_)
      · refine CW.seq ?_
        refine CW.region ?_
        refine LW.v (ov_assign rfl) ?_
        refine LW.nil ?_
        refine KW.thenN ?_
        refine CW.ret ?_
        refine KW.blockR ?_
        refine KW.thenR ?_
        refine KW.thenR ?_
        refine KW.blockR ?_
        refine KW.thenR ?_
        exact KW.retF (.cons (.tmp rfl) (.nil)) [] rfl rfl (⟨by rw [hno (by omega)]; rfl, rfl⟩)
      · refine CW.skip ?_
        refine KW.blockN ?_
        refine KW.thenN ?_
        refine CW.region ?_
        first | refine LW.v (ov_add rfl rfl (by omega)) ?_ | refine LW.v (ov_addW rfl rfl) ?_
        refine LW.v (ov_move rfl) ?_
        refine LW.nil ?_
        refine KW.again (n - 1) [0, 1] (by omega) ⟨k + 1, by omega, fun j hj m' hm' => ?_, rfl, rfl⟩ ⟨rfl, rfl, rfl, trivial⟩ rfl rfl
        by_cases e : j = k
        · subst e; rw [hm] at hm'; simp only [Option.some.injEq] at hm'; omega
        · exact hall j (by omega) m' hm'
  · obtain rfl : k = 3 := by omega
    have a0 := hall 0 (by omega) _ rfl
    have a1 := hall 1 (by omega) _ rfl
    have a2 := hall 2 (by omega) _ rfl
    refine CW.exit ?_
    refine KW.thenX ?_
    refine KW.thenX ?_
    refine KW.hit ?_
    refine KW.thenN ?_
    refine CW.seq ?_
    refine CW.region ?_
    refine LW.v (ov_fieldAddr fo85_5 rfl) ?_
    refine LW.v (ov_loadR 1 ta9 rfl rfl rfl) ?_
    refine LW.v (ov_lenS un9 rfl) ?_
    refine LW.v (ov_assign rfl) ?_
    refine LW.nil ?_
    refine KW.thenN ?_
    refine CW.seq ?_
    refine CW.region ?_
    refine LW.v (ov_fieldAddr fo85_1 rfl) ?_
    refine LW.v (ov_loadR 1 ta3 rfl rfl rfl) ?_
    refine LW.v (ov_geq rfl rfl) ?_
    refine LW.v (ov_move rfl) ?_
    first | refine KW.splitD 29 rfl (fun h29 => ?_) (fun h29 => ?_) | refine KW.split 29 rfl (fun h29 => ?_) (fun h29 => ?_)
    · refine LW.v (ov_fieldAddr fo85_1 rfl) ?_
      refine LW.v (ov_loadR 1 ta3 rfl rfl rfl) ?_
      refine LW.v (ov_lss rfl rfl) ?_
      first | refine LW.v (ov_pickT rfl rfl) ?_ | refine LW.v (ov_pickF rfl rfl) ?_ | refine LW.v (ov_pick rfl rfl rfl) ?_
      refine LW.v (ov_move rfl) ?_
      first | refine KW.splitD 34 rfl (fun h34 => ?_) (fun h34 => ?_) | refine KW.split 34 rfl (fun h34 => ?_) (fun h34 => ?_)
      · refine LW.v (ov_move rfl) ?_
        refine LW.v (ov_geq rfl rfl) ?_
        first | refine LW.v (ov_pickT rfl rfl) ?_ | refine LW.v (ov_pickF rfl rfl) ?_ | refine LW.v (ov_pick rfl rfl rfl) ?_
        refine LW.v (ov_move rfl) ?_
        first | refine KW.splitD 38 rfl (fun h38 => ?_) (fun h38 => ?_) | refine KW.split 38 rfl (fun h38 => ?_) (fun h38 => ?_)
        · refine LW.v (ov_move rfl) ?_
          refine LW.v (ov_leq rfl rfl) ?_
          first | refine LW.v (ov_pickT rfl rfl) ?_ | refine LW.v (ov_pickF rfl rfl) ?_ | refine LW.v (ov_pick rfl rfl rfl) ?_
          refine LW.v (ov_move rfl) ?_
          first | refine KW.splitD 42 rfl (fun h42 => ?_) (fun h42 => ?_) | refine KW.split 42 rfl (fun h42 => ?_) (fun h42 => ?_)
          · refine LW.v (ov_fieldAddr fo85_4 rfl) ?_
            refine LW.v (ov_loadR 1 ta3 rfl rfl rfl) ?_
            refine LW.v (ov_geq rfl rfl) ?_
            refine LW.v (ov_move rfl) ?_
            first | refine KW.splitD 46 rfl (fun h46 => ?_) (fun h46 => ?_) | refine KW.split 46 rfl (fun h46 => ?_) (fun h46 => ?_)
            · refine LW.v (ov_fieldAddr fo85_4 rfl) ?_
              refine LW.v (ov_loadR 1 ta3 rfl rfl rfl) ?_
              refine LW.v (ov_move rfl) ?_
              refine LW.v (ov_lss rfl rfl) ?_
              first | refine LW.v (ov_pickT rfl rfl) ?_ | refine LW.v (ov_pickF rfl rfl) ?_ | refine LW.v (ov_pick rfl rfl rfl) ?_
              refine LW.v (ov_move rfl) ?_
              first | refine KW.splitD 52 rfl (fun h52 => ?_) (fun h52 => ?_) | refine KW.split 52 rfl (fun h52 => ?_) (fun h52 => ?_)
              · refine LW.skip rfl rfl ?_
                refine LW.skip rfl rfl ?_
                refine LW.skip rfl rfl ?_
                first | refine LW.v (ov_pickT rfl rfl) ?_ | refine LW.v (ov_pickF rfl rfl) ?_ | refine LW.v (ov_pick rfl rfl rfl) ?_
                refine LW.v (ov_move rfl) ?_
                refine LW.skip rfl rfl ?_
                refine LW.skip rfl rfl ?_
                refine LW.skip rfl rfl ?_
                first | refine LW.v (ov_pickT rfl rfl) ?_ | refine LW.v (ov_pickF rfl rfl) ?_ | refine LW.v (ov_pick rfl rfl rfl) ?_
                first | refine LW.v (ov_pickT rfl rfl) ?_ | refine LW.v (ov_pickF rfl rfl) ?_ | refine LW.v (ov_pick rfl rfl rfl) ?_
                refine LW.v (ov_assign rfl) ?_
                refine LW.nil ?_
                refine KW.thenN ?_
                refine CW.ret ?_
                exact KW.retF (.cons (.tmp rfl) .nil) [] rfl rfl ⟨congrArg Value.bool (by first | exact decide_eq_decide.2 (by unfold Tf.ok; omega) | exact (decide_eq_true (by unfold Tf.ok; omega)).symm | exact (decide_eq_false (by unfold Tf.ok; omega)).symm), rfl⟩
              · refine LW.v (ov_fieldAddr fo85_4 rfl) ?_
                refine LW.v (ov_loadR 1 ta3 rfl rfl rfl) ?_
                refine LW.v (ov_eql rfl rfl) ?_
                first | refine LW.v (ov_pickT rfl rfl) ?_ | refine LW.v (ov_pickF rfl rfl) ?_ | refine LW.v (ov_pick rfl rfl rfl) ?_
                refine LW.v (ov_move rfl) ?_
                first | refine KW.splitD 57 rfl (fun h57 => ?_) (fun h57 => ?_) | refine KW.split 57 rfl (fun h57 => ?_) (fun h57 => ?_)
                · refine LW.skip rfl rfl ?_
                  refine LW.skip rfl rfl ?_
                  refine LW.skip rfl rfl ?_
                  first | refine LW.v (ov_pickT rfl rfl) ?_ | refine LW.v (ov_pickF rfl rfl) ?_ | refine LW.v (ov_pick rfl rfl rfl) ?_
                  first | refine LW.v (ov_pickT rfl rfl) ?_ | refine LW.v (ov_pickF rfl rfl) ?_ | refine LW.v (ov_pick rfl rfl rfl) ?_
                  refine LW.v (ov_assign rfl) ?_
                  refine LW.nil ?_
                  refine KW.thenN ?_
                  refine CW.ret ?_
                  exact KW.retF (.cons (.tmp rfl) .nil) [] rfl rfl ⟨congrArg Value.bool (by first | exact decide_eq_decide.2 (by unfold Tf.ok; omega) | exact (decide_eq_true (by unfold Tf.ok; omega)).symm | exact (decide_eq_false (by unfold Tf.ok; omega)).symm), rfl⟩
                · refine LW.v (ov_fieldAddr fo85_4 rfl) ?_
                  refine LW.v (ov_loadR 1 ta3 rfl rfl rfl) ?_
                  refine LW.v (ov_eql rfl rfl) ?_
                  first | refine LW.v (ov_pickT rfl rfl) ?_ | refine LW.v (ov_pickF rfl rfl) ?_ | refine LW.v (ov_pick rfl rfl rfl) ?_
                  first | refine LW.v (ov_pickT rfl rfl) ?_ | refine LW.v (ov_pickF rfl rfl) ?_ | refine LW.v (ov_pick rfl rfl rfl) ?_
                  refine LW.v (ov_assign rfl) ?_
                  refine LW.nil ?_
                  refine KW.thenN ?_
                  refine CW.ret ?_
                  exact KW.retF (.cons (.tmp rfl) .nil) [] rfl rfl ⟨congrArg Value.bool (by first | exact decide_eq_decide.2 (by unfold Tf.ok; omega) | exact (decide_eq_true (by unfold Tf.ok; omega)).symm | exact (decide_eq_false (by unfold Tf.ok; omega)).symm), rfl⟩
            · refine LW.skip rfl rfl ?_
              refine LW.skip rfl rfl ?_
              refine LW.skip rfl rfl ?_
              refine LW.skip rfl rfl ?_
              first | refine LW.v (ov_pickT rfl rfl) ?_ | refine LW.v (ov_pickF rfl rfl) ?_ | refine LW.v (ov_pick rfl rfl rfl) ?_
              refine LW.v (ov_move rfl) ?_
              refine LW.v (ov_fieldAddr fo85_4 rfl) ?_
              refine LW.v (ov_loadR 1 ta3 rfl rfl rfl) ?_
              refine LW.v (ov_eql rfl rfl) ?_
              first | refine LW.v (ov_pickT rfl rfl) ?_ | refine LW.v (ov_pickF rfl rfl) ?_ | refine LW.v (ov_pick rfl rfl rfl) ?_
              refine LW.v (ov_move rfl) ?_
              first | refine KW.splitD 57 rfl (fun h57 => ?_) (fun h57 => ?_) | refine KW.split 57 rfl (fun h57 => ?_) (fun h57 => ?_)
              · refine LW.skip rfl rfl ?_
                refine LW.skip rfl rfl ?_
                refine LW.skip rfl rfl ?_
                first | refine LW.v (ov_pickT rfl rfl) ?_ | refine LW.v (ov_pickF rfl rfl) ?_ | refine LW.v (ov_pick rfl rfl rfl) ?_
                first | refine LW.v (ov_pickT rfl rfl) ?_ | refine LW.v (ov_pickF rfl rfl) ?_ | refine LW.v (ov_pick rfl rfl rfl) ?_
                refine LW.v (ov_assign rfl) ?_
                refine LW.nil ?_
                refine KW.thenN ?_
                refine CW.ret ?_
                exact KW.retF (.cons (.tmp rfl) .nil) [] rfl rfl ⟨congrArg Value.bool (by first | exact decide_eq_decide.2 (by unfold Tf.ok; omega) | exact (decide_eq_true (by unfold Tf.ok; omega)).symm | exact (decide_eq_false (by unfold Tf.ok; omega)).symm), rfl⟩
              · refine LW.v (ov_fieldAddr fo85_4 rfl) ?_
                refine LW.v (ov_loadR 1 ta3 rfl rfl rfl) ?_
                refine LW.v (ov_eql rfl rfl) ?_
                first | refine LW.v (ov_pickT rfl rfl) ?_ | refine LW.v (ov_pickF rfl rfl) ?_ | refine LW.v (ov_pick rfl rfl rfl) ?_
                first | refine LW.v (ov_pickT rfl rfl) ?_ | refine LW.v (ov_pickF rfl rfl) ?_ | refine LW.v (ov_pick rfl rfl rfl) ?_
                refine LW.v (ov_assign rfl) ?_
                refine LW.nil ?_
                refine KW.thenN ?_
                refine CW.ret ?_
                exact KW.retF (.cons (.tmp rfl) .nil) [] rfl rfl ⟨congrArg Value.bool (by first | exact decide_eq_decide.2 (by unfold Tf.ok; omega) | exact (decide_eq_true (by unfold Tf.ok; omega)).symm | exact (decide_eq_false (by unfold Tf.ok; omega)).symm), rfl⟩
          · refine LW.skip rfl rfl ?_
            refine LW.skip rfl rfl ?_
            refine LW.skip rfl rfl ?_
            refine LW.skip rfl rfl ?_
            refine LW.skip rfl rfl ?_
            refine LW.skip rfl rfl ?_
            refine LW.skip rfl rfl ?_
            refine LW.skip rfl rfl ?_
            refine LW.skip rfl rfl ?_
            refine LW.skip rfl rfl ?_
            refine LW.skip rfl rfl ?_
            refine LW.skip rfl rfl ?_
            refine LW.skip rfl rfl ?_
            refine LW.skip rfl rfl ?_
            refine LW.skip rfl rfl ?_
            refine LW.skip rfl rfl ?_
            refine LW.skip rfl rfl ?_
            refine LW.skip rfl rfl ?_
            refine LW.skip rfl rfl ?_
            first | refine LW.v (ov_pickT rfl rfl) ?_ | refine LW.v (ov_pickF rfl rfl) ?_ | refine LW.v (ov_pick rfl rfl rfl) ?_
            refine LW.v (ov_assign rfl) ?_
            refine LW.nil ?_
            refine KW.thenN ?_
            refine CW.ret ?_
            exact KW.retF (.cons (.tmp rfl) .nil) [] rfl rfl ⟨congrArg Value.bool (by first | exact decide_eq_decide.2 (by unfold Tf.ok; omega) | exact (decide_eq_true (by unfold Tf.ok; omega)).symm | exact (decide_eq_false (by unfold Tf.ok; omega)).symm), rfl⟩
        · refine LW.skip rfl rfl ?_
          refine LW.skip rfl rfl ?_
          first | refine LW.v (ov_pickT rfl rfl) ?_ | refine LW.v (ov_pickF rfl rfl) ?_ | refine LW.v (ov_pick rfl rfl rfl) ?_
          refine LW.v (ov_move rfl) ?_
          refine LW.skip rfl rfl ?_
          refine LW.skip rfl rfl ?_
          refine LW.skip rfl rfl ?_
          refine LW.skip rfl rfl ?_
          refine LW.skip rfl rfl ?_
          refine LW.skip rfl rfl ?_
          refine LW.skip rfl rfl ?_
          refine LW.skip rfl rfl ?_
          refine LW.skip rfl rfl ?_
          refine LW.skip rfl rfl ?_
          refine LW.skip rfl rfl ?_
          refine LW.skip rfl rfl ?_
          refine LW.skip rfl rfl ?_
          refine LW.skip rfl rfl ?_
          refine LW.skip rfl rfl ?_
          refine LW.skip rfl rfl ?_
          refine LW.skip rfl rfl ?_
          refine LW.skip rfl rfl ?_
          refine LW.skip rfl rfl ?_
          first | refine LW.v (ov_pickT rfl rfl) ?_ | refine LW.v (ov_pickF rfl rfl) ?_ | refine LW.v (ov_pick rfl rfl rfl) ?_
          refine LW.v (ov_assign rfl) ?_
          refine LW.nil ?_
          refine KW.thenN ?_
          refine CW.ret ?_
          exact KW.retF (.cons (.tmp rfl) .nil) [] rfl rfl ⟨congrArg Value.bool (by first | exact decide_eq_decide.2 (by unfold Tf.ok; omega) | exact (decide_eq_true (by unfold Tf.ok; omega)).symm | exact (decide_eq_false (by unfold Tf.ok; omega)).symm), rfl⟩
      · refine LW.skip rfl rfl ?_
        refine LW.skip rfl rfl ?_
        first | refine LW.v (ov_pickT rfl rfl) ?_ | refine LW.v (ov_pickF rfl rfl) ?_ | refine LW.v (ov_pick rfl rfl rfl) ?_
        refine LW.v (ov_move rfl) ?_
        refine LW.skip rfl rfl ?_
        refine LW.skip rfl rfl ?_
        first | refine LW.v (ov_pickT rfl rfl) ?_ | refine LW.v (ov_pickF rfl rfl) ?_ | refine LW.v (ov_pick rfl rfl rfl) ?_
        refine LW.v (ov_move rfl) ?_
        refine LW.skip rfl rfl ?_
        refine LW.skip rfl rfl ?_
        refine LW.skip rfl rfl ?_
        refine LW.skip rfl rfl ?_
        refine LW.skip rfl rfl ?_
        refine LW.skip rfl rfl ?_
        refine LW.skip rfl rfl ?_
        refine LW.skip rfl rfl ?_
        refine LW.skip rfl rfl ?_
        refine LW.skip rfl rfl ?_
        refine LW.skip rfl rfl ?_
        refine LW.skip rfl rfl ?_
        refine LW.skip rfl rfl ?_
        refine LW.skip rfl rfl ?_
        refine LW.skip rfl rfl ?_
        refine LW.skip rfl rfl ?_
        refine LW.skip rfl rfl ?_
        refine LW.skip rfl rfl ?_
        refine LW.skip rfl rfl ?_
        first | refine LW.v (ov_pickT rfl rfl) ?_ | refine LW.v (ov_pickF rfl rfl) ?_ | refine LW.v (ov_pick rfl rfl rfl) ?_
        refine LW.v (ov_assign rfl) ?_
        refine LW.nil ?_
        refine KW.thenN ?_
        refine CW.ret ?_
        exact KW.retF (.cons (.tmp rfl) .nil) [] rfl rfl ⟨congrArg Value.bool (by first | exact decide_eq_decide.2 (by unfold Tf.ok; omega) | exact (decide_eq_true (by unfold Tf.ok; omega)).symm | exact (decide_eq_false (by unfold Tf.ok; omega)).symm), rfl⟩
    · refine LW.skip rfl rfl ?_
      refine LW.skip rfl rfl ?_
      refine LW.skip rfl rfl ?_
      first | refine LW.v (ov_pickT rfl rfl) ?_ | refine LW.v (ov_pickF rfl rfl) ?_ | refine LW.v (ov_pick rfl rfl rfl) ?_
      refine LW.v (ov_move rfl) ?_
      refine LW.skip rfl rfl ?_
      refine LW.skip rfl rfl ?_
      first | refine LW.v (ov_pickT rfl rfl) ?_ | refine LW.v (ov_pickF rfl rfl) ?_ | refine LW.v (ov_pick rfl rfl rfl) ?_
      refine LW.v (ov_move rfl) ?_
      refine LW.skip rfl rfl ?_
      refine LW.skip rfl rfl ?_
      first | refine LW.v (ov_pickT rfl rfl) ?_ | refine LW.v (ov_pickF rfl rfl) ?_ | refine LW.v (ov_pick rfl rfl rfl) ?_
      refine LW.v (ov_move rfl) ?_
      refine LW.skip rfl rfl ?_
      refine LW.skip rfl rfl ?_
      refine LW.skip rfl rfl ?_
      refine LW.skip rfl rfl ?_
      refine LW.skip rfl rfl ?_
      refine LW.skip rfl rfl ?_
      refine LW.skip rfl rfl ?_
      refine LW.skip rfl rfl ?_
      refine LW.skip rfl rfl ?_
      refine LW.skip rfl rfl ?_
      refine LW.skip rfl rfl ?_
      refine LW.skip rfl rfl ?_
      refine LW.skip rfl rfl ?_
      refine LW.skip rfl rfl ?_
      refine LW.skip rfl rfl ?_
      refine LW.skip rfl rfl ?_
      refine LW.skip rfl rfl ?_
      refine LW.skip rfl rfl ?_
      refine LW.skip rfl rfl ?_
      first | refine LW.v (ov_pickT rfl rfl) ?_ | refine LW.v (ov_pickF rfl rfl) ?_ | refine LW.v (ov_pick rfl rfl rfl) ?_
      refine LW.v (ov_assign rfl) ?_
      refine LW.nil ?_
      refine KW.thenN ?_
      refine CW.ret ?_
      exact KW.retF (.cons (.tmp rfl) .nil) [] rfl rfl ⟨congrArg Value.bool (by first | exact decide_eq_decide.2 (by unfold Tf.ok; omega) | exact (decide_eq_true (by unfold Tf.ok; omega)).symm | exact (decide_eq_false (by unfold Tf.ok; omega)).symm), rfl⟩
end Sx
end Go.Proofs.Ytdgphamhpjnmpaa

/- tmframe: Put. -/
namespace Go.Proofs.Ytdgphamhpjnmpaa
namespace Sx

theorem beB2 (n : Int) : beB n 2 = wb n := by
  show [b8 (n / 256 ^ 1), b8 (n / 256 ^ 0)] = _
  rw [Int.pow_one, Int.pow_zero, Int.ediv_one]; rfl
theorem bytesA_app2 (e : TypeId) (v : Value) (l : List UInt8) (a b : Int) : ownS e 1 v (l.length + 2) (l.map bv ++ [.int .u8 (a % 256), .int .u8 (b % 256)]) = bytesA e v (l ++ [b8 a, b8 b]) := by
  rw [bytesA_app, bv_b8, bv_b8]; rfl
def preF (f : Tf) : List UInt8 := beB (f.craft * 64 + f.chan * 8) 2 ++ [b8 f.master, b8 f.count] ++ beB f.first 2
def bodyF (f : Tf) : List UInt8 := preF f ++ f.data ++ beB f.word 4
def encF (f : Tf) : List UInt8 := bodyF f ++ beB (sum16 (bodyF f)).toNat 2
theorem preF_len (f : Tf) : (preF f).length = 6 := rfl
theorem bodyF_len (f : Tf) : (bodyF f).length = 10 + f.data.length := by
  rw [bodyF, List.length_append, List.length_append, preF_len, beB_len]; omega
theorem encF_len (f : Tf) : (encF f).length = 12 + f.data.length := by
  rw [encF, List.length_append, bodyF_len, beB_len]; omega
theorem TPut_ok (f : Tf) (hw : 0 ≤ f.word ∧ f.word < 4294967296) : Fn Try.prog 44 #[tfv f] [] (Ret fun v Q => v = (if f.ok then .tuple #[S (encF f), .int .i64 0] else .tuple #[S [], .int .i64 2]) ∧ Q = []) := by
  refine Fn.of (args := _) Try.func44 rfl Try.ntmps44 rfl ?_
  intro w0 g0
  refine CW.seq ?_
  refine CW.region ?_
  refine LW.opBA (ob_box rfl .agg (fun _ => .c (.n))) rfl rfl (fun b1 => ?_)
  refine LW.v (ov_assign rfl) ?_
  refine LW.v (ov_assign rfl) ?_
  refine LW.nil ?_
  refine KW.thenN ?_
  refine CW.seq ?_
  refine CW.seq ?_
  refine CW.region ?_
  refine LW.v (ov_loadAR 1 ta85 rfl rfl (.h (.h (.h (.h (.h (.h (.h (.n))))))))) ?_
  refine LW.call [] (oc_fn cf55 rfl) rfl rfl rfl rfl (valid_ok f) ?_
  rintro _ _ ⟨rfl, rfl⟩
  simp only [putBack, List.append_nil]
  refine LW.v (ov_not rfl) ?_
  refine LW.nil ?_
  refine KW.thenN ?_
  by_cases h : f.ok
  · have ho := h
    obtain ⟨h1, h2, h3, h4, h5, h6, h7, h8, h9, h10, h11⟩ := h
    have hf : 0 ≤ f.first ∧ f.first < 65536 := by omega
    refine CW.condF rfl (by simp [ho]) ?_
    have e20 : bits2 .or .i64 (f.craft * 64) (f.chan * 8) = f.craft * 64 + f.chan * 8 := by
      have := bits_or (a := f.craft.toNat) (b := (f.chan * 8).toNat) (k := 6) (by omega) (by omega)
      rw [show ((f.craft.toNat * 2 ^ 6 : Nat) : Int) = f.craft * 64 from by omega, Int.toNat_of_nonneg (by omega)] at this
      rw [this]; omega
    have e21 : (f.craft * 64 + f.chan * 8) % 18446744073709551616 = f.craft * 64 + f.chan * 8 := by omega
    have e35 : f.first % 18446744073709551616 = f.first := by omega
    have e44 : f.word % 18446744073709551616 = f.word := by omega
    have hl2 : (beB (f.craft * 64 + f.chan * 8) 2).length = 2 := rfl
    refine CW.skip ?_
    refine KW.thenN ?_
    refine CW.seq ?_
    refine CW.region ?_
    refine LW.v (ov_fieldAddr fo85_5 rfl) ?_
    refine LW.v (ov_loadR 1 ta9 rfl rfl rfl) ?_
    refine LW.v (ov_lenS un9 rfl) ?_
    first | refine LW.v (ov_add rfl rfl (by omega)) ?_ | refine LW.v (ov_addW rfl rfl) ?_
    refine LW.opX (ox_make0 so107 zc5 rfl rfl rfl (by omega) (by omega) (by omega) (fun _ => .c (.c (.n)))) rfl rfl (fun a12 c12 => ?_)
    refine LW.v (ov_assign rfl) ?_
    refine LW.nil ?_
    refine KW.thenN ?_
    refine CW.seq ?_
    refine CW.region ?_
    refine LW.v (ov_move rfl) ?_
    refine LW.v (ov_fieldAddr fo85_0 rfl) ?_
    refine LW.v (ov_loadR 1 ta3 rfl rfl rfl) ?_
    first | refine LW.v (ov_shlC (c := 64) rfl rfl (by decide) (by decide) (by omega)) ?_ | refine LW.v (ov_shl rfl rfl (by omega)) ?_
    refine LW.v (ov_fieldAddr fo85_1 rfl) ?_
    refine LW.v (ov_loadR 1 ta3 rfl rfl rfl) ?_
    first | refine LW.v (ov_shlC (c := 8) rfl rfl (by decide) (by decide) (by omega)) ?_ | refine LW.v (ov_shl rfl rfl (by omega)) ?_
    refine LW.v (ov_bits (.inr (.inl rfl)) rfl rfl e20) ?_
    refine LW.v (OpV.eq (ov_toU un123 us3 rfl wrap_u64) (congrArg (Value.int .u64) e21)) ?_
    refine LW.call [2] (oc_fn cf83 rfl) rfl rfl rfl rfl (appended_ok (l := []) (many := 2) (by omega) (by simp)) ?_
    rintro _ _ rfl
    simp only [putBack, List.set_cons_succ, List.set_cons_zero, List.nil_append, List.append_nil]
    refine LW.v (ov_assign rfl) ?_
    refine LW.nil ?_
    refine KW.thenN ?_
    refine CW.seq ?_
    refine CW.region ?_
    refine LW.v (ov_move rfl) ?_
    refine LW.v (ov_fieldAddr fo85_2 rfl) ?_
    refine LW.v (ov_loadR 1 ta3 rfl rfl rfl) ?_
    refine LW.v (ov_toU un5 us3 rfl wrap_u8) ?_
    refine LW.v (ov_fieldAddr fo85_3 rfl) ?_
    refine LW.v (ov_loadR 1 ta3 rfl rfl rfl) ?_
    refine LW.v (ov_toU un5 us3 rfl wrap_u8) ?_
    refine LW.opBA (ob_bs1 so107 zc5 (xs := [_, _]) rfl rfl rfl (by decide) rfl (fun _ => .c (.c (.c (.n))))) rfl rfl (fun b30 => ?_)
    refine LW.opX (ox_appR 3 so107 zo5 rfl so107 rfl rfl rfl rfl rfl (by omega) (by omega) (by omega) (fun _ => .t (.t (.h)))) rfl rfl (fun a31 c31 => ?_)
    refine LW.v (ov_assign rfl) ?_
    refine LW.nil ?_
    refine KW.thenN ?_
    rw [bytesA_app2]
    have hl2' : (beB f.first 2).length = 2 := rfl
    have hp : (beB (f.craft * 64 + f.chan * 8) 2 ++ [b8 f.master, b8 f.count] ++ beB f.first 2) = preF f := rfl
    refine CW.seq ?_
    refine CW.region ?_
    refine LW.v (ov_move rfl) ?_
    refine LW.v (ov_fieldAddr fo85_4 rfl) ?_
    refine LW.v (ov_loadR 1 ta3 rfl rfl rfl) ?_
    refine LW.v (OpV.eq (ov_toU un123 us3 rfl wrap_u64) (congrArg (Value.int .u64) e35)) ?_
    refine LW.call [2] (oc_fn cf83 rfl) rfl rfl rfl rfl (appended_ok (l := beB (f.craft * 64 + f.chan * 8) 2 ++ [b8 f.master, b8 f.count]) (many := 2) (by omega) (by simp [beB])) ?_
    rintro _ _ rfl
    simp only [putBack, List.set_cons_succ, List.set_cons_zero, List.append_nil]
    refine LW.v (ov_assign rfl) ?_
    refine LW.nil ?_
    refine KW.thenN ?_
    refine CW.seq ?_
    refine CW.region ?_
    refine LW.v (ov_move rfl) ?_
    refine LW.v (ov_fieldAddr fo85_5 rfl) ?_
    refine LW.v (ov_loadR 1 ta9 rfl rfl rfl) ?_
    refine LW.opX (ox_appSS so107 zo5 un9 rfl rfl (by first | omega | (simp; omega)) (fun _ => .t (.t (.h)))) rfl rfl (fun a40 c40 => ?_)
    refine LW.v (ov_assign rfl) ?_
    refine LW.nil ?_
    refine KW.thenN ?_
    rw [hp, ← bytesA_app]
    refine CW.seq ?_
    refine CW.region ?_
    refine LW.v (ov_move rfl) ?_
    refine LW.v (ov_fieldAddr fo85_6 rfl) ?_
    refine LW.v (ov_loadR 1 ta31 rfl rfl rfl) ?_
    refine LW.v (OpV.eq (ov_toU un123 us31 rfl wrap_u64) (congrArg (Value.int .u64) e44)) ?_
    refine LW.call [2] (oc_fn cf83 rfl) rfl rfl rfl rfl (appended_ok (l := preF f ++ f.data) (many := 4) (by omega) (by simp [preF, beB]; omega)) ?_
    rintro _ _ rfl
    simp only [putBack, List.set_cons_succ, List.set_cons_zero, List.append_nil]
    refine LW.v (ov_assign rfl) ?_
    refine LW.nil ?_
    refine KW.thenN ?_
    have hb : (preF f ++ f.data ++ beB f.word 4) = bodyF f := rfl
    rw [hb]
    have hbl := bodyF_len f
    have e50 : ((sum16 (bodyF f)).toNat : Int) % 18446744073709551616 = ((sum16 (bodyF f)).toNat : Int) := by
      have := (sum16 (bodyF f)).isLt; omega
    refine CW.seq ?_
    refine CW.region ?_
    refine LW.v (ov_move rfl) ?_
    refine LW.v (ov_move rfl) ?_
    refine LW.v (ov_b2s 2 so107 un9 un5 rfl rfl) ?_
    refine LW.call [] (oc_fn cf54 rfl) rfl rfl rfl rfl (Sum16_ok (l := bodyF f) (by omega)) ?_
    rintro _ _ ⟨rfl, rfl⟩
    simp only [putBack, List.append_nil]
    refine LW.v (OpV.eq (ov_toU un123 us125 rfl wrap_u64) (congrArg (Value.int .u64) e50)) ?_
    refine LW.call [2] (oc_fn cf83 rfl) rfl rfl rfl rfl (appended_ok (l := bodyF f) (many := 2) (by omega) (by omega)) ?_
    rintro _ _ rfl
    simp only [putBack, List.set_cons_succ, List.set_cons_zero, List.append_nil]
    refine LW.v (ov_assign rfl) ?_
    refine LW.nil ?_
    refine KW.thenN ?_
    refine CW.seq ?_
    refine CW.region ?_
    refine LW.v (ov_move rfl) ?_
    refine LW.v (ov_b2s 2 so107 un9 un5 rfl rfl) ?_
    refine LW.v (ov_assign rfl) ?_
    refine LW.v (ov_assign rfl) ?_
    refine LW.nil ?_
    refine KW.thenN ?_
    refine CW.ret ?_
    exact KW.retF (.cons (.tmp rfl) (.cons (.tmp rfl) (.nil))) [] rfl rfl (⟨by rw [if_pos ho]; rfl, rfl⟩)
  · refine CW.condT rfl (by simp [h]) ?_
    refine CW.seq ?_
    refine CW.region ?_
    refine LW.v (ov_assign rfl) ?_
    refine LW.v (ov_assign rfl) ?_
    refine LW.nil ?_
    refine KW.thenN ?_
    refine CW.ret ?_
    refine KW.thenR ?_
    exact KW.retF (.cons (.tmp rfl) (.cons (.tmp rfl) (.nil))) [] rfl rfl (⟨by rw [if_neg h]; rfl, rfl⟩)
theorem RValid_ok (f : Tf) : Fn Try.prog 87 #[tfv f] [] (Ret fun v Q => v = .bool (decide f.ok) ∧ Q = []) := by
  refine Fn.of (args := _) Try.func87 rfl Try.ntmps87 rfl ?_
  intro w0 g0
  refine CW.seq ?_
  refine CW.region ?_
  refine LW.opBA (ob_box rfl .agg (fun _ => .c (.n))) rfl rfl (fun b1 => ?_)
  refine LW.v (ov_assign rfl) ?_
  refine LW.nil ?_
  refine KW.thenN ?_
  refine CW.seq ?_
  refine CW.seq ?_
  refine CW.region ?_
  refine LW.v (ov_fieldAddr fo85_0 rfl) ?_
  refine LW.v (ov_loadR 1 ta3 rfl rfl rfl) ?_
  refine LW.v (ov_lss rfl rfl) ?_
  refine LW.v (ov_move rfl) ?_
  by_cases hn : 0 ≤ f.craft ∧ f.craft ≤ 255 ∧ 0 ≤ f.master ∧ f.master ≤ 255 ∧ 0 ≤ f.count ∧ f.count ≤ 255 ∧ 0 ≤ f.chan ∧ f.chan ≤ 7 ∧ 32 ≤ f.data.length ∧ f.data.length ≤ 200
  · obtain ⟨h1, h2, h3, h4, h5, h6, h7, h8, h9, h10⟩ := hn
    first | refine KW.splitD 6 rfl (fun h6 => ?_) (fun h6 => ?_) | refine KW.split 6 rfl (fun h6 => ?_) (fun h6 => ?_)
    · refine LW.skip rfl rfl ?_
      refine LW.skip rfl rfl ?_
      refine LW.skip rfl rfl ?_
      first | refine LW.v (ov_pickT rfl rfl) ?_ | refine LW.v (ov_pickF rfl rfl) ?_ | refine LW.v (ov_pick rfl rfl rfl) ?_
      refine LW.v (ov_move rfl) ?_
      refine LW.skip rfl rfl ?_
      refine LW.skip rfl rfl ?_
      refine LW.skip rfl rfl ?_
      first | refine LW.v (ov_pickT rfl rfl) ?_ | refine LW.v (ov_pickF rfl rfl) ?_ | refine LW.v (ov_pick rfl rfl rfl) ?_
      refine LW.v (ov_move rfl) ?_
      refine LW.skip rfl rfl ?_
      refine LW.skip rfl rfl ?_
      refine LW.skip rfl rfl ?_
      first | refine LW.v (ov_pickT rfl rfl) ?_ | refine LW.v (ov_pickF rfl rfl) ?_ | refine LW.v (ov_pick rfl rfl rfl) ?_
      refine LW.v (ov_move rfl) ?_
      refine LW.skip rfl rfl ?_
      refine LW.skip rfl rfl ?_
      refine LW.skip rfl rfl ?_
      first | refine LW.v (ov_pickT rfl rfl) ?_ | refine LW.v (ov_pickF rfl rfl) ?_ | refine LW.v (ov_pick rfl rfl rfl) ?_
      refine LW.v (ov_move rfl) ?_
      refine LW.skip rfl rfl ?_
      refine LW.skip rfl rfl ?_
      refine LW.skip rfl rfl ?_
      first | refine LW.v (ov_pickT rfl rfl) ?_ | refine LW.v (ov_pickF rfl rfl) ?_ | refine LW.v (ov_pick rfl rfl rfl) ?_
      refine LW.v (ov_move rfl) ?_
      refine LW.skip rfl rfl ?_
      refine LW.skip rfl rfl ?_
      refine LW.skip rfl rfl ?_
      first | refine LW.v (ov_pickT rfl rfl) ?_ | refine LW.v (ov_pickF rfl rfl) ?_ | refine LW.v (ov_pick rfl rfl rfl) ?_
      refine LW.v (ov_move rfl) ?_
      refine LW.skip rfl rfl ?_
      refine LW.skip rfl rfl ?_
      refine LW.skip rfl rfl ?_
      first | refine LW.v (ov_pickT rfl rfl) ?_ | refine LW.v (ov_pickF rfl rfl) ?_ | refine LW.v (ov_pick rfl rfl rfl) ?_
      refine LW.v (ov_move rfl) ?_
      refine LW.skip rfl rfl ?_
      refine LW.skip rfl rfl ?_
      refine LW.skip rfl rfl ?_
      refine LW.skip rfl rfl ?_
      first | refine LW.v (ov_pickT rfl rfl) ?_ | refine LW.v (ov_pickF rfl rfl) ?_ | refine LW.v (ov_pick rfl rfl rfl) ?_
      refine LW.v (ov_move rfl) ?_
      refine LW.skip rfl rfl ?_
      refine LW.skip rfl rfl ?_
      refine LW.skip rfl rfl ?_
      refine LW.skip rfl rfl ?_
      first | refine LW.v (ov_pickT rfl rfl) ?_ | refine LW.v (ov_pickF rfl rfl) ?_ | refine LW.v (ov_pick rfl rfl rfl) ?_
      refine LW.nil ?_
      refine KW.thenN ?_
      refine CW.condT rfl rfl ?_
      refine CW.seq ?_
      refine CW.region ?_
      refine LW.v (ov_assign rfl) ?_
      refine LW.nil ?_
      refine KW.thenN ?_
      refine CW.ret ?_
      refine KW.thenR ?_
      exact KW.retF (.cons (.tmp rfl) .nil) [] rfl rfl ⟨congrArg Value.bool (by first | exact decide_eq_decide.2 (by unfold Tf.ok; omega) | exact (decide_eq_true (by unfold Tf.ok; omega)).symm | exact (decide_eq_false (by unfold Tf.ok; omega)).symm), rfl⟩
    · refine LW.v (ov_fieldAddr fo85_0 rfl) ?_
      refine LW.v (ov_loadR 1 ta3 rfl rfl rfl) ?_
      refine LW.v (OpV.eq (ov_gtr rfl rfl) (congrArg Value.bool (decide_eq_false (by first | omega | assumption)))) ?_
      first | refine LW.v (ov_pickT rfl rfl) ?_ | refine LW.v (ov_pickF rfl rfl) ?_ | refine LW.v (ov_pick rfl rfl rfl) ?_
      refine LW.v (ov_move rfl) ?_
      refine LW.v (ov_fieldAddr fo85_2 rfl) ?_
      refine LW.v (ov_loadR 1 ta3 rfl rfl rfl) ?_
      refine LW.v (OpV.eq (ov_lss rfl rfl) (congrArg Value.bool (decide_eq_false (by first | omega | assumption)))) ?_
      first | refine LW.v (ov_pickT rfl rfl) ?_ | refine LW.v (ov_pickF rfl rfl) ?_ | refine LW.v (ov_pick rfl rfl rfl) ?_
      refine LW.v (ov_move rfl) ?_
      refine LW.v (ov_fieldAddr fo85_2 rfl) ?_
      refine LW.v (ov_loadR 1 ta3 rfl rfl rfl) ?_
      refine LW.v (OpV.eq (ov_gtr rfl rfl) (congrArg Value.bool (decide_eq_false (by first | omega | assumption)))) ?_
      first | refine LW.v (ov_pickT rfl rfl) ?_ | refine LW.v (ov_pickF rfl rfl) ?_ | refine LW.v (ov_pick rfl rfl rfl) ?_
      refine LW.v (ov_move rfl) ?_
      refine LW.v (ov_fieldAddr fo85_3 rfl) ?_
      refine LW.v (ov_loadR 1 ta3 rfl rfl rfl) ?_
      refine LW.v (OpV.eq (ov_lss rfl rfl) (congrArg Value.bool (decide_eq_false (by first | omega | assumption)))) ?_
      first | refine LW.v (ov_pickT rfl rfl) ?_ | refine LW.v (ov_pickF rfl rfl) ?_ | refine LW.v (ov_pick rfl rfl rfl) ?_
      refine LW.v (ov_move rfl) ?_
      refine LW.v (ov_fieldAddr fo85_3 rfl) ?_
      refine LW.v (ov_loadR 1 ta3 rfl rfl rfl) ?_
      refine LW.v (OpV.eq (ov_gtr rfl rfl) (congrArg Value.bool (decide_eq_false (by first | omega | assumption)))) ?_
      first | refine LW.v (ov_pickT rfl rfl) ?_ | refine LW.v (ov_pickF rfl rfl) ?_ | refine LW.v (ov_pick rfl rfl rfl) ?_
      refine LW.v (ov_move rfl) ?_
      refine LW.v (ov_fieldAddr fo85_1 rfl) ?_
      refine LW.v (ov_loadR 1 ta3 rfl rfl rfl) ?_
      refine LW.v (OpV.eq (ov_lss rfl rfl) (congrArg Value.bool (decide_eq_false (by first | omega | assumption)))) ?_
      first | refine LW.v (ov_pickT rfl rfl) ?_ | refine LW.v (ov_pickF rfl rfl) ?_ | refine LW.v (ov_pick rfl rfl rfl) ?_
      refine LW.v (ov_move rfl) ?_
      refine LW.v (ov_fieldAddr fo85_1 rfl) ?_
      refine LW.v (ov_loadR 1 ta3 rfl rfl rfl) ?_
      refine LW.v (OpV.eq (ov_gtr rfl rfl) (congrArg Value.bool (decide_eq_false (by first | omega | assumption)))) ?_
      first | refine LW.v (ov_pickT rfl rfl) ?_ | refine LW.v (ov_pickF rfl rfl) ?_ | refine LW.v (ov_pick rfl rfl rfl) ?_
      refine LW.v (ov_move rfl) ?_
      refine LW.v (ov_fieldAddr fo85_5 rfl) ?_
      refine LW.v (ov_loadR 1 ta9 rfl rfl rfl) ?_
      refine LW.v (ov_lenS un9 rfl) ?_
      refine LW.v (OpV.eq (ov_lss rfl rfl) (congrArg Value.bool (decide_eq_false (by first | omega | assumption)))) ?_
      first | refine LW.v (ov_pickT rfl rfl) ?_ | refine LW.v (ov_pickF rfl rfl) ?_ | refine LW.v (ov_pick rfl rfl rfl) ?_
      refine LW.v (ov_move rfl) ?_
      refine LW.v (ov_fieldAddr fo85_5 rfl) ?_
      refine LW.v (ov_loadR 1 ta9 rfl rfl rfl) ?_
      refine LW.v (ov_lenS un9 rfl) ?_
      refine LW.v (OpV.eq (ov_gtr rfl rfl) (congrArg Value.bool (decide_eq_false (by first | omega | assumption)))) ?_
      first | refine LW.v (ov_pickT rfl rfl) ?_ | refine LW.v (ov_pickF rfl rfl) ?_ | refine LW.v (ov_pick rfl rfl rfl) ?_
      refine LW.nil ?_
      refine KW.thenN ?_
      refine CW.condF rfl rfl ?_
      refine CW.skip ?_
      refine KW.thenN ?_
      refine CW.seq ?_
      refine CW.region ?_
      refine LW.v (ov_fieldAddr fo85_4 rfl) ?_
      refine LW.v (ov_loadR 1 ta3 rfl rfl rfl) ?_
      refine LW.v (ov_geq rfl rfl) ?_
      refine LW.v (ov_move rfl) ?_
      first | refine KW.splitD 56 rfl (fun h56 => ?_) (fun h56 => ?_) | refine KW.split 56 rfl (fun h56 => ?_) (fun h56 => ?_)
      · refine LW.v (ov_fieldAddr fo85_4 rfl) ?_
        refine LW.v (ov_loadR 1 ta3 rfl rfl rfl) ?_
        refine LW.v (ov_fieldAddr fo85_5 rfl) ?_
        refine LW.v (ov_loadR 1 ta9 rfl rfl rfl) ?_
        refine LW.v (ov_lenS un9 rfl) ?_
        refine LW.v (ov_lss rfl rfl) ?_
        first | refine LW.v (ov_pickT rfl rfl) ?_ | refine LW.v (ov_pickF rfl rfl) ?_ | refine LW.v (ov_pick rfl rfl rfl) ?_
        refine LW.v (ov_move rfl) ?_
        first | refine KW.splitD 64 rfl (fun h64 => ?_) (fun h64 => ?_) | refine KW.split 64 rfl (fun h64 => ?_) (fun h64 => ?_)
        · refine LW.skip rfl rfl ?_
          refine LW.skip rfl rfl ?_
          refine LW.skip rfl rfl ?_
          first | refine LW.v (ov_pickT rfl rfl) ?_ | refine LW.v (ov_pickF rfl rfl) ?_ | refine LW.v (ov_pick rfl rfl rfl) ?_
          refine LW.v (ov_move rfl) ?_
          refine LW.skip rfl rfl ?_
          refine LW.skip rfl rfl ?_
          refine LW.skip rfl rfl ?_
          first | refine LW.v (ov_pickT rfl rfl) ?_ | refine LW.v (ov_pickF rfl rfl) ?_ | refine LW.v (ov_pick rfl rfl rfl) ?_
          refine LW.v (ov_assign rfl) ?_
          refine LW.nil ?_
          refine KW.thenN ?_
          refine CW.ret ?_
          exact KW.retF (.cons (.tmp rfl) .nil) [] rfl rfl ⟨congrArg Value.bool (by first | exact decide_eq_decide.2 (by unfold Tf.ok; omega) | exact (decide_eq_true (by unfold Tf.ok; omega)).symm | exact (decide_eq_false (by unfold Tf.ok; omega)).symm), rfl⟩
        · refine LW.v (ov_fieldAddr fo85_4 rfl) ?_
          refine LW.v (ov_loadR 1 ta3 rfl rfl rfl) ?_
          refine LW.v (ov_eql rfl rfl) ?_
          first | refine LW.v (ov_pickT rfl rfl) ?_ | refine LW.v (ov_pickF rfl rfl) ?_ | refine LW.v (ov_pick rfl rfl rfl) ?_
          refine LW.v (ov_move rfl) ?_
          first | refine KW.splitD 69 rfl (fun h69 => ?_) (fun h69 => ?_) | refine KW.split 69 rfl (fun h69 => ?_) (fun h69 => ?_)
          · refine LW.skip rfl rfl ?_
            refine LW.skip rfl rfl ?_
            refine LW.skip rfl rfl ?_
            first | refine LW.v (ov_pickT rfl rfl) ?_ | refine LW.v (ov_pickF rfl rfl) ?_ | refine LW.v (ov_pick rfl rfl rfl) ?_
            refine LW.v (ov_assign rfl) ?_
            refine LW.nil ?_
            refine KW.thenN ?_
            refine CW.ret ?_
            exact KW.retF (.cons (.tmp rfl) .nil) [] rfl rfl ⟨congrArg Value.bool (by first | exact decide_eq_decide.2 (by unfold Tf.ok; omega) | exact (decide_eq_true (by unfold Tf.ok; omega)).symm | exact (decide_eq_false (by unfold Tf.ok; omega)).symm), rfl⟩
          · refine LW.v (ov_fieldAddr fo85_4 rfl) ?_
            refine LW.v (ov_loadR 1 ta3 rfl rfl rfl) ?_
            refine LW.v (ov_eql rfl rfl) ?_
            first | refine LW.v (ov_pickT rfl rfl) ?_ | refine LW.v (ov_pickF rfl rfl) ?_ | refine LW.v (ov_pick rfl rfl rfl) ?_
            refine LW.v (ov_assign rfl) ?_
            refine LW.nil ?_
            refine KW.thenN ?_
            refine CW.ret ?_
            exact KW.retF (.cons (.tmp rfl) .nil) [] rfl rfl ⟨congrArg Value.bool (by first | exact decide_eq_decide.2 (by unfold Tf.ok; omega) | exact (decide_eq_true (by unfold Tf.ok; omega)).symm | exact (decide_eq_false (by unfold Tf.ok; omega)).symm), rfl⟩
      · refine LW.skip rfl rfl ?_
        refine LW.skip rfl rfl ?_
        refine LW.skip rfl rfl ?_
        refine LW.skip rfl rfl ?_
        refine LW.skip rfl rfl ?_
        refine LW.skip rfl rfl ?_
        first | refine LW.v (ov_pickT rfl rfl) ?_ | refine LW.v (ov_pickF rfl rfl) ?_ | refine LW.v (ov_pick rfl rfl rfl) ?_
        refine LW.v (ov_move rfl) ?_
        refine LW.v (ov_fieldAddr fo85_4 rfl) ?_
        refine LW.v (ov_loadR 1 ta3 rfl rfl rfl) ?_
        refine LW.v (ov_eql rfl rfl) ?_
        first | refine LW.v (ov_pickT rfl rfl) ?_ | refine LW.v (ov_pickF rfl rfl) ?_ | refine LW.v (ov_pick rfl rfl rfl) ?_
        refine LW.v (ov_move rfl) ?_
        first | refine KW.splitD 69 rfl (fun h69 => ?_) (fun h69 => ?_) | refine KW.split 69 rfl (fun h69 => ?_) (fun h69 => ?_)
        · refine LW.skip rfl rfl ?_
          refine LW.skip rfl rfl ?_
          refine LW.skip rfl rfl ?_
          first | refine LW.v (ov_pickT rfl rfl) ?_ | refine LW.v (ov_pickF rfl rfl) ?_ | refine LW.v (ov_pick rfl rfl rfl) ?_
          refine LW.v (ov_assign rfl) ?_
          refine LW.nil ?_
          refine KW.thenN ?_
          refine CW.ret ?_
          exact KW.retF (.cons (.tmp rfl) .nil) [] rfl rfl ⟨congrArg Value.bool (by first | exact decide_eq_decide.2 (by unfold Tf.ok; omega) | exact (decide_eq_true (by unfold Tf.ok; omega)).symm | exact (decide_eq_false (by unfold Tf.ok; omega)).symm), rfl⟩
        · refine LW.v (ov_fieldAddr fo85_4 rfl) ?_
          refine LW.v (ov_loadR 1 ta3 rfl rfl rfl) ?_
          refine LW.v (ov_eql rfl rfl) ?_
          first | refine LW.v (ov_pickT rfl rfl) ?_ | refine LW.v (ov_pickF rfl rfl) ?_ | refine LW.v (ov_pick rfl rfl rfl) ?_
          refine LW.v (ov_assign rfl) ?_
          refine LW.nil ?_
          refine KW.thenN ?_
          refine CW.ret ?_
          exact KW.retF (.cons (.tmp rfl) .nil) [] rfl rfl ⟨congrArg Value.bool (by first | exact decide_eq_decide.2 (by unfold Tf.ok; omega) | exact (decide_eq_true (by unfold Tf.ok; omega)).symm | exact (decide_eq_false (by unfold Tf.ok; omega)).symm), rfl⟩
  · have hf : decide f.ok = false := decide_eq_false (fun o => hn (by unfold Tf.ok at o; omega))
    first | refine KW.splitD 6 rfl (fun h6 => ?_) (fun h6 => ?_) | refine KW.split 6 rfl (fun h6 => ?_) (fun h6 => ?_)
    · refine LW.skip rfl rfl ?_
      refine LW.skip rfl rfl ?_
      refine LW.skip rfl rfl ?_
      first | refine LW.v (ov_pickT rfl rfl) ?_ | refine LW.v (ov_pickF rfl rfl) ?_ | refine LW.v (ov_pick rfl rfl rfl) ?_
      refine LW.v (ov_move rfl) ?_
      refine LW.skip rfl rfl ?_
      refine LW.skip rfl rfl ?_
      refine LW.skip rfl rfl ?_
      first | refine LW.v (ov_pickT rfl rfl) ?_ | refine LW.v (ov_pickF rfl rfl) ?_ | refine LW.v (ov_pick rfl rfl rfl) ?_
      refine LW.v (ov_move rfl) ?_
      refine LW.skip rfl rfl ?_
      refine LW.skip rfl rfl ?_
      refine LW.skip rfl rfl ?_
      first | refine LW.v (ov_pickT rfl rfl) ?_ | refine LW.v (ov_pickF rfl rfl) ?_ | refine LW.v (ov_pick rfl rfl rfl) ?_
      refine LW.v (ov_move rfl) ?_
      refine LW.skip rfl rfl ?_
      refine LW.skip rfl rfl ?_
      refine LW.skip rfl rfl ?_
      first | refine LW.v (ov_pickT rfl rfl) ?_ | refine LW.v (ov_pickF rfl rfl) ?_ | refine LW.v (ov_pick rfl rfl rfl) ?_
      refine LW.v (ov_move rfl) ?_
      refine LW.skip rfl rfl ?_
      refine LW.skip rfl rfl ?_
      refine LW.skip rfl rfl ?_
      first | refine LW.v (ov_pickT rfl rfl) ?_ | refine LW.v (ov_pickF rfl rfl) ?_ | refine LW.v (ov_pick rfl rfl rfl) ?_
      refine LW.v (ov_move rfl) ?_
      refine LW.skip rfl rfl ?_
      refine LW.skip rfl rfl ?_
      refine LW.skip rfl rfl ?_
      first | refine LW.v (ov_pickT rfl rfl) ?_ | refine LW.v (ov_pickF rfl rfl) ?_ | refine LW.v (ov_pick rfl rfl rfl) ?_
      refine LW.v (ov_move rfl) ?_
      refine LW.skip rfl rfl ?_
      refine LW.skip rfl rfl ?_
      refine LW.skip rfl rfl ?_
      first | refine LW.v (ov_pickT rfl rfl) ?_ | refine LW.v (ov_pickF rfl rfl) ?_ | refine LW.v (ov_pick rfl rfl rfl) ?_
      refine LW.v (ov_move rfl) ?_
      refine LW.skip rfl rfl ?_
      refine LW.skip rfl rfl ?_
      refine LW.skip rfl rfl ?_
      refine LW.skip rfl rfl ?_
      first | refine LW.v (ov_pickT rfl rfl) ?_ | refine LW.v (ov_pickF rfl rfl) ?_ | refine LW.v (ov_pick rfl rfl rfl) ?_
      refine LW.v (ov_move rfl) ?_
      refine LW.skip rfl rfl ?_
      refine LW.skip rfl rfl ?_
      refine LW.skip rfl rfl ?_
      refine LW.skip rfl rfl ?_
      first | refine LW.v (ov_pickT rfl rfl) ?_ | refine LW.v (ov_pickF rfl rfl) ?_ | refine LW.v (ov_pick rfl rfl rfl) ?_
      refine LW.nil ?_
      refine KW.thenN ?_
      refine CW.condT rfl rfl ?_
      refine CW.seq ?_
      refine CW.region ?_
      refine LW.v (ov_assign rfl) ?_
      refine LW.nil ?_
      refine KW.thenN ?_
      refine CW.ret ?_
      refine KW.thenR ?_
      first | (exfalso; omega) | exact KW.retF (.cons (.tmp rfl) .nil) [] rfl rfl ⟨by rw [hf]; rfl, rfl⟩
    · refine LW.v (ov_fieldAddr fo85_0 rfl) ?_
      refine LW.v (ov_loadR 1 ta3 rfl rfl rfl) ?_
      refine LW.v (ov_gtr rfl rfl) ?_
      first | refine LW.v (ov_pickT rfl rfl) ?_ | refine LW.v (ov_pickF rfl rfl) ?_ | refine LW.v (ov_pick rfl rfl rfl) ?_
      refine LW.v (ov_move rfl) ?_
      first | refine KW.splitD 11 rfl (fun h11 => ?_) (fun h11 => ?_) | refine KW.split 11 rfl (fun h11 => ?_) (fun h11 => ?_)
      · refine LW.skip rfl rfl ?_
        refine LW.skip rfl rfl ?_
        refine LW.skip rfl rfl ?_
        first | refine LW.v (ov_pickT rfl rfl) ?_ | refine LW.v (ov_pickF rfl rfl) ?_ | refine LW.v (ov_pick rfl rfl rfl) ?_
        refine LW.v (ov_move rfl) ?_
        refine LW.skip rfl rfl ?_
        refine LW.skip rfl rfl ?_
        refine LW.skip rfl rfl ?_
        first | refine LW.v (ov_pickT rfl rfl) ?_ | refine LW.v (ov_pickF rfl rfl) ?_ | refine LW.v (ov_pick rfl rfl rfl) ?_
        refine LW.v (ov_move rfl) ?_
        refine LW.skip rfl rfl ?_
        refine LW.skip rfl rfl ?_
        refine LW.skip rfl rfl ?_
        first | refine LW.v (ov_pickT rfl rfl) ?_ | refine LW.v (ov_pickF rfl rfl) ?_ | refine LW.v (ov_pick rfl rfl rfl) ?_
        refine LW.v (ov_move rfl) ?_
        refine LW.skip rfl rfl ?_
        refine LW.skip rfl rfl ?_
        refine LW.skip rfl rfl ?_
        first | refine LW.v (ov_pickT rfl rfl) ?_ | refine LW.v (ov_pickF rfl rfl) ?_ | refine LW.v (ov_pick rfl rfl rfl) ?_
        refine LW.v (ov_move rfl) ?_
        refine LW.skip rfl rfl ?_
        refine LW.skip rfl rfl ?_
        refine LW.skip rfl rfl ?_
        first | refine LW.v (ov_pickT rfl rfl) ?_ | refine LW.v (ov_pickF rfl rfl) ?_ | refine LW.v (ov_pick rfl rfl rfl) ?_
        refine LW.v (ov_move rfl) ?_
        refine LW.skip rfl rfl ?_
        refine LW.skip rfl rfl ?_
        refine LW.skip rfl rfl ?_
        first | refine LW.v (ov_pickT rfl rfl) ?_ | refine LW.v (ov_pickF rfl rfl) ?_ | refine LW.v (ov_pick rfl rfl rfl) ?_
        refine LW.v (ov_move rfl) ?_
        refine LW.skip rfl rfl ?_
        refine LW.skip rfl rfl ?_
        refine LW.skip rfl rfl ?_
        refine LW.skip rfl rfl ?_
        first | refine LW.v (ov_pickT rfl rfl) ?_ | refine LW.v (ov_pickF rfl rfl) ?_ | refine LW.v (ov_pick rfl rfl rfl) ?_
        refine LW.v (ov_move rfl) ?_
        refine LW.skip rfl rfl ?_
        refine LW.skip rfl rfl ?_
        refine LW.skip rfl rfl ?_
        refine LW.skip rfl rfl ?_
        first | refine LW.v (ov_pickT rfl rfl) ?_ | refine LW.v (ov_pickF rfl rfl) ?_ | refine LW.v (ov_pick rfl rfl rfl) ?_
        refine LW.nil ?_
        refine KW.thenN ?_
        refine CW.condT rfl rfl ?_
        refine CW.seq ?_
        refine CW.region ?_
        refine LW.v (ov_assign rfl) ?_
        refine LW.nil ?_
        refine KW.thenN ?_
        refine CW.ret ?_
        refine KW.thenR ?_
        first | (exfalso; omega) | exact KW.retF (.cons (.tmp rfl) .nil) [] rfl rfl ⟨by rw [hf]; rfl, rfl⟩
      · refine LW.v (ov_fieldAddr fo85_2 rfl) ?_
        refine LW.v (ov_loadR 1 ta3 rfl rfl rfl) ?_
        refine LW.v (ov_lss rfl rfl) ?_
        first | refine LW.v (ov_pickT rfl rfl) ?_ | refine LW.v (ov_pickF rfl rfl) ?_ | refine LW.v (ov_pick rfl rfl rfl) ?_
        refine LW.v (ov_move rfl) ?_
        first | refine KW.splitD 16 rfl (fun h16 => ?_) (fun h16 => ?_) | refine KW.split 16 rfl (fun h16 => ?_) (fun h16 => ?_)
        · refine LW.skip rfl rfl ?_
          refine LW.skip rfl rfl ?_
          refine LW.skip rfl rfl ?_
          first | refine LW.v (ov_pickT rfl rfl) ?_ | refine LW.v (ov_pickF rfl rfl) ?_ | refine LW.v (ov_pick rfl rfl rfl) ?_
          refine LW.v (ov_move rfl) ?_
          refine LW.skip rfl rfl ?_
          refine LW.skip rfl rfl ?_
          refine LW.skip rfl rfl ?_
          first | refine LW.v (ov_pickT rfl rfl) ?_ | refine LW.v (ov_pickF rfl rfl) ?_ | refine LW.v (ov_pick rfl rfl rfl) ?_
          refine LW.v (ov_move rfl) ?_
          refine LW.skip rfl rfl ?_
          refine LW.skip rfl rfl ?_
          refine LW.skip rfl rfl ?_
          first | refine LW.v (ov_pickT rfl rfl) ?_ | refine LW.v (ov_pickF rfl rfl) ?_ | refine LW.v (ov_pick rfl rfl rfl) ?_
          refine LW.v (ov_move rfl) ?_
          refine LW.skip rfl rfl ?_
          refine LW.skip rfl rfl ?_
          refine LW.skip rfl rfl ?_
          first | refine LW.v (ov_pickT rfl rfl) ?_ | refine LW.v (ov_pickF rfl rfl) ?_ | refine LW.v (ov_pick rfl rfl rfl) ?_
          refine LW.v (ov_move rfl) ?_
          refine LW.skip rfl rfl ?_
          refine LW.skip rfl rfl ?_
          refine LW.skip rfl rfl ?_
          first | refine LW.v (ov_pickT rfl rfl) ?_ | refine LW.v (ov_pickF rfl rfl) ?_ | refine LW.v (ov_pick rfl rfl rfl) ?_
          refine LW.v (ov_move rfl) ?_
          refine LW.skip rfl rfl ?_
          refine LW.skip rfl rfl ?_
          refine LW.skip rfl rfl ?_
          refine LW.skip rfl rfl ?_
          first | refine LW.v (ov_pickT rfl rfl) ?_ | refine LW.v (ov_pickF rfl rfl) ?_ | refine LW.v (ov_pick rfl rfl rfl) ?_
          refine LW.v (ov_move rfl) ?_
          refine LW.skip rfl rfl ?_
          refine LW.skip rfl rfl ?_
          refine LW.skip rfl rfl ?_
          refine LW.skip rfl rfl ?_
          first | refine LW.v (ov_pickT rfl rfl) ?_ | refine LW.v (ov_pickF rfl rfl) ?_ | refine LW.v (ov_pick rfl rfl rfl) ?_
          refine LW.nil ?_
          refine KW.thenN ?_
          refine CW.condT rfl rfl ?_
          refine CW.seq ?_
          refine CW.region ?_
          refine LW.v (ov_assign rfl) ?_
          refine LW.nil ?_
          refine KW.thenN ?_
          refine CW.ret ?_
          refine KW.thenR ?_
          first | (exfalso; omega) | exact KW.retF (.cons (.tmp rfl) .nil) [] rfl rfl ⟨by rw [hf]; rfl, rfl⟩
        · refine LW.v (ov_fieldAddr fo85_2 rfl) ?_
          refine LW.v (ov_loadR 1 ta3 rfl rfl rfl) ?_
          refine LW.v (ov_gtr rfl rfl) ?_
          first | refine LW.v (ov_pickT rfl rfl) ?_ | refine LW.v (ov_pickF rfl rfl) ?_ | refine LW.v (ov_pick rfl rfl rfl) ?_
          refine LW.v (ov_move rfl) ?_
          first | refine KW.splitD 21 rfl (fun h21 => ?_) (fun h21 => ?_) | refine KW.split 21 rfl (fun h21 => ?_) (fun h21 => ?_)
          · refine LW.skip rfl rfl ?_
            refine LW.skip rfl rfl ?_
            refine LW.skip rfl rfl ?_
            first | refine LW.v (ov_pickT rfl rfl) ?_ | refine LW.v (ov_pickF rfl rfl) ?_ | refine LW.v (ov_pick rfl rfl rfl) ?_
            refine LW.v (ov_move rfl) ?_
            refine LW.skip rfl rfl ?_
            refine LW.skip rfl rfl ?_
            refine LW.skip rfl rfl ?_
            first | refine LW.v (ov_pickT rfl rfl) ?_ | refine LW.v (ov_pickF rfl rfl) ?_ | refine LW.v (ov_pick rfl rfl rfl) ?_
            refine LW.v (ov_move rfl) ?_
            refine LW.skip rfl rfl ?_
            refine LW.skip rfl rfl ?_
            refine LW.skip rfl rfl ?_
            first | refine LW.v (ov_pickT rfl rfl) ?_ | refine LW.v (ov_pickF rfl rfl) ?_ | refine LW.v (ov_pick rfl rfl rfl) ?_
            refine LW.v (ov_move rfl) ?_
            refine LW.skip rfl rfl ?_
            refine LW.skip rfl rfl ?_
            refine LW.skip rfl rfl ?_
            first | refine LW.v (ov_pickT rfl rfl) ?_ | refine LW.v (ov_pickF rfl rfl) ?_ | refine LW.v (ov_pick rfl rfl rfl) ?_
            refine LW.v (ov_move rfl) ?_
            refine LW.skip rfl rfl ?_
            refine LW.skip rfl rfl ?_
            refine LW.skip rfl rfl ?_
            refine LW.skip rfl rfl ?_
            first | refine LW.v (ov_pickT rfl rfl) ?_ | refine LW.v (ov_pickF rfl rfl) ?_ | refine LW.v (ov_pick rfl rfl rfl) ?_
            refine LW.v (ov_move rfl) ?_
            refine LW.skip rfl rfl ?_
            refine LW.skip rfl rfl ?_
            refine LW.skip rfl rfl ?_
            refine LW.skip rfl rfl ?_
            first | refine LW.v (ov_pickT rfl rfl) ?_ | refine LW.v (ov_pickF rfl rfl) ?_ | refine LW.v (ov_pick rfl rfl rfl) ?_
            refine LW.nil ?_
            refine KW.thenN ?_
            refine CW.condT rfl rfl ?_
            refine CW.seq ?_
            refine CW.region ?_
            refine LW.v (ov_assign rfl) ?_
            refine LW.nil ?_
            refine KW.thenN ?_
            refine CW.ret ?_
            refine KW.thenR ?_
            first | (exfalso; omega) | exact KW.retF (.cons (.tmp rfl) .nil) [] rfl rfl ⟨by rw [hf]; rfl, rfl⟩
          · refine LW.v (ov_fieldAddr fo85_3 rfl) ?_
            refine LW.v (ov_loadR 1 ta3 rfl rfl rfl) ?_
            refine LW.v (ov_lss rfl rfl) ?_
            first | refine LW.v (ov_pickT rfl rfl) ?_ | refine LW.v (ov_pickF rfl rfl) ?_ | refine LW.v (ov_pick rfl rfl rfl) ?_
            refine LW.v (ov_move rfl) ?_
            first | refine KW.splitD 26 rfl (fun h26 => ?_) (fun h26 => ?_) | refine KW.split 26 rfl (fun h26 => ?_) (fun h26 => ?_)
            · refine LW.skip rfl rfl ?_
              refine LW.skip rfl rfl ?_
              refine LW.skip rfl rfl ?_
              first | refine LW.v (ov_pickT rfl rfl) ?_ | refine LW.v (ov_pickF rfl rfl) ?_ | refine LW.v (ov_pick rfl rfl rfl) ?_
              refine LW.v (ov_move rfl) ?_
              refine LW.skip rfl rfl ?_
              refine LW.skip rfl rfl ?_
              refine LW.skip rfl rfl ?_
              first | refine LW.v (ov_pickT rfl rfl) ?_ | refine LW.v (ov_pickF rfl rfl) ?_ | refine LW.v (ov_pick rfl rfl rfl) ?_
              refine LW.v (ov_move rfl) ?_
              refine LW.skip rfl rfl ?_
              refine LW.skip rfl rfl ?_
              refine LW.skip rfl rfl ?_
              first | refine LW.v (ov_pickT rfl rfl) ?_ | refine LW.v (ov_pickF rfl rfl) ?_ | refine LW.v (ov_pick rfl rfl rfl) ?_
              refine LW.v (ov_move rfl) ?_
              refine LW.skip rfl rfl ?_
              refine LW.skip rfl rfl ?_
              refine LW.skip rfl rfl ?_
              refine LW.skip rfl rfl ?_
              first | refine LW.v (ov_pickT rfl rfl) ?_ | refine LW.v (ov_pickF rfl rfl) ?_ | refine LW.v (ov_pick rfl rfl rfl) ?_
              refine LW.v (ov_move rfl) ?_
              refine LW.skip rfl rfl ?_
              refine LW.skip rfl rfl ?_
              refine LW.skip rfl rfl ?_
              refine LW.skip rfl rfl ?_
              first | refine LW.v (ov_pickT rfl rfl) ?_ | refine LW.v (ov_pickF rfl rfl) ?_ | refine LW.v (ov_pick rfl rfl rfl) ?_
              refine LW.nil ?_
              refine KW.thenN ?_
              refine CW.condT rfl rfl ?_
              refine CW.seq ?_
              refine CW.region ?_
              refine LW.v (ov_assign rfl) ?_
              refine LW.nil ?_
              refine KW.thenN ?_
              refine CW.ret ?_
              refine KW.thenR ?_
              first | (exfalso; omega) | exact KW.retF (.cons (.tmp rfl) .nil) [] rfl rfl ⟨by rw [hf]; rfl, rfl⟩
            · refine LW.v (ov_fieldAddr fo85_3 rfl) ?_
              refine LW.v (ov_loadR 1 ta3 rfl rfl rfl) ?_
              refine LW.v (ov_gtr rfl rfl) ?_
              first | refine LW.v (ov_pickT rfl rfl) ?_ | refine LW.v (ov_pickF rfl rfl) ?_ | refine LW.v (ov_pick rfl rfl rfl) ?_
              refine LW.v (ov_move rfl) ?_
              first | refine KW.splitD 31 rfl (fun h31 => ?_) (fun h31 => ?_) | refine KW.split 31 rfl (fun h31 => ?_) (fun h31 => ?_)
              · refine LW.skip rfl rfl ?_
                refine LW.skip rfl rfl ?_
                refine LW.skip rfl rfl ?_
                first | refine LW.v (ov_pickT rfl rfl) ?_ | refine LW.v (ov_pickF rfl rfl) ?_ | refine LW.v (ov_pick rfl rfl rfl) ?_
                refine LW.v (ov_move rfl) ?_
                refine LW.skip rfl rfl ?_
                refine LW.skip rfl rfl ?_
                refine LW.skip rfl rfl ?_
                first | refine LW.v (ov_pickT rfl rfl) ?_ | refine LW.v (ov_pickF rfl rfl) ?_ | refine LW.v (ov_pick rfl rfl rfl) ?_
                refine LW.v (ov_move rfl) ?_
                refine LW.skip rfl rfl ?_
                refine LW.skip rfl rfl ?_
                refine LW.skip rfl rfl ?_
                refine LW.skip rfl rfl ?_
                first | refine LW.v (ov_pickT rfl rfl) ?_ | refine LW.v (ov_pickF rfl rfl) ?_ | refine LW.v (ov_pick rfl rfl rfl) ?_
                refine LW.v (ov_move rfl) ?_
                refine LW.skip rfl rfl ?_
                refine LW.skip rfl rfl ?_
                refine LW.skip rfl rfl ?_
                refine LW.skip rfl rfl ?_
                first | refine LW.v (ov_pickT rfl rfl) ?_ | refine LW.v (ov_pickF rfl rfl) ?_ | refine LW.v (ov_pick rfl rfl rfl) ?_
                refine LW.nil ?_
                refine KW.thenN ?_
                refine CW.condT rfl rfl ?_
                refine CW.seq ?_
                refine CW.region ?_
                refine LW.v (ov_assign rfl) ?_
                refine LW.nil ?_
                refine KW.thenN ?_
                refine CW.ret ?_
                refine KW.thenR ?_
                first | (exfalso; omega) | exact KW.retF (.cons (.tmp rfl) .nil) [] rfl rfl ⟨by rw [hf]; rfl, rfl⟩
              · refine LW.v (ov_fieldAddr fo85_1 rfl) ?_
                refine LW.v (ov_loadR 1 ta3 rfl rfl rfl) ?_
                refine LW.v (ov_lss rfl rfl) ?_
                first | refine LW.v (ov_pickT rfl rfl) ?_ | refine LW.v (ov_pickF rfl rfl) ?_ | refine LW.v (ov_pick rfl rfl rfl) ?_
                refine LW.v (ov_move rfl) ?_
                first | refine KW.splitD 36 rfl (fun h36 => ?_) (fun h36 => ?_) | refine KW.split 36 rfl (fun h36 => ?_) (fun h36 => ?_)
                · refine LW.skip rfl rfl ?_
                  refine LW.skip rfl rfl ?_
                  refine LW.skip rfl rfl ?_
                  first | refine LW.v (ov_pickT rfl rfl) ?_ | refine LW.v (ov_pickF rfl rfl) ?_ | refine LW.v (ov_pick rfl rfl rfl) ?_
                  refine LW.v (ov_move rfl) ?_
                  refine LW.skip rfl rfl ?_
                  refine LW.skip rfl rfl ?_
                  refine LW.skip rfl rfl ?_
                  refine LW.skip rfl rfl ?_
                  first | refine LW.v (ov_pickT rfl rfl) ?_ | refine LW.v (ov_pickF rfl rfl) ?_ | refine LW.v (ov_pick rfl rfl rfl) ?_
                  refine LW.v (ov_move rfl) ?_
                  refine LW.skip rfl rfl ?_
                  refine LW.skip rfl rfl ?_
                  refine LW.skip rfl rfl ?_
                  refine LW.skip rfl rfl ?_
                  first | refine LW.v (ov_pickT rfl rfl) ?_ | refine LW.v (ov_pickF rfl rfl) ?_ | refine LW.v (ov_pick rfl rfl rfl) ?_
                  refine LW.nil ?_
                  refine KW.thenN ?_
                  refine CW.condT rfl rfl ?_
                  refine CW.seq ?_
                  refine CW.region ?_
                  refine LW.v (ov_assign rfl) ?_
                  refine LW.nil ?_
                  refine KW.thenN ?_
                  refine CW.ret ?_
                  refine KW.thenR ?_
                  first | (exfalso; omega) | exact KW.retF (.cons (.tmp rfl) .nil) [] rfl rfl ⟨by rw [hf]; rfl, rfl⟩
                · refine LW.v (ov_fieldAddr fo85_1 rfl) ?_
                  refine LW.v (ov_loadR 1 ta3 rfl rfl rfl) ?_
                  refine LW.v (ov_gtr rfl rfl) ?_
                  first | refine LW.v (ov_pickT rfl rfl) ?_ | refine LW.v (ov_pickF rfl rfl) ?_ | refine LW.v (ov_pick rfl rfl rfl) ?_
                  refine LW.v (ov_move rfl) ?_
                  first | refine KW.splitD 41 rfl (fun h41 => ?_) (fun h41 => ?_) | refine KW.split 41 rfl (fun h41 => ?_) (fun h41 => ?_)
                  · refine LW.skip rfl rfl ?_
                    refine LW.skip rfl rfl ?_
                    refine LW.skip rfl rfl ?_
                    refine LW.skip rfl rfl ?_
                    first | refine LW.v (ov_pickT rfl rfl) ?_ | refine LW.v (ov_pickF rfl rfl) ?_ | refine LW.v (ov_pick rfl rfl rfl) ?_
                    refine LW.v (ov_move rfl) ?_
                    refine LW.skip rfl rfl ?_
                    refine LW.skip rfl rfl ?_
                    refine LW.skip rfl rfl ?_
                    refine LW.skip rfl rfl ?_
                    first | refine LW.v (ov_pickT rfl rfl) ?_ | refine LW.v (ov_pickF rfl rfl) ?_ | refine LW.v (ov_pick rfl rfl rfl) ?_
                    refine LW.nil ?_
                    refine KW.thenN ?_
                    refine CW.condT rfl rfl ?_
                    refine CW.seq ?_
                    refine CW.region ?_
                    refine LW.v (ov_assign rfl) ?_
                    refine LW.nil ?_
                    refine KW.thenN ?_
                    refine CW.ret ?_
                    refine KW.thenR ?_
                    first | (exfalso; omega) | exact KW.retF (.cons (.tmp rfl) .nil) [] rfl rfl ⟨by rw [hf]; rfl, rfl⟩
                  · refine LW.v (ov_fieldAddr fo85_5 rfl) ?_
                    refine LW.v (ov_loadR 1 ta9 rfl rfl rfl) ?_
                    refine LW.v (ov_lenS un9 rfl) ?_
                    refine LW.v (ov_lss rfl rfl) ?_
                    first | refine LW.v (ov_pickT rfl rfl) ?_ | refine LW.v (ov_pickF rfl rfl) ?_ | refine LW.v (ov_pick rfl rfl rfl) ?_
                    refine LW.v (ov_move rfl) ?_
                    first | refine KW.splitD 47 rfl (fun h47 => ?_) (fun h47 => ?_) | refine KW.split 47 rfl (fun h47 => ?_) (fun h47 => ?_)
                    · refine LW.skip rfl rfl ?_
                      refine LW.skip rfl rfl ?_
                      refine LW.skip rfl rfl ?_
                      refine LW.skip rfl rfl ?_
                      first | refine LW.v (ov_pickT rfl rfl) ?_ | refine LW.v (ov_pickF rfl rfl) ?_ | refine LW.v (ov_pick rfl rfl rfl) ?_
                      refine LW.nil ?_
                      refine KW.thenN ?_
                      refine CW.condT rfl rfl ?_
                      refine CW.seq ?_
                      refine CW.region ?_
                      refine LW.v (ov_assign rfl) ?_
                      refine LW.nil ?_
                      refine KW.thenN ?_
                      refine CW.ret ?_
                      refine KW.thenR ?_
                      first | (exfalso; omega) | exact KW.retF (.cons (.tmp rfl) .nil) [] rfl rfl ⟨by rw [hf]; rfl, rfl⟩
                    · refine LW.v (ov_fieldAddr fo85_5 rfl) ?_
                      refine LW.v (ov_loadR 1 ta9 rfl rfl rfl) ?_
                      refine LW.v (ov_lenS un9 rfl) ?_
                      refine LW.v (ov_gtr rfl rfl) ?_
                      first | refine LW.v (ov_pickT rfl rfl) ?_ | refine LW.v (ov_pickF rfl rfl) ?_ | refine LW.v (ov_pick rfl rfl rfl) ?_
                      refine LW.nil ?_
                      refine KW.thenN ?_
                      first | refine KW.splitD 52 rfl (fun h52 => ?_) (fun h52 => ?_) | refine KW.split 52 rfl (fun h52 => ?_) (fun h52 => ?_)
                      · refine CW.condT rfl rfl ?_
                        refine CW.seq ?_
                        refine CW.region ?_
                        refine LW.v (ov_assign rfl) ?_
                        refine LW.nil ?_
                        refine KW.thenN ?_
                        refine CW.ret ?_
                        refine KW.thenR ?_
                        first | (exfalso; omega) | exact KW.retF (.cons (.tmp rfl) .nil) [] rfl rfl ⟨by rw [hf]; rfl, rfl⟩
                      · refine CW.condF rfl rfl ?_
                        refine CW.skip ?_
                        refine KW.thenN ?_
                        refine CW.seq ?_
                        refine CW.region ?_
                        refine LW.v (ov_fieldAddr fo85_4 rfl) ?_
                        refine LW.v (ov_loadR 1 ta3 rfl rfl rfl) ?_
                        refine LW.v (ov_geq rfl rfl) ?_
                        refine LW.v (ov_move rfl) ?_
                        first | refine KW.splitD 56 rfl (fun h56 => ?_) (fun h56 => ?_) | refine KW.split 56 rfl (fun h56 => ?_) (fun h56 => ?_)
                        · refine LW.v (ov_fieldAddr fo85_4 rfl) ?_
                          refine LW.v (ov_loadR 1 ta3 rfl rfl rfl) ?_
                          refine LW.v (ov_fieldAddr fo85_5 rfl) ?_
                          refine LW.v (ov_loadR 1 ta9 rfl rfl rfl) ?_
                          refine LW.v (ov_lenS un9 rfl) ?_
                          refine LW.v (ov_lss rfl rfl) ?_
                          first | refine LW.v (ov_pickT rfl rfl) ?_ | refine LW.v (ov_pickF rfl rfl) ?_ | refine LW.v (ov_pick rfl rfl rfl) ?_
                          refine LW.v (ov_move rfl) ?_
                          first | refine KW.splitD 64 rfl (fun h64 => ?_) (fun h64 => ?_) | refine KW.split 64 rfl (fun h64 => ?_) (fun h64 => ?_)
                          · refine LW.skip rfl rfl ?_
                            refine LW.skip rfl rfl ?_
                            refine LW.skip rfl rfl ?_
                            first | refine LW.v (ov_pickT rfl rfl) ?_ | refine LW.v (ov_pickF rfl rfl) ?_ | refine LW.v (ov_pick rfl rfl rfl) ?_
                            refine LW.v (ov_move rfl) ?_
                            refine LW.skip rfl rfl ?_
                            refine LW.skip rfl rfl ?_
                            refine LW.skip rfl rfl ?_
                            first | refine LW.v (ov_pickT rfl rfl) ?_ | refine LW.v (ov_pickF rfl rfl) ?_ | refine LW.v (ov_pick rfl rfl rfl) ?_
                            refine LW.v (ov_assign rfl) ?_
                            refine LW.nil ?_
                            refine KW.thenN ?_
                            refine CW.ret ?_
                            first | (exfalso; omega) | exact KW.retF (.cons (.tmp rfl) .nil) [] rfl rfl ⟨by rw [hf]; rfl, rfl⟩
                          · refine LW.v (ov_fieldAddr fo85_4 rfl) ?_
                            refine LW.v (ov_loadR 1 ta3 rfl rfl rfl) ?_
                            refine LW.v (ov_eql rfl rfl) ?_
                            first | refine LW.v (ov_pickT rfl rfl) ?_ | refine LW.v (ov_pickF rfl rfl) ?_ | refine LW.v (ov_pick rfl rfl rfl) ?_
                            refine LW.v (ov_move rfl) ?_
                            first | refine KW.splitD 69 rfl (fun h69 => ?_) (fun h69 => ?_) | refine KW.split 69 rfl (fun h69 => ?_) (fun h69 => ?_)
                            · refine LW.skip rfl rfl ?_
                              refine LW.skip rfl rfl ?_
                              refine LW.skip rfl rfl ?_
                              first | refine LW.v (ov_pickT rfl rfl) ?_ | refine LW.v (ov_pickF rfl rfl) ?_ | refine LW.v (ov_pick rfl rfl rfl) ?_
                              refine LW.v (ov_assign rfl) ?_
                              refine LW.nil ?_
                              refine KW.thenN ?_
                              refine CW.ret ?_
                              first | (exfalso; omega) | exact KW.retF (.cons (.tmp rfl) .nil) [] rfl rfl ⟨by rw [hf]; rfl, rfl⟩
                            · refine LW.v (ov_fieldAddr fo85_4 rfl) ?_
                              refine LW.v (ov_loadR 1 ta3 rfl rfl rfl) ?_
                              refine LW.v (ov_eql rfl rfl) ?_
                              first | refine LW.v (ov_pickT rfl rfl) ?_ | refine LW.v (ov_pickF rfl rfl) ?_ | refine LW.v (ov_pick rfl rfl rfl) ?_
                              refine LW.v (ov_assign rfl) ?_
                              refine LW.nil ?_
                              refine KW.thenN ?_
                              refine CW.ret ?_
                              first | (exfalso; omega) | exact KW.retF (.cons (.tmp rfl) .nil) [] rfl rfl ⟨by rw [hf]; rfl, rfl⟩
                        · refine LW.skip rfl rfl ?_
                          refine LW.skip rfl rfl ?_
                          refine LW.skip rfl rfl ?_
                          refine LW.skip rfl rfl ?_
                          refine LW.skip rfl rfl ?_
                          refine LW.skip rfl rfl ?_
                          first | refine LW.v (ov_pickT rfl rfl) ?_ | refine LW.v (ov_pickF rfl rfl) ?_ | refine LW.v (ov_pick rfl rfl rfl) ?_
                          refine LW.v (ov_move rfl) ?_
                          refine LW.v (ov_fieldAddr fo85_4 rfl) ?_
                          refine LW.v (ov_loadR 1 ta3 rfl rfl rfl) ?_
                          refine LW.v (ov_eql rfl rfl) ?_
                          first | refine LW.v (ov_pickT rfl rfl) ?_ | refine LW.v (ov_pickF rfl rfl) ?_ | refine LW.v (ov_pick rfl rfl rfl) ?_
                          refine LW.v (ov_move rfl) ?_
                          first | refine KW.splitD 69 rfl (fun h69 => ?_) (fun h69 => ?_) | refine KW.split 69 rfl (fun h69 => ?_) (fun h69 => ?_)
                          · refine LW.skip rfl rfl ?_
                            refine LW.skip rfl rfl ?_
                            refine LW.skip rfl rfl ?_
                            first | refine LW.v (ov_pickT rfl rfl) ?_ | refine LW.v (ov_pickF rfl rfl) ?_ | refine LW.v (ov_pick rfl rfl rfl) ?_
                            refine LW.v (ov_assign rfl) ?_
                            refine LW.nil ?_
                            refine KW.thenN ?_
                            refine CW.ret ?_
                            first | (exfalso; omega) | exact KW.retF (.cons (.tmp rfl) .nil) [] rfl rfl ⟨by rw [hf]; rfl, rfl⟩
                          · refine LW.v (ov_fieldAddr fo85_4 rfl) ?_
                            refine LW.v (ov_loadR 1 ta3 rfl rfl rfl) ?_
                            refine LW.v (ov_eql rfl rfl) ?_
                            first | refine LW.v (ov_pickT rfl rfl) ?_ | refine LW.v (ov_pickF rfl rfl) ?_ | refine LW.v (ov_pick rfl rfl rfl) ?_
                            refine LW.v (ov_assign rfl) ?_
                            refine LW.nil ?_
                            refine KW.thenN ?_
                            refine CW.ret ?_
                            first | (exfalso; omega) | exact KW.retF (.cons (.tmp rfl) .nil) [] rfl rfl ⟨by rw [hf]; rfl, rfl⟩
theorem two_ok {n : Int} (h : 0 ≤ n ∧ n < 9223372036854775808) : Fn Try.prog 88 #[.int .i64 n] [] (Ret fun v Q => v = S (beB n 2) ∧ Q = []) := by
  refine Fn.of (args := _) Try.func88 rfl Try.ntmps88 rfl ?_
  intro w0 g0
  refine CW.seq ?_
  refine CW.region ?_
  refine LW.v (ov_assign rfl) ?_
  refine LW.nil ?_
  refine KW.thenN ?_
  refine CW.seq ?_
  refine CW.region ?_
  refine LW.v (ov_move rfl) ?_
  first | refine LW.v (ov_quo rfl rfl (by omega) (by omega)) ?_ | refine LW.v (ov_quoW rfl rfl (by omega)) ?_
  refine LW.v (ov_toU un5 us3 rfl wrap_u8) ?_
  refine LW.v (ov_move rfl) ?_
  refine LW.v (ov_rem rfl rfl (by omega) (by omega)) ?_
  refine LW.v (OpV.eq (ov_toU un5 us3 rfl wrap_u8) (congrArg (Value.int .u8) (show n % 256 % 256 = n % 256 by omega))) ?_
  refine LW.opBA (ob_bs1 so107 zc5 (xs := [_, _]) rfl rfl rfl (by decide) rfl (fun _ => .c (.n))) rfl rfl (fun b9 => ?_)
  refine LW.v (ov_b2sR (l := beB n 2) 1 so107 un9 un5 rfl rfl rfl (by rw [beB2]; simp only [wb, List.map_cons, List.map_nil, ← bv_wrap]; intro j v hj; rw [Nat.zero_add]; exact hj)) ?_
  refine LW.v (ov_assign rfl) ?_
  refine LW.nil ?_
  refine KW.thenN ?_
  refine CW.ret ?_
  exact KW.retF (.cons (.tmp rfl) (.nil)) [] rfl rfl (⟨rfl, rfl⟩)
end Sx
end Go.Proofs.Ytdgphamhpjnmpaa

/- tmframe: Get; the reference's Put. -/
namespace Go.Proofs.Ytdgphamhpjnmpaa
namespace Sx

theorem RPut_ok (f : Tf) (hw : 0 ≤ f.word ∧ f.word < 4294967296) : Fn Try.prog 51 #[tfv f] [] (Ret fun v Q => v = (if f.ok then .tuple #[S (encF f), .int .i64 0] else .tuple #[S [], .int .i64 2]) ∧ Q = []) := by
  refine Fn.of (args := _) Try.func51 rfl Try.ntmps51 rfl ?_
  intro w0 g0
  refine CW.seq ?_
  refine CW.region ?_
  refine LW.opBA (ob_box rfl .agg (fun _ => .c (.n))) rfl rfl (fun b1 => ?_)
  refine LW.v (ov_assign rfl) ?_
  refine LW.v (ov_assign rfl) ?_
  refine LW.nil ?_
  refine KW.thenN ?_
  refine CW.seq ?_
  refine CW.seq ?_
  refine CW.region ?_
  refine LW.v (ov_loadAR 1 ta85 rfl rfl (.h (.h (.h (.h (.h (.h (.h (.n))))))))) ?_
  refine LW.call [] (oc_fn cf87 rfl) rfl rfl rfl rfl (RValid_ok f) ?_
  rintro _ _ ⟨rfl, rfl⟩
  simp only [putBack, List.append_nil]
  refine LW.v (ov_not rfl) ?_
  refine LW.nil ?_
  refine KW.thenN ?_
  by_cases h : f.ok
  · have ho := h
    obtain ⟨h1, h2, h3, h4, h5, h6, h7, h8, h9, h10, h11⟩ := h
    have hf : 0 ≤ f.first ∧ f.first < 65536 := by omega
    refine CW.condF rfl (by simp [ho]) ?_
    refine CW.skip ?_
    refine KW.thenN ?_
    refine CW.seq ?_
    refine CW.draw [1] rfl mixed rfl (ls := #[false, false, false, false, false, false, false, false, false, false, false, false, false, false, false, false, false, false, false, false, false, false, false, false]) (by kernel_rfl) ?_
    have l1 := beB_len (f.craft * 64 + f.chan * 8) 2
    have l2 := beB_len (f.master * 256 + f.count) 2
    have l3 := beB_len f.first 2
    refine DW.tk 0 [1] rfl (ov_fieldAddr fo85_0 rfl) ?_
    refine DW.tk 1 [1] rfl (ov_loadR 0 ta3 rfl rfl rfl) ?_
    first | refine DW.tk 2 [1] rfl (ov_mul rfl rfl (by omega)) ?_ | refine DW.tk 2 [1] rfl (ov_mulW rfl rfl) ?_
    refine DW.tk 3 [1] rfl (ov_fieldAddr fo85_1 rfl) ?_
    refine DW.tk 4 [1] rfl (ov_loadR 0 ta3 rfl rfl rfl) ?_
    first | refine DW.tk 5 [1] rfl (ov_mul rfl rfl (by omega)) ?_ | refine DW.tk 5 [1] rfl (ov_mulW rfl rfl) ?_
    first | refine DW.tk 6 [1] rfl (ov_add rfl rfl (by omega)) ?_ | refine DW.tk 6 [1] rfl (ov_addW rfl rfl) ?_
    refine DW.tk 8 [1] rfl (ov_fieldAddr fo85_2 rfl) ?_
    refine DW.tk 9 [1] rfl (ov_loadR 0 ta3 rfl rfl rfl) ?_
    first | refine DW.tk 10 [1] rfl (ov_mul rfl rfl (by omega)) ?_ | refine DW.tk 10 [1] rfl (ov_mulW rfl rfl) ?_
    refine DW.tk 11 [1] rfl (ov_fieldAddr fo85_3 rfl) ?_
    refine DW.tk 12 [1] rfl (ov_loadR 0 ta3 rfl rfl rfl) ?_
    first | refine DW.tk 13 [1] rfl (ov_add rfl rfl (by omega)) ?_ | refine DW.tk 13 [1] rfl (ov_addW rfl rfl) ?_
    refine DW.tk 16 [1] rfl (ov_fieldAddr fo85_4 rfl) ?_
    refine DW.tk 17 [1] rfl (ov_loadR 0 ta3 rfl rfl rfl) ?_
    refine DW.tk 20 [1] rfl (ov_fieldAddr fo85_5 rfl) ?_
    refine DW.tk 21 [1] rfl (ov_loadR 0 ta9 rfl rfl rfl) ?_
    refine DW.all1 7 (by kernel_rfl) ?_
    refine DO.call [1] [] rfl (oc_fn cf88 rfl) rfl rfl rfl rfl (two_ok (n := f.craft * 64 + f.chan * 8) (by omega)) (by rintro _ _ ⟨rfl, rfl⟩; exact ⟨rfl, rfl⟩) rfl ?_
    rintro _ _ ⟨rfl, rfl⟩
    simp only [putBack, List.append_nil]
    refine DW.all1 14 (by kernel_rfl) ?_
    refine DO.call [1] [] rfl (oc_fn cf88 rfl) rfl rfl rfl rfl (two_ok (n := f.master * 256 + f.count) (by omega)) (by rintro _ _ ⟨rfl, rfl⟩; exact ⟨rfl, rfl⟩) rfl ?_
    rintro _ _ ⟨rfl, rfl⟩
    simp only [putBack, List.append_nil]
    refine DW.tk 15 [1] rfl (ov_strAdd rfl rfl (by omega)) ?_
    refine DW.all1 18 (by kernel_rfl) ?_
    refine DO.call [1] [] rfl (oc_fn cf88 rfl) rfl rfl rfl rfl (two_ok (n := f.first) (by omega)) (by rintro _ _ ⟨rfl, rfl⟩; exact ⟨rfl, rfl⟩) rfl ?_
    rintro _ _ ⟨rfl, rfl⟩
    simp only [putBack, List.append_nil]
    refine DW.tk 19 [1] rfl (ov_strAdd rfl rfl (by rw [List.length_append]; omega)) ?_
    refine DW.tk 22 [1] rfl (ov_strAdd rfl rfl (by rw [List.length_append, List.length_append]; omega)) ?_
    refine DW.tk 23 [1] rfl (ov_assign rfl) ?_
    refine DW.done (by kernel_rfl) ?_
    refine KW.thenN ?_
    refine CW.seq ?_
    have em : beB (f.master * 256 + f.count) 2 = [b8 f.master, b8 f.count] := by
      rw [beB2]
      have e1 : (f.master * 256 + f.count) / 256 = f.master := by omega
      have e2 : (f.master * 256 + f.count) % 256 = f.count % 256 := by omega
      show [b8 ((f.master * 256 + f.count) / 256), b8 (f.master * 256 + f.count)] = _
      rw [e1, b8, b8, b8, e2]
    have hb : (beB (f.craft * 64 + f.chan * 8) 2 ++ beB (f.master * 256 + f.count) 2 ++ beB f.first 2 ++ f.data) = preF f ++ f.data := by rw [em]; rfl
    rw [hb]
    refine CW.draw [1] rfl mixed rfl (ls := #[false, false, false, false, false, false, false, false, false, false, false, false, false, false]) (by kernel_rfl) ?_
    have l4 := beB_len (f.word / 65536) 2
    have l5 := beB_len (f.word % 65536) 2
    have l6 := preF_len f
    refine DW.tk 0 [1] rfl (ov_move rfl) ?_
    refine DW.tk 1 [1] rfl (ov_fieldAddr fo85_6 rfl) ?_
    refine DW.tk 2 [1] rfl (ov_loadR 0 ta31 rfl rfl rfl) ?_
    refine DW.tk 3 [1] rfl (OpV.eq (ov_quoW rfl rfl (by omega)) (congrArg (Value.int .u32) (show IntKind.u32.wrap (f.word.tdiv 65536) = f.word / 65536 by rw [wrap_u32, Int.tdiv_eq_ediv_of_nonneg hw.1]; omega))) ?_
    first | refine DW.tk 4 [1] rfl (ov_toI64 un3 us31 rfl (by omega)) ?_ | refine DW.tk 4 [1] rfl (ov_toInt un3 us31 rfl) ?_
    refine DW.tk 7 [1] rfl (ov_fieldAddr fo85_6 rfl) ?_
    refine DW.tk 8 [1] rfl (ov_loadR 0 ta31 rfl rfl rfl) ?_
    refine DW.tk 9 [1] rfl (ov_rem rfl rfl hw.1 (by omega)) ?_
    first | refine DW.tk 10 [1] rfl (ov_toI64 un3 us31 rfl (by omega)) ?_ | refine DW.tk 10 [1] rfl (ov_toInt un3 us31 rfl) ?_
    refine DW.all1 5 (by kernel_rfl) ?_
    refine DO.call [1] [] rfl (oc_fn cf88 rfl) rfl rfl rfl rfl (two_ok (n := f.word / 65536) (by omega)) (by rintro _ _ ⟨rfl, rfl⟩; exact ⟨rfl, rfl⟩) rfl ?_
    rintro _ _ ⟨rfl, rfl⟩
    simp only [putBack, List.append_nil]
    refine DW.tk 6 [1] rfl (ov_strAdd rfl rfl (by rw [List.length_append]; omega)) ?_
    refine DW.all1 11 (by kernel_rfl) ?_
    refine DO.call [1] [] rfl (oc_fn cf88 rfl) rfl rfl rfl rfl (two_ok (n := f.word % 65536) (by omega)) (by rintro _ _ ⟨rfl, rfl⟩; exact ⟨rfl, rfl⟩) rfl ?_
    rintro _ _ ⟨rfl, rfl⟩
    simp only [putBack, List.append_nil]
    refine DW.tk 12 [1] rfl (ov_strAdd rfl rfl (by rw [List.length_append, List.length_append]; omega)) ?_
    refine DW.tk 13 [1] rfl (ov_assign rfl) ?_
    refine DW.done (by kernel_rfl) ?_
    refine KW.thenN ?_
    refine CW.seq ?_
    refine CW.region ?_
    refine LW.v (ov_move rfl) ?_
    refine LW.v (ov_move rfl) ?_
    have ew : beB f.word 4 = beB (f.word / 65536) 2 ++ beB (f.word % 65536) 2 := by
      rw [beB2, beB2]
      show [b8 (f.word / 16777216), b8 (f.word / 65536), b8 (f.word / 256), b8 (f.word / 1)] = [b8 (f.word / 65536 / 256), b8 (f.word / 65536), b8 (f.word % 65536 / 256), b8 (f.word % 65536)]
      have e1 : f.word / 65536 / 256 = f.word / 16777216 := by omega
      have e2 : (f.word % 65536 / 256) % 256 = f.word / 256 % 256 := by omega
      have e3 : f.word % 65536 % 256 = f.word / 1 % 256 := by omega
      rw [e1]
      unfold b8
      rw [e2, e3]
    have hb2 : (preF f ++ f.data ++ beB (f.word / 65536) 2 ++ beB (f.word % 65536) 2) = bodyF f := by rw [bodyF, ew, List.append_assoc]
    rw [hb2]
    have hbl := bodyF_len f
    have hs := (sum16 (bodyF f)).isLt
    have l7 := beB_len (sum16 (bodyF f)).toNat 2
    refine LW.call [] (oc_fn cf62 rfl) rfl rfl rfl rfl (RSum16_ok (l := bodyF f) (by omega)) ?_
    rintro _ _ ⟨rfl, rfl⟩
    simp only [putBack, List.append_nil]
    first | refine LW.v (ov_toI64 un3 us125 rfl (by omega)) ?_ | refine LW.v (ov_toInt un3 us125 rfl) ?_
    refine LW.call [] (oc_fn cf88 rfl) rfl rfl rfl rfl (two_ok (n := (sum16 (bodyF f)).toNat) (by omega)) ?_
    rintro _ _ ⟨rfl, rfl⟩
    simp only [putBack, List.append_nil]
    refine LW.v (ov_strAdd rfl rfl (by omega)) ?_
    refine LW.v (ov_assign rfl) ?_
    refine LW.v (ov_assign rfl) ?_
    refine LW.nil ?_
    refine KW.thenN ?_
    refine CW.ret ?_
    exact KW.retF (.cons (.tmp rfl) (.cons (.tmp rfl) (.nil))) [] rfl rfl (⟨by rw [if_pos ho]; rfl, rfl⟩)
  · refine CW.condT rfl (by simp [h]) ?_
    refine CW.seq ?_
    refine CW.region ?_
    refine LW.v (ov_assign rfl) ?_
    refine LW.v (ov_assign rfl) ?_
    refine LW.nil ?_
    refine KW.thenN ?_
    refine CW.ret ?_
    refine KW.thenR ?_
    exact KW.retF (.cons (.tmp rfl) (.cons (.tmp rfl) (.nil))) [] rfl rfl (⟨by rw [if_neg h]; rfl, rfl⟩)

def tf0 : Tf := ⟨0, 0, 0, 0, 0, [], 0⟩
def parT (s : List UInt8) : Tf := ⟨(numN (s.take 2) : Int) / 64, (numN (s.take 2) : Int) / 8 % 8, (s.getD 2 0).toNat, (s.getD 3 0).toNat, numN ((s.drop 4).take 2), (s.drop 6).take (s.length - 12), numN ((s.drop (s.length - 6)).take 4)⟩
def getT (s : List UInt8) : Tf × Int :=
  if s.length < 44 ∨ 212 < s.length then (tf0, 6)
  else if numN (s.drop (s.length - 2)) ≠ (sum16 (s.take (s.length - 2))).toNat then (tf0, 100)
  else if numN (s.take 2) % 8 ≠ 0 ∨ ¬ (parT s).ok then (tf0, 6) else (parT s, 0)
theorem TGet_ok {s : List UInt8} (hl : s.length ≤ 1000000000) : Fn Try.prog 29 #[S s] [] (Ret fun v Q => v = .tuple #[tfv (getT s).1, .int .i64 (getT s).2] ∧ Q = []) := by
  refine Fn.of (args := _) Try.func29 rfl Try.ntmps29 rfl ?_
  intro w0 g0
  by_cases hr : s.length < 44 ∨ 212 < s.length
  · have hg : getT s = (tf0, 6) := by rw [getT, if_pos hr]
    rw [hg]
    refine CW.seq ?_
    refine CW.region ?_
    refine LW.opBA (ob_alloc zc85 (fun _ => .c (.n))) rfl rfl (fun b2 => ?_)
    refine LW.v (ov_assign rfl) ?_
    refine LW.nil ?_
    refine KW.thenN ?_
    refine CW.seq ?_
    refine CW.region ?_
    refine LW.v (ov_move rfl) ?_
    refine LW.v (ov_lenS un9 rfl) ?_
    first | refine LW.v (ov_sub rfl rfl (by omega)) ?_ | refine LW.v (ov_subW rfl rfl) ?_
    refine LW.v (ov_assign rfl) ?_
    refine LW.nil ?_
    refine KW.thenN ?_
    refine CW.seq ?_
    refine CW.seq ?_
    refine CW.region ?_
    refine LW.v (ov_move rfl) ?_
    refine LW.v (ov_lss rfl rfl) ?_
    refine LW.v (ov_move rfl) ?_
    first | refine KW.splitD 13 rfl (fun h13 => ?_) (fun h13 => ?_) | refine KW.split 13 rfl (fun h13 => ?_) (fun h13 => ?_)
    · refine LW.skip rfl rfl ?_
      refine LW.skip rfl rfl ?_
      first | refine LW.v (ov_pickT rfl rfl) ?_ | refine LW.v (ov_pickF rfl rfl) ?_ | refine LW.v (ov_pick rfl rfl rfl) ?_
      refine LW.nil ?_
      refine KW.thenN ?_
      refine CW.condT rfl rfl ?_
      refine CW.seq ?_
      refine CW.region ?_
      refine LW.v (ov_build zc85 pl85 rfl (.n)) ?_
      refine LW.opU (ou_storeW ta85 rfl rfl .agg rfl rfl (.h (.h (.h (.h (.h (.h (.h (.n)))))))) (.t (.h))) rfl ?_
      refine LW.v (ov_assign rfl) ?_
      refine LW.nil ?_
      refine KW.thenN ?_
      refine CW.ret ?_
      refine KW.thenR ?_
      first | (exfalso; omega) | exact KW.retF (.cons (ResV.cellA 1 ta85 rfl rfl (.h (.h (.h (.h (.h (.h (.h .n)))))))) (.cons (.tmp rfl) .nil)) [] rfl rfl ⟨rfl, rfl⟩
    · refine LW.v (ov_move rfl) ?_
      refine LW.v (ov_gtr rfl rfl) ?_
      first | refine LW.v (ov_pickT rfl rfl) ?_ | refine LW.v (ov_pickF rfl rfl) ?_ | refine LW.v (ov_pick rfl rfl rfl) ?_
      refine LW.nil ?_
      refine KW.thenN ?_
      first | refine KW.splitD 16 rfl (fun h16 => ?_) (fun h16 => ?_) | refine KW.split 16 rfl (fun h16 => ?_) (fun h16 => ?_)
      · refine CW.condT rfl rfl ?_
        refine CW.seq ?_
        refine CW.region ?_
        refine LW.v (ov_build zc85 pl85 rfl (.n)) ?_
        refine LW.opU (ou_storeW ta85 rfl rfl .agg rfl rfl (.h (.h (.h (.h (.h (.h (.h (.n)))))))) (.t (.h))) rfl ?_
        refine LW.v (ov_assign rfl) ?_
        refine LW.nil ?_
        refine KW.thenN ?_
        refine CW.ret ?_
        refine KW.thenR ?_
        first | (exfalso; omega) | exact KW.retF (.cons (ResV.cellA 1 ta85 rfl rfl (.h (.h (.h (.h (.h (.h (.h .n)))))))) (.cons (.tmp rfl) .nil)) [] rfl rfl ⟨rfl, rfl⟩
      · refine CW.condF rfl rfl ?_
        refine CW.skip ?_
        refine KW.thenN ?_
        refine CW.seq ?_
        refine CW.region ?_
        refine LW.v (ov_move rfl) ?_
        refine LW.v (ov_lenS un9 rfl) ?_
        first | refine LW.v (ov_sub rfl rfl (by omega)) ?_ | refine LW.v (ov_subW rfl rfl) ?_
        refine LW.v (ov_assign rfl) ?_
        refine LW.nil ?_
        refine KW.thenN ?_
        refine CW.seq ?_
        refine CW.seq ?_
        first | (exfalso; omega) | exact KW.retF (.cons (ResV.cellA 1 ta85 rfl rfl (.h (.h (.h (.h (.h (.h (.h .n)))))))) (.cons (.tmp rfl) .nil)) [] rfl rfl ⟨rfl, rfl⟩
  obtain ⟨n, hn⟩ : ∃ n, s.length = n + 12 := ⟨s.length - 12, by omega⟩
  have hn12 : s.length - 12 = n := by omega
  have hn2 : s.length - 2 = n + 10 := by omega
  have hn6 : s.length - 6 = n + 6 := by omega
  refine CW.seq ?_
  refine CW.region ?_
  refine LW.opBA (ob_alloc zc85 (fun _ => .c (.n))) rfl rfl (fun b2 => ?_)
  refine LW.v (ov_assign rfl) ?_
  refine LW.nil ?_
  refine KW.thenN ?_
  refine CW.seq ?_
  refine CW.region ?_
  refine LW.v (ov_move rfl) ?_
  refine LW.v (ov_lenS un9 rfl) ?_
  refine LW.v (OpV.eq (ov_sub rfl rfl (by omega)) (congrArg (Value.int .i64) (show (s.length : Int) - 12 = (n : Int) by omega))) ?_
  refine LW.v (ov_assign rfl) ?_
  refine LW.nil ?_
  refine KW.thenN ?_
  refine CW.seq ?_
  refine CW.seq ?_
  refine CW.region ?_
  refine LW.v (ov_move rfl) ?_
  refine LW.v (OpV.eq (ov_lss rfl rfl) (congrArg Value.bool (decide_eq_false (by first | omega | assumption)))) ?_
  refine LW.v (ov_move rfl) ?_
  refine LW.v (ov_move rfl) ?_
  refine LW.v (OpV.eq (ov_gtr rfl rfl) (congrArg Value.bool (decide_eq_false (by first | omega | assumption)))) ?_
  first | refine LW.v (ov_pickT rfl rfl) ?_ | refine LW.v (ov_pickF rfl rfl) ?_ | refine LW.v (ov_pick rfl rfl rfl) ?_
  refine LW.nil ?_
  refine KW.thenN ?_
  refine CW.condF rfl rfl ?_
  refine CW.skip ?_
  refine KW.thenN ?_
  refine CW.seq ?_
  refine CW.region ?_
  refine LW.v (ov_move rfl) ?_
  refine LW.v (ov_lenS un9 rfl) ?_
  refine LW.v (OpV.eq (ov_sub rfl rfl (by omega)) (congrArg (Value.int .i64) (show (s.length : Int) - 2 = ((n + 10 : Nat) : Int) by omega))) ?_
  refine LW.v (ov_assign rfl) ?_
  refine LW.nil ?_
  refine KW.thenN ?_
  refine CW.seq ?_
  refine CW.seq ?_
  refine CW.draw [1] rfl mixed rfl (ls := #[false, false, false, false, false, false, false, false, false, false]) (by kernel_rfl) ?_
  have hs := (sum16 (s.take (n + 10))).isLt
  refine DW.tk 0 [1] rfl (ov_move rfl) ?_
  refine DW.tk 1 [1] rfl (ov_move rfl) ?_
  refine DW.tk 2 [1] rfl (OpV.eq (ov_ssLo un9 rfl rfl (by omega)) (congrArg S (show _ = s.drop (n + 10) by rw [Int.toNat_natCast]))) ?_
  refine DW.tk 4 [1] rfl (ov_move rfl) ?_
  refine DW.tk 5 [1] rfl (ov_move rfl) ?_
  refine DW.tk 6 [1] rfl (OpV.eq (ov_ssHi un9 rfl rfl (by omega)) (congrArg S (show _ = s.take (n + 10) by rw [Int.toNat_natCast]))) ?_
  refine DW.all1 3 (by kernel_rfl) ?_
  refine DO.call [1] [] rfl (oc_fn cf53 rfl) rfl rfl rfl rfl (number_ok (l := s.drop (n + 10)) (by rw [List.length_drop]; omega)) (by rintro _ _ ⟨rfl, rfl⟩; exact ⟨rfl, rfl⟩) rfl ?_
  rintro _ _ ⟨rfl, rfl⟩
  simp only [putBack, List.append_nil]
  refine DW.all1 7 (by kernel_rfl) ?_
  refine DO.call [1] [] rfl (oc_fn cf54 rfl) rfl rfl rfl rfl (Sum16_ok (l := s.take (n + 10)) (by rw [List.length_take]; omega)) (by rintro _ _ ⟨rfl, rfl⟩; exact ⟨rfl, rfl⟩) rfl ?_
  rintro _ _ ⟨rfl, rfl⟩
  simp only [putBack, List.append_nil]
  refine DW.tk 8 [1] rfl (OpV.eq (ov_toU un123 us125 rfl wrap_u64) (congrArg (Value.int .u64) (show ((sum16 (s.take (n + 10))).toNat : Int) % 18446744073709551616 = ((sum16 (s.take (n + 10))).toNat : Int) by omega))) ?_
  refine DW.tk 9 [1] rfl (ov_neq rfl rfl) ?_
  refine DW.done (by kernel_rfl) ?_
  refine KW.thenN ?_
  refine CW.condD (by rfl) (fun hc => ?_) (fun hc => ?_)
  · refine CW.seq ?_
    refine CW.region ?_
    refine LW.v (ov_build zc85 pl85 rfl (.n)) ?_
    refine LW.opU (ou_storeW ta85 rfl rfl .agg rfl rfl (.h (.h (.h (.h (.h (.h (.h (.n)))))))) (.t (.h))) rfl ?_
    refine LW.v (ov_assign rfl) ?_
    refine LW.nil ?_
    refine KW.thenN ?_
    refine CW.ret ?_
    refine KW.thenR ?_
    have hg : getT s = (tf0, 100) := by rw [getT, if_neg hr, hn2, if_pos (by omega)]
    rw [hg]
    exact KW.retF (.cons (ResV.cellA 1 ta85 rfl rfl (.h (.h (.h (.h (.h (.h (.h (.n))))))))) (.cons (.tmp rfl) (.nil))) [] rfl rfl (⟨rfl, rfl⟩)
  have hg : getT s = if numN (s.take 2) % 8 ≠ 0 ∨ ¬ (parT s).ok then (tf0, 6) else (parT s, 0) := by rw [getT, if_neg hr, hn2, if_neg (by omega)]
  have hd2 : numN (s.take 2) < 256 ^ 2 := Nat.lt_of_lt_of_le (numN_lt _) (Nat.pow_le_pow_right (by decide) (by rw [List.length_take]; omega))
  have hd4 : numN ((s.drop 4).take 2) < 256 ^ 2 := Nat.lt_of_lt_of_le (numN_lt _) (Nat.pow_le_pow_right (by decide) (by rw [List.length_take]; omega))
  have hdw : numN ((s.drop (n + 6)).take 4) < 256 ^ 4 := Nat.lt_of_lt_of_le (numN_lt _) (Nat.pow_le_pow_right (by decide) (by rw [List.length_take]; omega))
  have e2 : s[2]? = some (s.getD 2 0) := by rw [List.getD, List.getElem?_eq_getElem (by omega)]; rfl
  have e3 : s[3]? = some (s.getD 3 0) := by rw [List.getD, List.getElem?_eq_getElem (by omega)]; rfl
  have hp : parT s = ⟨(numN (s.take 2) : Int) / 64, (numN (s.take 2) : Int) / 8 % 8, (s.getD 2 0).toNat, (s.getD 3 0).toNat, numN ((s.drop 4).take 2), (s.drop 6).take n, numN ((s.drop (n + 6)).take 4)⟩ := by rw [parT, hn12, hn6]
  have hw : 0 ≤ (parT s).word ∧ (parT s).word < 4294967296 := by rw [hp]; simp only; omega
  have hcb2 := (s.getD 2 0).toNat_lt
  have hcb3 := (s.getD 3 0).toNat_lt
  refine CW.skip ?_
  refine KW.thenN ?_
  refine CW.seq ?_
  refine CW.region ?_
  refine LW.v (ov_move rfl) ?_
  refine LW.v (ov_ssHi un9 rfl rfl (by first | omega | (simp; omega))) ?_
  refine LW.call [] (oc_fn cf53 rfl) rfl rfl rfl rfl (number_ok (l := s.take 2) (by rw [List.length_take]; omega)) ?_
  rintro _ _ ⟨rfl, rfl⟩
  simp only [putBack, List.append_nil]
  refine LW.v (ov_assign rfl) ?_
  refine LW.nil ?_
  refine KW.thenN ?_
  have em : bits2 .and .u64 ((numN (s.take 2) : Int) / 8) 7 = (numN (s.take 2) : Int) / 8 % 8 := by
    have := mask_u64 (x := numN (s.take 2) / 8) (k := 3) (by omega) (by omega)
    rw [show ((numN (s.take 2) / 8 : Nat) : Int) = (numN (s.take 2) : Int) / 8 by omega] at this
    exact this.trans (by omega)
  have em' : bits2 .and .u64 (numN (s.take 2) : Int) 7 = (numN (s.take 2) : Int) % 8 := by
    have := mask_u64 (x := numN (s.take 2)) (k := 3) (by omega) (by omega)
    exact this.trans (by omega)
  refine CW.cut (fun env As => ∃ b7, env = [(0, S s), (2, P1 b2 0), (6, .int .u64 (numN (s.take 2))), (7, P1 b7 0)] ∧ As = [ex g0, row b2 85 [.int .i64 0, .int .i64 0, .int .i64 0, .int .i64 0, .int .i64 0, S [], .int .u32 0], row b7 85 [.int .i64 (parT s).craft, .int .i64 (parT s).chan, .int .i64 (parT s).master, .int .i64 (parT s).count, .int .i64 (parT s).first, S (parT s).data, .int .u32 (parT s).word]]) (fun M hM => ?_) ?_
  · refine CW.draw [1] rfl mixed rfl (ls := #[false, false, false, false, false, false, false, false, false, false, false, false, false, false, false, false, false, false, false, false, false, false, false, false, false, false, false, false, false, false, false, false]) (by kernel_rfl) ?_
    have h10 : n + 10 - (n + 6) = 4 := by omega
    refine DW.tk 0 [1] rfl (ov_move rfl) ?_
    refine DW.tk 1 [1] rfl (ov_shrC (c := 64) rfl rfl (by decide) (by decide) (by decide)) ?_
    first | refine DW.tk 2 [1] rfl (ov_toI64 un3 us123 rfl (by omega)) ?_ | refine DW.tk 2 [1] rfl (ov_toInt un3 us123 rfl) ?_
    refine DW.tk 3 [1] rfl (ov_move rfl) ?_
    refine DW.tk 4 [1] rfl (ov_shrC (c := 8) rfl rfl (by decide) (by decide) (by decide)) ?_
    refine DW.tk 5 [1] rfl (ov_bits (.inl rfl) rfl rfl em) ?_
    first | refine DW.tk 6 [1] rfl (ov_toI64 un3 us123 rfl (by omega)) ?_ | refine DW.tk 6 [1] rfl (ov_toInt un3 us123 rfl) ?_
    refine DW.tk 7 [1] rfl (ov_move rfl) ?_
    refine DW.tk 8 [1] rfl (ov_strIdx (i := 2) un9 rfl rfl rfl e2) ?_
    first | refine DW.tk 9 [1] rfl (ov_toI64 un3 us5 rfl (by omega)) ?_ | refine DW.tk 9 [1] rfl (ov_toInt un3 us5 rfl) ?_
    refine DW.tk 10 [1] rfl (ov_move rfl) ?_
    refine DW.tk 11 [1] rfl (ov_strIdx (i := 3) un9 rfl rfl rfl e3) ?_
    first | refine DW.tk 12 [1] rfl (ov_toI64 un3 us5 rfl (by omega)) ?_ | refine DW.tk 12 [1] rfl (ov_toInt un3 us5 rfl) ?_
    refine DW.tk 13 [1] rfl (ov_move rfl) ?_
    refine DW.tk 14 [1] rfl (ov_strSlice (i := 4) (j := 6) un9 rfl ⟨_, _, rfl, rfl⟩ ⟨_, _, rfl, rfl⟩ (by omega) (by omega)) ?_
    refine DW.tk 17 [1] rfl (ov_move rfl) ?_
    refine DW.tk 18 [1] rfl (ov_move rfl) ?_
    refine DW.tk 19 [1] rfl (OpV.eq (ov_add rfl rfl (by omega)) (congrArg (Value.int .i64) (show 6 + (n : Int) = ((n + 6 : Nat) : Int) by omega))) ?_
    refine DW.tk 20 [1] rfl (ov_strSlice (i := 6) (j := n + 6) un9 rfl ⟨_, _, rfl, rfl⟩ ⟨_, _, rfl, rfl⟩ (by omega) (by omega)) ?_
    refine DW.tk 22 [1] rfl (ov_move rfl) ?_
    refine DW.tk 23 [1] rfl (ov_move rfl) ?_
    refine DW.tk 24 [1] rfl (OpV.eq (ov_add rfl rfl (by omega)) (congrArg (Value.int .i64) (show 6 + (n : Int) = ((n + 6 : Nat) : Int) by omega))) ?_
    refine DW.tk 25 [1] rfl (ov_move rfl) ?_
    refine DW.tk 26 [1] rfl (ov_strSlice (i := n + 6) (j := n + 10) un9 rfl ⟨_, _, rfl, rfl⟩ ⟨_, _, rfl, rfl⟩ (by omega) (by omega)) ?_
    refine DW.all2 15 30 (by kernel_rfl) ?_ ?_
    · refine DO.call [1] [] rfl (oc_fn cf53 rfl) rfl rfl rfl rfl (number_ok (l := (s.drop 4).take 2) (by rw [List.length_take]; omega)) (by rintro _ _ ⟨rfl, rfl⟩; exact ⟨rfl, rfl⟩) rfl ?_
      rintro _ _ ⟨rfl, rfl⟩
      simp only [putBack, List.append_nil]
      first | refine DW.tk 16 [1] rfl (ov_toI64 un3 us123 rfl (by omega)) ?_ | refine DW.tk 16 [1] rfl (ov_toInt un3 us123 rfl) ?_
      refine DW.all2 21 30 (by kernel_rfl) ?_ ?_
      · refine DO.call [1] [] rfl (oc_fn cf31 rfl) rfl rfl rfl rfl (Clone_ok (l := (s.drop 6).take n) (by rw [List.length_take]; omega)) (by rintro _ _ ⟨rfl, rfl⟩; exact ⟨rfl, rfl⟩) rfl ?_
        rintro _ _ ⟨rfl, rfl⟩
        simp only [putBack, List.append_nil]
        refine DW.all2 27 30 (by kernel_rfl) ?_ ?_
        · refine DO.call [1] [] rfl (oc_fn cf53 rfl) rfl rfl rfl rfl (number_ok (l := (s.drop (n + 6)).take (n + 10 - (n + 6))) (by rw [List.length_take]; omega)) (by rintro _ _ ⟨rfl, rfl⟩; exact ⟨rfl, rfl⟩) rfl ?_
          rintro _ _ ⟨rfl, rfl⟩
          simp only [putBack, List.append_nil]
          refine DW.tk 28 [1] rfl (OpV.eq (ov_toU un31 us123 rfl wrap_u32) (congrArg (Value.int .u32) (show ((numN ((s.drop (n + 6)).take (n + 10 - (n + 6))) : Nat) : Int) % 4294967296 = ((numN ((s.drop (n + 6)).take 4) : Nat) : Int) by rw [h10]; omega))) ?_
          refine DW.tk 29 [1] rfl (ov_build zc85 pl85 rfl (.c rfl (.one rfl) rfl (.h (.n)) (.c rfl (.one rfl) rfl (.t (.h (.n))) (.c rfl (.one rfl) rfl (.t (.t (.h (.n)))) (.c rfl (.one rfl) rfl (.t (.t (.t (.h (.n))))) (.c rfl (.one rfl) rfl (.t (.t (.t (.t (.h (.n)))))) (.c rfl (.one rfl) rfl (.t (.t (.t (.t (.t (.h (.n))))))) (.c rfl (.one rfl) rfl (.t (.t (.t (.t (.t (.t (.h (.n)))))))) (.n))))))))) ?_
          refine DW.all1 30 (by kernel_rfl) ?_
          refine DO.opBA [1] rfl (ob_alloc zc85 (fun _ => .c (.c (.n)))) rfl rfl (fun _ => rfl) (fun _ => rfl) rfl (fun b7 => ?_)
          refine DW.all1 31 (by kernel_rfl) ?_
          refine DO.opU [1] rfl (ou_storeW ta85 rfl rfl .agg rfl rfl (.h (.h (.h (.h (.h (.h (.h (.n)))))))) (.t (.t (.h)))) rfl rfl rfl rfl ?_
          refine DW.done (by kernel_rfl) ?_
          refine KW.thenN ?_
          exact KW.meet [0, 1, 2] hM ⟨b7, rfl, rfl⟩ ⟨rfl, rfl, rfl, rfl, trivial⟩ rfl (by rw [hp]; rfl)
        · refine DO.opBA [1] rfl (ob_alloc zc85 (fun _ => .c (.c (.n)))) rfl rfl (fun _ => rfl) (fun _ => rfl) rfl (fun b7 => ?_)
          refine DW.all1 27 (by kernel_rfl) ?_
          refine DO.call [1] [] rfl (oc_fn cf53 rfl) rfl rfl rfl rfl (number_ok (l := (s.drop (n + 6)).take (n + 10 - (n + 6))) (by rw [List.length_take]; omega)) (by rintro _ _ ⟨rfl, rfl⟩; exact ⟨rfl, rfl⟩) rfl ?_
          rintro _ _ ⟨rfl, rfl⟩
          simp only [putBack, List.append_nil]
          refine DW.tk 28 [1] rfl (OpV.eq (ov_toU un31 us123 rfl wrap_u32) (congrArg (Value.int .u32) (show ((numN ((s.drop (n + 6)).take (n + 10 - (n + 6))) : Nat) : Int) % 4294967296 = ((numN ((s.drop (n + 6)).take 4) : Nat) : Int) by rw [h10]; omega))) ?_
          refine DW.tk 29 [1] rfl (ov_build zc85 pl85 rfl (.c rfl (.one rfl) rfl (.h (.n)) (.c rfl (.one rfl) rfl (.t (.h (.n))) (.c rfl (.one rfl) rfl (.t (.t (.h (.n)))) (.c rfl (.one rfl) rfl (.t (.t (.t (.h (.n))))) (.c rfl (.one rfl) rfl (.t (.t (.t (.t (.h (.n)))))) (.c rfl (.one rfl) rfl (.t (.t (.t (.t (.t (.h (.n))))))) (.c rfl (.one rfl) rfl (.t (.t (.t (.t (.t (.t (.h (.n)))))))) (.n))))))))) ?_
          refine DW.all1 31 (by kernel_rfl) ?_
          refine DO.opU [1] rfl (ou_storeW ta85 rfl rfl .agg rfl rfl (.h (.h (.h (.h (.h (.h (.h (.n)))))))) (.t (.t (.h)))) rfl rfl rfl rfl ?_
          refine DW.done (by kernel_rfl) ?_
          refine KW.thenN ?_
          exact KW.meet [0, 1, 2] hM ⟨b7, rfl, rfl⟩ ⟨rfl, rfl, rfl, rfl, trivial⟩ rfl (by rw [hp]; rfl)
      · refine DO.opBA [1] rfl (ob_alloc zc85 (fun _ => .c (.c (.n)))) rfl rfl (fun _ => rfl) (fun _ => rfl) rfl (fun b7 => ?_)
        refine DW.all1 21 (by kernel_rfl) ?_
        refine DO.call [1] [] rfl (oc_fn cf31 rfl) rfl rfl rfl rfl (Clone_ok (l := (s.drop 6).take n) (by rw [List.length_take]; omega)) (by rintro _ _ ⟨rfl, rfl⟩; exact ⟨rfl, rfl⟩) rfl ?_
        rintro _ _ ⟨rfl, rfl⟩
        simp only [putBack, List.append_nil]
        refine DW.all1 27 (by kernel_rfl) ?_
        refine DO.call [1] [] rfl (oc_fn cf53 rfl) rfl rfl rfl rfl (number_ok (l := (s.drop (n + 6)).take (n + 10 - (n + 6))) (by rw [List.length_take]; omega)) (by rintro _ _ ⟨rfl, rfl⟩; exact ⟨rfl, rfl⟩) rfl ?_
        rintro _ _ ⟨rfl, rfl⟩
        simp only [putBack, List.append_nil]
        refine DW.tk 28 [1] rfl (OpV.eq (ov_toU un31 us123 rfl wrap_u32) (congrArg (Value.int .u32) (show ((numN ((s.drop (n + 6)).take (n + 10 - (n + 6))) : Nat) : Int) % 4294967296 = ((numN ((s.drop (n + 6)).take 4) : Nat) : Int) by rw [h10]; omega))) ?_
        refine DW.tk 29 [1] rfl (ov_build zc85 pl85 rfl (.c rfl (.one rfl) rfl (.h (.n)) (.c rfl (.one rfl) rfl (.t (.h (.n))) (.c rfl (.one rfl) rfl (.t (.t (.h (.n)))) (.c rfl (.one rfl) rfl (.t (.t (.t (.h (.n))))) (.c rfl (.one rfl) rfl (.t (.t (.t (.t (.h (.n)))))) (.c rfl (.one rfl) rfl (.t (.t (.t (.t (.t (.h (.n))))))) (.c rfl (.one rfl) rfl (.t (.t (.t (.t (.t (.t (.h (.n)))))))) (.n))))))))) ?_
        refine DW.all1 31 (by kernel_rfl) ?_
        refine DO.opU [1] rfl (ou_storeW ta85 rfl rfl .agg rfl rfl (.h (.h (.h (.h (.h (.h (.h (.n)))))))) (.t (.t (.h)))) rfl rfl rfl rfl ?_
        refine DW.done (by kernel_rfl) ?_
        refine KW.thenN ?_
        exact KW.meet [0, 1, 2] hM ⟨b7, rfl, rfl⟩ ⟨rfl, rfl, rfl, rfl, trivial⟩ rfl (by rw [hp]; rfl)
    · refine DO.opBA [1] rfl (ob_alloc zc85 (fun _ => .c (.c (.n)))) rfl rfl (fun _ => rfl) (fun _ => rfl) rfl (fun b7 => ?_)
      refine DW.all1 15 (by kernel_rfl) ?_
      refine DO.call [1] [] rfl (oc_fn cf53 rfl) rfl rfl rfl rfl (number_ok (l := (s.drop 4).take 2) (by rw [List.length_take]; omega)) (by rintro _ _ ⟨rfl, rfl⟩; exact ⟨rfl, rfl⟩) rfl ?_
      rintro _ _ ⟨rfl, rfl⟩
      simp only [putBack, List.append_nil]
      first | refine DW.tk 16 [1] rfl (ov_toI64 un3 us123 rfl (by omega)) ?_ | refine DW.tk 16 [1] rfl (ov_toInt un3 us123 rfl) ?_
      refine DW.all1 21 (by kernel_rfl) ?_
      refine DO.call [1] [] rfl (oc_fn cf31 rfl) rfl rfl rfl rfl (Clone_ok (l := (s.drop 6).take n) (by rw [List.length_take]; omega)) (by rintro _ _ ⟨rfl, rfl⟩; exact ⟨rfl, rfl⟩) rfl ?_
      rintro _ _ ⟨rfl, rfl⟩
      simp only [putBack, List.append_nil]
      refine DW.all1 27 (by kernel_rfl) ?_
      refine DO.call [1] [] rfl (oc_fn cf53 rfl) rfl rfl rfl rfl (number_ok (l := (s.drop (n + 6)).take (n + 10 - (n + 6))) (by rw [List.length_take]; omega)) (by rintro _ _ ⟨rfl, rfl⟩; exact ⟨rfl, rfl⟩) rfl ?_
      rintro _ _ ⟨rfl, rfl⟩
      simp only [putBack, List.append_nil]
      refine DW.tk 28 [1] rfl (OpV.eq (ov_toU un31 us123 rfl wrap_u32) (congrArg (Value.int .u32) (show ((numN ((s.drop (n + 6)).take (n + 10 - (n + 6))) : Nat) : Int) % 4294967296 = ((numN ((s.drop (n + 6)).take 4) : Nat) : Int) by rw [h10]; omega))) ?_
      refine DW.tk 29 [1] rfl (ov_build zc85 pl85 rfl (.c rfl (.one rfl) rfl (.h (.n)) (.c rfl (.one rfl) rfl (.t (.h (.n))) (.c rfl (.one rfl) rfl (.t (.t (.h (.n)))) (.c rfl (.one rfl) rfl (.t (.t (.t (.h (.n))))) (.c rfl (.one rfl) rfl (.t (.t (.t (.t (.h (.n)))))) (.c rfl (.one rfl) rfl (.t (.t (.t (.t (.t (.h (.n))))))) (.c rfl (.one rfl) rfl (.t (.t (.t (.t (.t (.t (.h (.n)))))))) (.n))))))))) ?_
      refine DW.all1 31 (by kernel_rfl) ?_
      refine DO.opU [1] rfl (ou_storeW ta85 rfl rfl .agg rfl rfl (.h (.h (.h (.h (.h (.h (.h (.n)))))))) (.t (.t (.h)))) rfl rfl rfl rfl ?_
      refine DW.done (by kernel_rfl) ?_
      refine KW.thenN ?_
      exact KW.meet [0, 1, 2] hM ⟨b7, rfl, rfl⟩ ⟨rfl, rfl, rfl, rfl, trivial⟩ rfl (by rw [hp]; rfl)
  rintro _ _ ⟨b7, rfl, rfl⟩
  have em2 : bits2 .and .u64 (numN (s.take 2) : Int) 7 = (numN (s.take 2) : Int) % 8 := em'
  refine CW.seq ?_
  refine CW.seq ?_
  refine CW.region ?_
  refine LW.v (ov_move rfl) ?_
  refine LW.v (ov_bits (.inl rfl) rfl rfl em2) ?_
  refine LW.v (ov_neq rfl rfl) ?_
  refine LW.v (ov_move rfl) ?_
  refine KW.splitD 68 rfl (fun hm => ?_) (fun hm => ?_)
  · refine LW.skip rfl rfl ?_
    refine LW.skip rfl rfl ?_
    refine LW.skip rfl rfl ?_
    first | refine LW.v (ov_pickT rfl rfl) ?_ | refine LW.v (ov_pickF rfl rfl) ?_ | refine LW.v (ov_pick rfl rfl rfl) ?_
    refine LW.nil ?_
    refine KW.thenN ?_
    refine CW.condT rfl rfl ?_
    refine CW.seq ?_
    refine CW.region ?_
    refine LW.v (ov_build zc85 pl85 rfl (.n)) ?_
    refine LW.opU (ou_storeW ta85 rfl rfl .agg rfl rfl (.h (.h (.h (.h (.h (.h (.h (.n)))))))) (.t (.h))) rfl ?_
    refine LW.v (ov_assign rfl) ?_
    refine LW.nil ?_
    refine KW.thenN ?_
    refine CW.ret ?_
    refine KW.thenR ?_
    rw [hg, if_pos (.inl (by omega))]
    exact KW.retF (.cons (ResV.cellA 1 ta85 rfl rfl (.h (.h (.h (.h (.h (.h (.h (.n))))))))) (.cons (.tmp rfl) (.nil))) [] rfl rfl (⟨rfl, rfl⟩)
  · refine LW.v (ov_loadAR 2 ta85 rfl rfl (.h (.h (.h (.h (.h (.h (.h (.n))))))))) ?_
    refine LW.call [] (oc_fn cf55 rfl) rfl rfl rfl rfl (valid_ok (parT s)) ?_
    rintro _ _ ⟨rfl, rfl⟩
    simp only [putBack, List.append_nil]
    refine LW.v (ov_not rfl) ?_
    first | refine LW.v (ov_pickT rfl rfl) ?_ | refine LW.v (ov_pickF rfl rfl) ?_ | refine LW.v (ov_pick rfl rfl rfl) ?_
    refine LW.nil ?_
    refine KW.thenN ?_
    by_cases ho : (parT s).ok
    · refine CW.condF rfl (by simp [ho]) ?_
      refine CW.skip ?_
      refine KW.thenN ?_
      refine CW.seq ?_
      refine CW.region ?_
      refine LW.v (ov_loadAR 2 ta85 rfl rfl (.h (.h (.h (.h (.h (.h (.h (.n))))))))) ?_
      refine LW.opU (ou_storeW ta85 rfl rfl .agg rfl rfl (.h (.h (.h (.h (.h (.h (.h (.n)))))))) (.t (.h))) rfl ?_
      refine LW.v (ov_assign rfl) ?_
      refine LW.nil ?_
      refine KW.thenN ?_
      refine CW.ret ?_
      rw [hg, if_neg (by rintro (q | q); omega; exact q ho)]
      exact KW.retF (.cons (ResV.cellA 1 ta85 rfl rfl (.h (.h (.h (.h (.h (.h (.h (.n))))))))) (.cons (.tmp rfl) (.nil))) [] rfl rfl (⟨rfl, rfl⟩)
    · refine CW.condT rfl (by simp [ho]) ?_
      refine CW.seq ?_
      refine CW.region ?_
      refine LW.v (ov_build zc85 pl85 rfl (.n)) ?_
      refine LW.opU (ou_storeW ta85 rfl rfl .agg rfl rfl (.h (.h (.h (.h (.h (.h (.h (.n)))))))) (.t (.h))) rfl ?_
      refine LW.v (ov_assign rfl) ?_
      refine LW.nil ?_
      refine KW.thenN ?_
      refine CW.ret ?_
      refine KW.thenR ?_
      rw [hg, if_pos (.inr ho)]
      exact KW.retF (.cons (ResV.cellA 1 ta85 rfl rfl (.h (.h (.h (.h (.h (.h (.h (.n))))))))) (.cons (.tmp rfl) (.nil))) [] rfl rfl (⟨rfl, rfl⟩)
end Sx
end Go.Proofs.Ytdgphamhpjnmpaa

/- tmframe: the reference's Get; encodings and frames. -/
namespace Go.Proofs.Ytdgphamhpjnmpaa
namespace Sx

theorem numN_fold (l : List UInt8) : ∀ a, l.foldl (fun a c => a * 256 + c.toNat) a = a * 256 ^ l.length + numN l := by
  induction l with
  | nil => intro a; simp [numN]
  | cons c l ih =>
    intro a
    simp only [List.foldl_cons, List.length_cons, numN]
    rw [ih, ih (0 * 256 + c.toNat), Nat.pow_succ, Nat.zero_mul, Nat.zero_add, Nat.add_mul, Nat.mul_assoc, Nat.mul_comm 256, Nat.add_assoc]
theorem numN_append (a b : List UInt8) : numN (a ++ b) = numN a * 256 ^ b.length + numN b := by
  rw [numN, List.foldl_append, numN_fold]; rfl
theorem numN_cons (c : UInt8) (l : List UInt8) : numN (c :: l) = c.toNat * 256 ^ l.length + numN l := by
  have := numN_append [c] l
  simpa [numN] using this
theorem b8_mod {m n : Int} (h : m % 256 = n % 256) : b8 m = b8 n := by unfold b8; rw [h]
theorem b8_of (c : UInt8) : b8 c.toNat = c := by
  apply UInt8.toNat_inj.1
  have h1 := b8_toNat c.toNat
  have := c.toNat_lt
  omega
theorem beB_add (n m : Int) : ∀ k, beB (n + m * 256 ^ k) k = beB n k := by
  intro k; induction k generalizing m with
  | zero => rfl
  | succ k ih =>
    simp only [beB]
    have e : n + m * 256 ^ (k + 1) = n + (m * 256) * 256 ^ k := by rw [Int.pow_succ, Int.mul_comm (256 ^ k), Int.mul_assoc]
    have hp : (256 : Int) ^ k ≠ 0 := Int.pow_ne_zero (by decide)
    rw [e, ih, Int.add_mul_ediv_right _ _ hp]
    rw [b8_mod (show (n / 256 ^ k + m * 256) % 256 = (n / 256 ^ k) % 256 by omega)]
theorem beB_num (l : List UInt8) : beB (numN l) l.length = l := by
  induction l with
  | nil => rfl
  | cons c l ih =>
    rw [numN_cons, List.length_cons]
    simp only [beB]
    have hp : (0 : Int) < 256 ^ l.length := Int.pow_pos (by decide)
    have hlt : (numN l : Int) < 256 ^ l.length := by
      have := numN_lt l
      rw [show (256 : Int) ^ l.length = ((256 ^ l.length : Nat) : Int) by rw [Int.natCast_pow]; rfl]
      omega
    have e : (((c.toNat * 256 ^ l.length + numN l : Nat)) : Int) = (numN l : Int) + (c.toNat : Int) * 256 ^ l.length := by
      rw [Int.natCast_add, Int.natCast_mul, Int.natCast_pow, Int.add_comm]; rfl
    rw [e, beB_add, ih, Int.add_mul_ediv_right _ _ (by omega), Int.ediv_eq_zero_of_lt (by omega) hlt, Int.zero_add, b8_of]
theorem beB2_inj {a b : Int} (ha : 0 ≤ a ∧ a < 65536) (hb : 0 ≤ b ∧ b < 65536) (h : beB a 2 = beB b 2) : a = b := by
  rw [beB2, beB2] at h
  have h' : [b8 (a / 256), b8 a] = [b8 (b / 256), b8 b] := h
  simp only [List.cons.injEq, and_true] at h'
  have h1 := b8_toNat (a / 256); have h2 := b8_toNat a; have h3 := b8_toNat (b / 256); have h4 := b8_toNat b
  rw [h'.1] at h1; rw [h'.2] at h2
  omega
theorem getD_eq {l : List UInt8} {i : Nat} {c : UInt8} (h : l[i]? = some c) : l.getD i 0 = c := by rw [List.getD, h]; rfl
/-- the parts of a frame's bytes -/
theorem cut_frame {s : List UInt8} {n : Nat} (hn : s.length = n + 12) : s = s.take 2 ++ [s.getD 2 0, s.getD 3 0] ++ (s.drop 4).take 2 ++ (s.drop 6).take n ++ (s.drop (n + 6)).take 4 ++ s.drop (n + 10) := by
  have e2 : s[2]? = some (s.getD 2 0) := by rw [List.getD, List.getElem?_eq_getElem (by omega)]; rfl
  have e3 : s[3]? = some (s.getD 3 0) := by rw [List.getD, List.getElem?_eq_getElem (by omega)]; rfl
  have d1 : s.drop 2 = s.getD 2 0 :: s.getD 3 0 :: s.drop 4 := by
    rw [List.drop_eq_getElem_cons (by omega), List.drop_eq_getElem_cons (i := 3) (by omega)]
    rw [List.getElem?_eq_getElem (by omega)] at e2 e3
    simp only [Option.some.injEq] at e2 e3
    rw [← e2, ← e3]
  have d2 : s.drop 4 = (s.drop 4).take 2 ++ s.drop 6 := by
    have := (List.take_append_drop 2 (s.drop 4)).symm
    rwa [List.drop_drop] at this
  have d3 : s.drop 6 = (s.drop 6).take n ++ s.drop (n + 6) := by
    have := (List.take_append_drop n (s.drop 6)).symm
    rwa [List.drop_drop, Nat.add_comm 6 n] at this
  have d4 : s.drop (n + 6) = (s.drop (n + 6)).take 4 ++ s.drop (n + 10) := by
    have := (List.take_append_drop 4 (s.drop (n + 6))).symm
    rwa [List.drop_drop] at this
  have h0 := (List.take_append_drop 2 s).symm
  rw [d1, d2, d3, d4] at h0
  refine h0.trans ?_
  simp only [List.append_assoc, List.cons_append, List.nil_append]
theorem enc_par {s : List UInt8} {n : Nat} (hn : s.length = n + 12) (hok : (parT s).ok) (hc : numN (s.drop (n + 10)) = (sum16 (s.take (n + 10))).toNat) : encF (parT s) = s ↔ numN (s.take 2) % 8 = 0 := by
  have hn12 : s.length - 12 = n := by omega
  have hn6 : s.length - 6 = n + 6 := by omega
  have hcut := cut_frame hn
  have l1 : (s.take 2).length = 2 := by rw [List.length_take]; omega
  have l2 : ((s.drop 4).take 2).length = 2 := by rw [List.length_take, List.length_drop]; omega
  have l3 : ((s.drop (n + 6)).take 4).length = 4 := by rw [List.length_take, List.length_drop]; omega
  have l4 : (s.drop (n + 10)).length = 2 := by rw [List.length_drop]; omega
  have hhd : numN (s.take 2) < 65536 := by have := numN_lt (s.take 2); rw [l1] at this; exact this
  obtain ⟨h1, h2, h3, h4, h5, h6, h7, h8, _⟩ := id hok
  have r1 := beB_num (s.take 2); rw [l1] at r1
  have r2 := beB_num ((s.drop 4).take 2); rw [l2] at r2
  have r3 := beB_num ((s.drop (n + 6)).take 4); rw [l3] at r3
  have r4 := beB_num (s.drop (n + 10)); rw [l4] at r4
  have hpre : preF (parT s) = beB ((parT s).craft * 64 + (parT s).chan * 8) 2 ++ [s.getD 2 0, s.getD 3 0] ++ (s.drop 4).take 2 := by
    show _ ++ [b8 ((s.getD 2 0).toNat : Int), b8 ((s.getD 3 0).toNat : Int)] ++ beB (numN ((s.drop 4).take 2)) 2 = _
    rw [b8_of, b8_of, r2]
  have hbody : bodyF (parT s) = beB ((parT s).craft * 64 + (parT s).chan * 8) 2 ++ [s.getD 2 0, s.getD 3 0] ++ (s.drop 4).take 2 ++ (s.drop 6).take n ++ (s.drop (n + 6)).take 4 := by
    rw [bodyF, hpre]
    show _ ++ (s.drop 6).take (s.length - 12) ++ beB (numN ((s.drop (s.length - 6)).take 4)) 4 = _
    rw [hn12, hn6, r3]
  have hcr : (parT s).craft * 64 + (parT s).chan * 8 = (numN (s.take 2) : Int) / 64 * 64 + (numN (s.take 2) : Int) / 8 % 8 * 8 := rfl
  have htk : s.take (n + 10) = s.take 2 ++ [s.getD 2 0, s.getD 3 0] ++ (s.drop 4).take 2 ++ (s.drop 6).take n ++ (s.drop (n + 6)).take 4 := by
    have h0 := (List.take_append_drop (n + 10) s)
    have h1 := h0.trans hcut
    exact List.append_cancel_right h1
  constructor
  · intro h
    have h' := h
    rw [encF, hbody] at h'
    have := h'.trans hcut
    simp only [List.append_assoc] at this
    have h2 := (List.append_inj this (by rw [beB_len, l1])).1
    rw [← r1] at h2
    have := beB2_inj (by rw [hcr]; omega) (by omega) h2
    rw [hcr] at this
    omega
  · intro h
    have e : beB ((parT s).craft * 64 + (parT s).chan * 8) 2 = s.take 2 := by
      rw [hcr, show (numN (s.take 2) : Int) / 64 * 64 + (numN (s.take 2) : Int) / 8 % 8 * 8 = numN (s.take 2) by omega, r1]
    rw [e, ← htk] at hbody
    rw [encF, hbody, ← hc, r4, List.take_append_drop]

theorem rnumber_ok {l : List UInt8} (hl : l.length = 2) : Fn Try.prog 61 #[S l] [] (Ret fun v Q => v = .int .i64 (numN l) ∧ Q = []) := by
  obtain ⟨a, b, rfl⟩ : ∃ a b, l = [a, b] := by
    match l, hl with
    | [a, b], _ => exact ⟨a, b, rfl⟩
  have ha := a.toNat_lt
  have hb := b.toNat_lt
  refine Fn.of (args := _) Try.func61 rfl Try.ntmps61 rfl ?_
  intro w0 g0
  refine CW.seq ?_
  refine CW.region ?_
  refine LW.v (ov_assign rfl) ?_
  refine LW.nil ?_
  refine KW.thenN ?_
  refine CW.seq ?_
  refine CW.draw [] rfl mixed rfl (ls := #[false, false, false, false, false, false, false, false, false]) (by kernel_rfl) ?_
  refine DW.tk 0 [] rfl (ov_move rfl) ?_
  refine DW.tk 1 [] rfl (ov_strIdx (i := 0) (c := a) un9 rfl rfl rfl rfl) ?_
  first | refine DW.tk 2 [] rfl (ov_toI64 un3 us5 rfl (by omega)) ?_ | refine DW.tk 2 [] rfl (ov_toInt un3 us5 rfl) ?_
  first | refine DW.tk 3 [] rfl (ov_mul rfl rfl (by omega)) ?_ | refine DW.tk 3 [] rfl (ov_mulW rfl rfl) ?_
  refine DW.tk 4 [] rfl (ov_move rfl) ?_
  refine DW.tk 5 [] rfl (ov_strIdx (i := 1) (c := b) un9 rfl rfl rfl rfl) ?_
  first | refine DW.tk 6 [] rfl (ov_toI64 un3 us5 rfl (by omega)) ?_ | refine DW.tk 6 [] rfl (ov_toInt un3 us5 rfl) ?_
  first | refine DW.tk 7 [] rfl (ov_add rfl rfl (by omega)) ?_ | refine DW.tk 7 [] rfl (ov_addW rfl rfl) ?_
  refine DW.tk 8 [] rfl (ov_assign rfl) ?_
  refine DW.done (by kernel_rfl) ?_
  refine KW.thenN ?_
  refine CW.ret ?_
  exact KW.retF (.cons (.tmp rfl) (.nil)) [] rfl rfl (⟨congrArg (Value.int .i64) (by simp [numN]), rfl⟩)
theorem RGet_ok {s : List UInt8} (hl : s.length ≤ 1000000000) : Fn Try.prog 33 #[S s] [] (Ret fun v Q => v = .tuple #[tfv (getT s).1, .int .i64 (getT s).2] ∧ Q = []) := by
  refine Fn.of (args := _) Try.func33 rfl Try.ntmps33 rfl ?_
  intro w0 g0
  by_cases hr : s.length < 44 ∨ 212 < s.length
  · have hg : getT s = (tf0, 6) := by rw [getT, if_pos hr]
    rw [hg]
    refine CW.seq ?_
    refine CW.region ?_
    refine LW.opBA (ob_alloc zc85 (fun _ => .c (.n))) rfl rfl (fun b2 => ?_)
    refine LW.v (ov_assign rfl) ?_
    refine LW.nil ?_
    refine KW.thenN ?_
    refine CW.seq ?_
    refine CW.seq ?_
    refine CW.region ?_
    refine LW.v (ov_move rfl) ?_
    refine LW.v (ov_lenS un9 rfl) ?_
    refine LW.v (ov_lss rfl rfl) ?_
    refine LW.v (ov_move rfl) ?_
    first | refine KW.splitD 12 rfl (fun h12 => ?_) (fun h12 => ?_) | refine KW.split 12 rfl (fun h12 => ?_) (fun h12 => ?_)
    · refine LW.skip rfl rfl ?_
      refine LW.skip rfl rfl ?_
      refine LW.skip rfl rfl ?_
      first | refine LW.v (ov_pickT rfl rfl) ?_ | refine LW.v (ov_pickF rfl rfl) ?_ | refine LW.v (ov_pick rfl rfl rfl) ?_
      refine LW.nil ?_
      refine KW.thenN ?_
      refine CW.condT rfl rfl ?_
      refine CW.seq ?_
      refine CW.region ?_
      refine LW.v (ov_build zc85 pl85 rfl (.n)) ?_
      refine LW.opU (ou_storeW ta85 rfl rfl .agg rfl rfl (.h (.h (.h (.h (.h (.h (.h (.n)))))))) (.t (.h))) rfl ?_
      refine LW.v (ov_assign rfl) ?_
      refine LW.nil ?_
      refine KW.thenN ?_
      refine CW.ret ?_
      refine KW.thenR ?_
      first | (exfalso; omega) | exact KW.retF (.cons (ResV.cellA 1 ta85 rfl rfl (.h (.h (.h (.h (.h (.h (.h .n)))))))) (.cons (.tmp rfl) .nil)) [] rfl rfl ⟨rfl, rfl⟩
    · refine LW.v (ov_move rfl) ?_
      refine LW.v (ov_lenS un9 rfl) ?_
      refine LW.v (ov_gtr rfl rfl) ?_
      first | refine LW.v (ov_pickT rfl rfl) ?_ | refine LW.v (ov_pickF rfl rfl) ?_ | refine LW.v (ov_pick rfl rfl rfl) ?_
      refine LW.nil ?_
      refine KW.thenN ?_
      first | refine KW.splitD 16 rfl (fun h16 => ?_) (fun h16 => ?_) | refine KW.split 16 rfl (fun h16 => ?_) (fun h16 => ?_)
      · refine CW.condT rfl rfl ?_
        refine CW.seq ?_
        refine CW.region ?_
        refine LW.v (ov_build zc85 pl85 rfl (.n)) ?_
        refine LW.opU (ou_storeW ta85 rfl rfl .agg rfl rfl (.h (.h (.h (.h (.h (.h (.h (.n)))))))) (.t (.h))) rfl ?_
        refine LW.v (ov_assign rfl) ?_
        refine LW.nil ?_
        refine KW.thenN ?_
        refine CW.ret ?_
        refine KW.thenR ?_
        first | (exfalso; omega) | exact KW.retF (.cons (ResV.cellA 1 ta85 rfl rfl (.h (.h (.h (.h (.h (.h (.h .n)))))))) (.cons (.tmp rfl) .nil)) [] rfl rfl ⟨rfl, rfl⟩
      · refine CW.condF rfl rfl ?_
        refine CW.skip ?_
        refine KW.thenN ?_
        refine CW.seq ?_
        refine CW.region ?_
        refine LW.v (ov_move rfl) ?_
        refine LW.v (ov_lenS un9 rfl) ?_
        first | refine LW.v (ov_sub rfl rfl (by omega)) ?_ | refine LW.v (ov_subW rfl rfl) ?_
        refine LW.v (ov_assign rfl) ?_
        refine LW.nil ?_
        refine KW.thenN ?_
        refine CW.seq ?_
        refine CW.seq ?_
        first | (exfalso; omega) | exact KW.retF (.cons (ResV.cellA 1 ta85 rfl rfl (.h (.h (.h (.h (.h (.h (.h .n)))))))) (.cons (.tmp rfl) .nil)) [] rfl rfl ⟨rfl, rfl⟩
  obtain ⟨n, hn⟩ : ∃ n, s.length = n + 12 := ⟨s.length - 12, by omega⟩
  have hn12 : s.length - 12 = n := by omega
  have hn2 : s.length - 2 = n + 10 := by omega
  have hn6 : s.length - 6 = n + 6 := by omega
  refine CW.seq ?_
  refine CW.region ?_
  refine LW.opBA (ob_alloc zc85 (fun _ => .c (.n))) rfl rfl (fun b2 => ?_)
  refine LW.v (ov_assign rfl) ?_
  refine LW.nil ?_
  refine KW.thenN ?_
  refine CW.seq ?_
  refine CW.seq ?_
  refine CW.region ?_
  refine LW.v (ov_move rfl) ?_
  refine LW.v (ov_lenS un9 rfl) ?_
  refine LW.v (OpV.eq (ov_lss rfl rfl) (congrArg Value.bool (decide_eq_false (by first | omega | assumption)))) ?_
  refine LW.v (ov_move rfl) ?_
  refine LW.v (ov_move rfl) ?_
  refine LW.v (ov_lenS un9 rfl) ?_
  refine LW.v (OpV.eq (ov_gtr rfl rfl) (congrArg Value.bool (decide_eq_false (by first | omega | assumption)))) ?_
  first | refine LW.v (ov_pickT rfl rfl) ?_ | refine LW.v (ov_pickF rfl rfl) ?_ | refine LW.v (ov_pick rfl rfl rfl) ?_
  refine LW.nil ?_
  refine KW.thenN ?_
  refine CW.condF rfl rfl ?_
  refine CW.skip ?_
  refine KW.thenN ?_
  refine CW.seq ?_
  refine CW.region ?_
  refine LW.v (ov_move rfl) ?_
  refine LW.v (ov_lenS un9 rfl) ?_
  refine LW.v (OpV.eq (ov_sub rfl rfl (by omega)) (congrArg (Value.int .i64) (show (s.length : Int) - 2 = ((n + 10 : Nat) : Int) by omega))) ?_
  refine LW.v (ov_assign rfl) ?_
  refine LW.nil ?_
  refine KW.thenN ?_
  refine CW.seq ?_
  refine CW.seq ?_
  refine CW.draw [1] rfl mixed rfl (ls := #[false, false, false, false, false, false, false, false, false, false]) (by kernel_rfl) ?_
  have hs := (sum16 (s.take (n + 10))).isLt
  refine DW.tk 0 [1] rfl (ov_move rfl) ?_
  refine DW.tk 1 [1] rfl (ov_move rfl) ?_
  refine DW.tk 2 [1] rfl (OpV.eq (ov_ssLo un9 rfl rfl (by omega)) (congrArg S (show _ = s.drop (n + 10) by rw [Int.toNat_natCast]))) ?_
  refine DW.tk 4 [1] rfl (ov_move rfl) ?_
  refine DW.tk 5 [1] rfl (ov_move rfl) ?_
  refine DW.tk 6 [1] rfl (OpV.eq (ov_ssHi un9 rfl rfl (by omega)) (congrArg S (show _ = s.take (n + 10) by rw [Int.toNat_natCast]))) ?_
  refine DW.all1 3 (by kernel_rfl) ?_
  refine DO.call [1] [] rfl (oc_fn cf61 rfl) rfl rfl rfl rfl (rnumber_ok (l := s.drop (n + 10)) (by rw [List.length_drop]; omega)) (by rintro _ _ ⟨rfl, rfl⟩; exact ⟨rfl, rfl⟩) rfl ?_
  rintro _ _ ⟨rfl, rfl⟩
  simp only [putBack, List.append_nil]
  refine DW.all1 7 (by kernel_rfl) ?_
  refine DO.call [1] [] rfl (oc_fn cf62 rfl) rfl rfl rfl rfl (RSum16_ok (l := s.take (n + 10)) (by rw [List.length_take]; omega)) (by rintro _ _ ⟨rfl, rfl⟩; exact ⟨rfl, rfl⟩) rfl ?_
  rintro _ _ ⟨rfl, rfl⟩
  simp only [putBack, List.append_nil]
  first | refine DW.tk 8 [1] rfl (ov_toI64 un3 us125 rfl (by omega)) ?_ | refine DW.tk 8 [1] rfl (ov_toInt un3 us125 rfl) ?_
  refine DW.tk 9 [1] rfl (ov_neq rfl rfl) ?_
  refine DW.done (by kernel_rfl) ?_
  refine KW.thenN ?_
  refine CW.condD (by rfl) (fun hc => ?_) (fun hc => ?_)
  · refine CW.seq ?_
    refine CW.region ?_
    refine LW.v (ov_build zc85 pl85 rfl (.n)) ?_
    refine LW.opU (ou_storeW ta85 rfl rfl .agg rfl rfl (.h (.h (.h (.h (.h (.h (.h (.n)))))))) (.t (.h))) rfl ?_
    refine LW.v (ov_assign rfl) ?_
    refine LW.nil ?_
    refine KW.thenN ?_
    refine CW.ret ?_
    refine KW.thenR ?_
    have hg : getT s = (tf0, 100) := by rw [getT, if_neg hr, hn2, if_pos (by omega)]
    rw [hg]
    exact KW.retF (.cons (ResV.cellA 1 ta85 rfl rfl (.h (.h (.h (.h (.h (.h (.h (.n))))))))) (.cons (.tmp rfl) (.nil))) [] rfl rfl (⟨rfl, rfl⟩)
  have hc' : numN (s.drop (n + 10)) = (sum16 (s.take (n + 10))).toNat := by omega
  have hg : getT s = if numN (s.take 2) % 8 ≠ 0 ∨ ¬ (parT s).ok then (tf0, 6) else (parT s, 0) := by rw [getT, if_neg hr, hn2, if_neg (by omega)]
  have l1 : (s.take 2).length = 2 := by rw [List.length_take]; omega
  have l2 : ((s.drop 4).take 2).length = 2 := by rw [List.length_take, List.length_drop]; omega
  have l3 : ((s.drop (n + 6)).take 2).length = 2 := by rw [List.length_take, List.length_drop]; omega
  have l4 : ((s.drop (n + 8)).take 2).length = 2 := by rw [List.length_take, List.length_drop]; omega
  have hd2 : numN (s.take 2) < 256 ^ 2 := by have := numN_lt (s.take 2); rwa [l1] at this
  have hd4 : numN ((s.drop 4).take 2) < 256 ^ 2 := by have := numN_lt ((s.drop 4).take 2); rwa [l2] at this
  have hw1 : numN ((s.drop (n + 6)).take 2) < 256 ^ 2 := by have := numN_lt ((s.drop (n + 6)).take 2); rwa [l3] at this
  have hw2 : numN ((s.drop (n + 8)).take 2) < 256 ^ 2 := by have := numN_lt ((s.drop (n + 8)).take 2); rwa [l4] at this
  have hww : numN ((s.drop (n + 6)).take 4) = numN ((s.drop (n + 6)).take 2) * 65536 + numN ((s.drop (n + 8)).take 2) := by
    have : (s.drop (n + 6)).take 4 = (s.drop (n + 6)).take 2 ++ (s.drop (n + 8)).take 2 := by
      rw [show s.drop (n + 8) = (s.drop (n + 6)).drop 2 by rw [List.drop_drop], ← List.take_add]
    rw [this, numN_append, l4]
  have e2 : s[2]? = some (s.getD 2 0) := by rw [List.getD, List.getElem?_eq_getElem (by omega)]; rfl
  have e3 : s[3]? = some (s.getD 3 0) := by rw [List.getD, List.getElem?_eq_getElem (by omega)]; rfl
  have hp : parT s = ⟨(numN (s.take 2) : Int) / 64, (numN (s.take 2) : Int) / 8 % 8, (s.getD 2 0).toNat, (s.getD 3 0).toNat, numN ((s.drop 4).take 2), (s.drop 6).take n, numN ((s.drop (n + 6)).take 4)⟩ := by rw [parT, hn12, hn6]
  have hw : 0 ≤ (parT s).word ∧ (parT s).word < 4294967296 := by rw [hp]; simp only; omega
  have hcb2 := (s.getD 2 0).toNat_lt
  have hcb3 := (s.getD 3 0).toNat_lt
  refine CW.skip ?_
  refine KW.thenN ?_
  refine CW.seq ?_
  refine CW.region ?_
  refine LW.v (ov_move rfl) ?_
  refine LW.v (ov_strSlice (i := 0) (j := 2) un9 rfl ⟨_, _, rfl, rfl⟩ ⟨_, _, rfl, rfl⟩ (by omega) (by omega)) ?_
  refine LW.call [] (oc_fn cf61 rfl) rfl rfl rfl rfl (rnumber_ok (l := s.take 2) l1) ?_
  rintro _ _ ⟨rfl, rfl⟩
  simp only [putBack, List.append_nil]
  refine LW.v (ov_assign rfl) ?_
  refine LW.nil ?_
  refine KW.thenN ?_
  refine CW.cut (fun env As => ∃ b6, env = [(0, S s), (2, P1 b2 0), (4, .int .i64 ((n + 10 : Nat) : Int)), (6, P1 b6 0)] ∧ As = [ex g0, row b2 85 [.int .i64 0, .int .i64 0, .int .i64 0, .int .i64 0, .int .i64 0, S [], .int .u32 0], row b6 85 [.int .i64 (parT s).craft, .int .i64 (parT s).chan, .int .i64 (parT s).master, .int .i64 (parT s).count, .int .i64 (parT s).first, S (parT s).data, .int .u32 0]]) (fun M hM => ?_) ?_
  · refine CW.draw [1] rfl mixed rfl (ls := #[false, false, false, false, false, false, false, false, false, false, false, false, false, false, false, false, false, false, false, false, false]) (by kernel_rfl) ?_
    refine DW.tk 0 [1] rfl (ov_move rfl) ?_
    first | refine DW.tk 1 [1] rfl (ov_quo rfl rfl (by omega) (by omega)) ?_ | refine DW.tk 1 [1] rfl (ov_quoW rfl rfl (by omega)) ?_
    refine DW.tk 2 [1] rfl (ov_move rfl) ?_
    first | refine DW.tk 3 [1] rfl (ov_quo rfl rfl (by omega) (by omega)) ?_ | refine DW.tk 3 [1] rfl (ov_quoW rfl rfl (by omega)) ?_
    first | refine DW.tk 4 [1] rfl (ov_rem rfl rfl (by omega) (by omega)) ?_ | refine DW.tk 4 [1] rfl (ov_remW rfl rfl (by omega)) ?_
    refine DW.tk 5 [1] rfl (ov_move rfl) ?_
    refine DW.tk 6 [1] rfl (ov_strIdx (i := 2) un9 rfl rfl rfl e2) ?_
    first | refine DW.tk 7 [1] rfl (ov_toI64 un3 us5 rfl (by omega)) ?_ | refine DW.tk 7 [1] rfl (ov_toInt un3 us5 rfl) ?_
    refine DW.tk 8 [1] rfl (ov_move rfl) ?_
    refine DW.tk 9 [1] rfl (ov_strIdx (i := 3) un9 rfl rfl rfl e3) ?_
    first | refine DW.tk 10 [1] rfl (ov_toI64 un3 us5 rfl (by omega)) ?_ | refine DW.tk 10 [1] rfl (ov_toInt un3 us5 rfl) ?_
    refine DW.tk 11 [1] rfl (ov_move rfl) ?_
    refine DW.tk 12 [1] rfl (ov_strSlice (i := 4) (j := 6) un9 rfl ⟨_, _, rfl, rfl⟩ ⟨_, _, rfl, rfl⟩ (by omega) (by omega)) ?_
    refine DW.tk 14 [1] rfl (ov_move rfl) ?_
    refine DW.tk 15 [1] rfl (ov_move rfl) ?_
    refine DW.tk 16 [1] rfl (OpV.eq (ov_sub rfl rfl (by omega)) (congrArg (Value.int .i64) (show ((n + 10 : Nat) : Int) - 4 = ((n + 6 : Nat) : Int) by omega))) ?_
    refine DW.tk 17 [1] rfl (ov_strSlice (i := 6) (j := n + 6) un9 rfl ⟨_, _, rfl, rfl⟩ ⟨_, _, rfl, rfl⟩ (by omega) (by omega)) ?_
    refine DW.all2 13 19 (by kernel_rfl) ?_ ?_
    · refine DO.call [1] [] rfl (oc_fn cf61 rfl) rfl rfl rfl rfl (rnumber_ok (l := (s.drop 4).take 2) l2) (by rintro _ _ ⟨rfl, rfl⟩; exact ⟨rfl, rfl⟩) rfl ?_
      rintro _ _ ⟨rfl, rfl⟩
      simp only [putBack, List.append_nil]
      refine DW.tk 18 [1] rfl (ov_build zc85 pl85 rfl (.c rfl (.one rfl) rfl (.h (.n)) (.c rfl (.one rfl) rfl (.t (.h (.n))) (.c rfl (.one rfl) rfl (.t (.t (.h (.n)))) (.c rfl (.one rfl) rfl (.t (.t (.t (.h (.n))))) (.c rfl (.one rfl) rfl (.t (.t (.t (.t (.h (.n)))))) (.c rfl (.one rfl) rfl (.t (.t (.t (.t (.t (.h (.n))))))) (.n)))))))) ?_
      refine DW.all1 19 (by kernel_rfl) ?_
      refine DO.opBA [1] rfl (ob_alloc zc85 (fun _ => .c (.c (.n)))) rfl rfl (fun _ => rfl) (fun _ => rfl) rfl (fun b6 => ?_)
      refine DW.all1 20 (by kernel_rfl) ?_
      refine DO.opU [1] rfl (ou_storeW ta85 rfl rfl .agg rfl rfl (.h (.h (.h (.h (.h (.h (.h (.n)))))))) (.t (.t (.h)))) rfl rfl rfl rfl ?_
      refine DW.done (by kernel_rfl) ?_
      refine KW.thenN ?_
      exact KW.meet [0, 1, 2] hM ⟨b6, rfl, rfl⟩ ⟨rfl, rfl, rfl, rfl, trivial⟩ rfl (by rw [hp]; rfl)
    · refine DO.opBA [1] rfl (ob_alloc zc85 (fun _ => .c (.c (.n)))) rfl rfl (fun _ => rfl) (fun _ => rfl) rfl (fun b6 => ?_)
      refine DW.all1 13 (by kernel_rfl) ?_
      refine DO.call [1] [] rfl (oc_fn cf61 rfl) rfl rfl rfl rfl (rnumber_ok (l := (s.drop 4).take 2) l2) (by rintro _ _ ⟨rfl, rfl⟩; exact ⟨rfl, rfl⟩) rfl ?_
      rintro _ _ ⟨rfl, rfl⟩
      simp only [putBack, List.append_nil]
      refine DW.tk 18 [1] rfl (ov_build zc85 pl85 rfl (.c rfl (.one rfl) rfl (.h (.n)) (.c rfl (.one rfl) rfl (.t (.h (.n))) (.c rfl (.one rfl) rfl (.t (.t (.h (.n)))) (.c rfl (.one rfl) rfl (.t (.t (.t (.h (.n))))) (.c rfl (.one rfl) rfl (.t (.t (.t (.t (.h (.n)))))) (.c rfl (.one rfl) rfl (.t (.t (.t (.t (.t (.h (.n))))))) (.n)))))))) ?_
      refine DW.all1 20 (by kernel_rfl) ?_
      refine DO.opU [1] rfl (ou_storeW ta85 rfl rfl .agg rfl rfl (.h (.h (.h (.h (.h (.h (.h (.n)))))))) (.t (.t (.h)))) rfl rfl rfl rfl ?_
      refine DW.done (by kernel_rfl) ?_
      refine KW.thenN ?_
      exact KW.meet [0, 1, 2] hM ⟨b6, rfl, rfl⟩ ⟨rfl, rfl, rfl, rfl, trivial⟩ rfl (by rw [hp]; rfl)
  rintro _ _ ⟨b6, rfl, rfl⟩
  refine CW.seq ?_
  refine CW.draw [1] rfl mixed rfl (ls := #[false, false, false, false, false, false, false, false, false, false, false, false, false, false, false, false, false, false, false]) (by kernel_rfl) ?_
  have h8 : n + 8 - (n + 6) = 2 := by omega
  have h10 : n + 10 - (n + 8) = 2 := by omega
  refine DW.tk 0 [1] rfl (ov_move rfl) ?_
  refine DW.tk 1 [1] rfl (ov_move rfl) ?_
  refine DW.tk 2 [1] rfl (OpV.eq (ov_sub rfl rfl (by omega)) (congrArg (Value.int .i64) (show ((n + 10 : Nat) : Int) - 4 = ((n + 6 : Nat) : Int) by omega))) ?_
  refine DW.tk 3 [1] rfl (ov_move rfl) ?_
  refine DW.tk 4 [1] rfl (OpV.eq (ov_sub rfl rfl (by omega)) (congrArg (Value.int .i64) (show ((n + 10 : Nat) : Int) - 2 = ((n + 8 : Nat) : Int) by omega))) ?_
  refine DW.tk 5 [1] rfl (OpV.eq (ov_strSlice (i := n + 6) (j := n + 8) un9 rfl ⟨_, _, rfl, rfl⟩ ⟨_, _, rfl, rfl⟩ (by omega) (by omega)) (congrArg S (show _ = (s.drop (n + 6)).take 2 by rw [h8]))) ?_
  refine DW.tk 9 [1] rfl (ov_move rfl) ?_
  refine DW.tk 10 [1] rfl (ov_move rfl) ?_
  refine DW.tk 11 [1] rfl (OpV.eq (ov_sub rfl rfl (by omega)) (congrArg (Value.int .i64) (show ((n + 10 : Nat) : Int) - 2 = ((n + 8 : Nat) : Int) by omega))) ?_
  refine DW.tk 12 [1] rfl (ov_move rfl) ?_
  refine DW.tk 13 [1] rfl (OpV.eq (ov_strSlice (i := n + 8) (j := n + 10) un9 rfl ⟨_, _, rfl, rfl⟩ ⟨_, _, rfl, rfl⟩ (by omega) (by omega)) (congrArg S (show _ = (s.drop (n + 8)).take 2 by rw [h10]))) ?_
  refine DW.all1 6 (by kernel_rfl) ?_
  refine DO.call [1] [] rfl (oc_fn cf61 rfl) rfl rfl rfl rfl (rnumber_ok (l := (s.drop (n + 6)).take 2) l3) (by rintro _ _ ⟨rfl, rfl⟩; exact ⟨rfl, rfl⟩) rfl ?_
  rintro _ _ ⟨rfl, rfl⟩
  simp only [putBack, List.append_nil]
  refine DW.tk 7 [1] rfl (ov_toU un31 us3 rfl wrap_u32) ?_
  refine DW.tk 8 [1] rfl (ov_mulW rfl rfl) ?_
  refine DW.all1 14 (by kernel_rfl) ?_
  refine DO.call [1] [] rfl (oc_fn cf61 rfl) rfl rfl rfl rfl (rnumber_ok (l := (s.drop (n + 8)).take 2) l4) (by rintro _ _ ⟨rfl, rfl⟩; exact ⟨rfl, rfl⟩) rfl ?_
  rintro _ _ ⟨rfl, rfl⟩
  simp only [putBack, List.append_nil]
  refine DW.tk 15 [1] rfl (ov_toU un31 us3 rfl wrap_u32) ?_
  refine DW.tk 16 [1] rfl (OpV.eq (ov_addW rfl rfl) (congrArg (Value.int .u32) (show IntKind.u32.wrap (IntKind.u32.wrap (((numN ((s.drop (n + 6)).take 2) : Nat) : Int) % 4294967296 * 65536) + ((numN ((s.drop (n + 8)).take 2) : Nat) : Int) % 4294967296) = (parT s).word by rw [hp]; simp only [wrap_u32, hww]; omega))) ?_
  refine DW.tk 17 [1] rfl (ov_fieldAddr fo85_6 rfl) ?_
  refine DW.all1 18 (by kernel_rfl) ?_
  refine DO.opU [1] rfl (ou_storeW ta31 rfl rfl (.one rfl) rfl rfl (.t (.t (.t (.t (.t (.t (.h (.n)))))))) (.t (.t (.h)))) rfl rfl rfl rfl ?_
  refine DW.done (by kernel_rfl) ?_
  refine KW.thenN ?_
  refine CW.seq ?_
  refine CW.region ?_
  refine LW.v (ov_loadAR 2 ta85 rfl rfl (.h (.h (.h (.h (.h (.h (.h (.n))))))))) ?_
  by_cases ho : (parT s).ok
  · have hput := RPut_ok (parT s) hw
    rw [if_pos ho] at hput
    have hlaw := enc_par hn ho hc'
    refine LW.call [] (oc_fn cf51 rfl) rfl rfl rfl rfl (hput) ?_
    rintro _ _ ⟨rfl, rfl⟩
    simp only [putBack, List.append_nil]
    refine LW.v (ov_move rfl) ?_
    refine LW.v (ov_extract rfl rfl) ?_
    refine LW.v (ov_extract rfl rfl) ?_
    refine LW.v (ov_assign rfl) ?_
    refine LW.v (ov_assign rfl) ?_
    refine LW.nil ?_
    refine KW.thenN ?_
    refine CW.seq ?_
    refine CW.seq ?_
    refine CW.region ?_
    refine LW.v (ov_move rfl) ?_
    refine LW.v (OpV.eq (ov_neq rfl rfl) (congrArg Value.bool (decide_eq_false (by first | omega | assumption)))) ?_
    refine LW.v (ov_move rfl) ?_
    refine LW.v (ov_move rfl) ?_
    refine LW.v (ov_move rfl) ?_
    refine LW.v (ov_strNeq rfl rfl) ?_
    first | refine LW.v (ov_pickT rfl rfl) ?_ | refine LW.v (ov_pickF rfl rfl) ?_ | refine LW.v (ov_pick rfl rfl rfl) ?_
    refine LW.nil ?_
    refine KW.thenN ?_
    refine CW.condD (by rfl) (fun h => ?_) (fun h => ?_)
    · refine CW.seq ?_
      refine CW.region ?_
      refine LW.v (ov_build zc85 pl85 rfl (.n)) ?_
      refine LW.opU (ou_storeW ta85 rfl rfl .agg rfl rfl (.h (.h (.h (.h (.h (.h (.h (.n)))))))) (.t (.h))) rfl ?_
      refine LW.v (ov_assign rfl) ?_
      refine LW.nil ?_
      refine KW.thenN ?_
      refine CW.ret ?_
      refine KW.thenR ?_
      rw [hg, if_pos (.inl (fun q => h (hlaw.2 q)))]
      exact KW.retF (.cons (ResV.cellA 1 ta85 rfl rfl (.h (.h (.h (.h (.h (.h (.h (.n))))))))) (.cons (.tmp rfl) (.nil))) [] rfl rfl (⟨rfl, rfl⟩)
    · refine CW.skip ?_
      refine KW.thenN ?_
      refine CW.seq ?_
      refine CW.region ?_
      refine LW.v (ov_loadAR 2 ta85 rfl rfl (.h (.h (.h (.h (.h (.h (.h (.n))))))))) ?_
      refine LW.opU (ou_storeW ta85 rfl rfl .agg rfl rfl (.h (.h (.h (.h (.h (.h (.h (.n)))))))) (.t (.h))) rfl ?_
      refine LW.v (ov_assign rfl) ?_
      refine LW.nil ?_
      refine KW.thenN ?_
      refine CW.ret ?_
      have hq : encF (parT s) = s := Decidable.of_not_not h
      rw [hg, if_neg (by rintro (q | q); exact q (hlaw.1 hq); exact q ho)]
      exact KW.retF (.cons (ResV.cellA 1 ta85 rfl rfl (.h (.h (.h (.h (.h (.h (.h (.n))))))))) (.cons (.tmp rfl) (.nil))) [] rfl rfl (⟨rfl, rfl⟩)
  · have hput := RPut_ok (parT s) hw
    rw [if_neg ho] at hput
    refine LW.call [] (oc_fn cf51 rfl) rfl rfl rfl rfl (hput) ?_
    rintro _ _ ⟨rfl, rfl⟩
    simp only [putBack, List.append_nil]
    refine LW.v (ov_move rfl) ?_
    refine LW.v (ov_extract rfl rfl) ?_
    refine LW.v (ov_extract rfl rfl) ?_
    refine LW.v (ov_assign rfl) ?_
    refine LW.v (ov_assign rfl) ?_
    refine LW.nil ?_
    refine KW.thenN ?_
    refine CW.seq ?_
    refine CW.seq ?_
    refine CW.region ?_
    refine LW.v (ov_move rfl) ?_
    refine LW.v (OpV.eq (ov_neq rfl rfl) (congrArg Value.bool (decide_eq_true (by first | omega | assumption)))) ?_
    refine LW.v (ov_move rfl) ?_
    refine LW.skip rfl rfl ?_
    refine LW.skip rfl rfl ?_
    refine LW.skip rfl rfl ?_
    first | refine LW.v (ov_pickT rfl rfl) ?_ | refine LW.v (ov_pickF rfl rfl) ?_ | refine LW.v (ov_pick rfl rfl rfl) ?_
    refine LW.nil ?_
    refine KW.thenN ?_
    refine CW.condT rfl rfl ?_
    refine CW.seq ?_
    refine CW.region ?_
    refine LW.v (ov_build zc85 pl85 rfl (.n)) ?_
    refine LW.opU (ou_storeW ta85 rfl rfl .agg rfl rfl (.h (.h (.h (.h (.h (.h (.h (.n)))))))) (.t (.h))) rfl ?_
    refine LW.v (ov_assign rfl) ?_
    refine LW.nil ?_
    refine KW.thenN ?_
    refine CW.ret ?_
    refine KW.thenR ?_
    rw [hg, if_pos (.inr ho)]
    exact KW.retF (.cons (ResV.cellA 1 ta85 rfl rfl (.h (.h (.h (.h (.h (.h (.h (.n))))))))) (.cons (.tmp rfl) (.nil))) [] rfl rfl (⟨rfl, rfl⟩)
end Sx
end Go.Proofs.Ytdgphamhpjnmpaa

/- tmframe: fillers. -/
namespace Go.Proofs.Ytdgphamhpjnmpaa
namespace Sx

abbrev frow (p : Nat) (ad : Option Addr) (n c : Nat) (ad' : Option Addr) (n' c' : Nat) (size idle : Int) : HP := row p 142 [.slice ad n c, .slice ad' n' c', .int .i64 size, .int .i64 idle]
abbrev fby (ad : Option Addr) (n c : Nat) (l : List UInt8) : HP := ownO 5 1 (.slice ad n c) n (l.map bv)
def iv (l : List Int) : List Value := l.map (Value.int .i64)
abbrev fst (ad : Option Addr) (n c : Nat) (l : List Int) : HP := ownS 3 1 (.slice ad n c) n (iv l)
theorem iv_app (l : List Int) (a : Int) : iv l ++ [.int .i64 a] = iv (l ++ [a]) := by simp [iv]
theorem iv_len (l : List Int) : (iv l).length = l.length := by simp [iv]
theorem iv_get {l : List Int} {i : Nat} {a : Int} (h : l[i]? = some a) : (iv l)[i]? = some (.int .i64 a) := by simp [iv, h]
section
variable {p n c n' c' : Nat} {ad ad' : Option Addr} {size idle : Int}
theorem fnone_ok (hs : size ≠ 0) : Fn Try.prog 65 #[P1 p 0] [frow p ad n c ad' n' c' size idle] (Ret fun v Q => v = .bool false ∧ Q = [frow p ad n c ad' n' c' size idle]) := by
  refine Fn.of (args := _) Try.func65 rfl Try.ntmps65 rfl ?_
  intro w0 g0
  refine CW.seq ?_
  refine CW.region ?_
  refine LW.v (ov_assign rfl) ?_
  refine LW.nil ?_
  refine KW.thenN ?_
  refine CW.seq ?_
  refine CW.region ?_
  refine LW.v (ov_move rfl) ?_
  refine LW.v (ov_ptreql un100 rfl rfl (by simp)) ?_
  refine LW.v (ov_move rfl) ?_
  refine LW.v (ov_move rfl) ?_
  refine LW.v (ov_nilP rfl) ?_
  refine LW.v (ov_fieldAddr fo142_1 rfl) ?_
  refine LW.v (ov_loadR 1 ta3 rfl rfl rfl) ?_
  refine LW.v (ov_eql rfl rfl) ?_
  first | refine LW.v (ov_pickT rfl rfl) ?_ | refine LW.v (ov_pickF rfl rfl) ?_ | refine LW.v (ov_pick rfl rfl rfl) ?_
  refine LW.v (ov_assign rfl) ?_
  refine LW.nil ?_
  refine KW.thenN ?_
  refine CW.ret ?_
  exact KW.retF (.cons (.tmp rfl) (.nil)) [1] rfl rfl (⟨congrArg Value.bool (decide_eq_false hs), rfl⟩)
theorem fwait_ok (hs : size ≠ 0) (hn : n ≤ 1000000000) (hi : 0 ≤ idle ∧ idle ≤ 1000000000) : Fn Try.prog 38 #[P1 p 0] [frow p ad n c ad' n' c' size idle] (Ret fun v Q => v = .int .i64 ((n : Int) - idle) ∧ Q = [frow p ad n c ad' n' c' size idle]) := by
  refine Fn.of (args := _) Try.func38 rfl Try.ntmps38 rfl ?_
  intro w0 g0
  refine CW.seq ?_
  refine CW.region ?_
  refine LW.v (ov_assign rfl) ?_
  refine LW.nil ?_
  refine KW.thenN ?_
  refine CW.seq ?_
  refine CW.seq ?_
  refine CW.region ?_
  refine LW.v (ov_move rfl) ?_
  refine LW.call [1] (oc_fn cf65 rfl) rfl rfl rfl rfl (fnone_ok hs) ?_
  rintro _ _ ⟨rfl, rfl⟩
  simp only [putBack, List.set_cons_succ, List.set_cons_zero, List.append_nil]
  refine LW.nil ?_
  refine KW.thenN ?_
  refine CW.condF rfl rfl ?_
  refine CW.skip ?_
  refine KW.thenN ?_
  refine CW.seq ?_
  refine CW.draw [1] rfl mixed rfl (ls := #[false, false, false, false, false, false, false, false, false, false, false, false]) (by kernel_rfl) ?_
  refine DW.tk 0 [1] rfl (ov_move rfl) ?_
  first | refine DW.tk 1 [1] rfl (ov_nilP rfl) ?_ | refine DW.tk 1 [1] rfl (ov_nilF rfl) ?_
  refine DW.tk 2 [1] rfl (ov_fieldAddr fo142_0 rfl) ?_
  refine DW.tk 3 [1] rfl (ov_fieldAddr fo140_0 rfl) ?_
  refine DW.tk 4 [1] rfl (ov_loadR 0 ta107 rfl rfl rfl) ?_
  refine DW.tk 5 [1] rfl (ov_lenL so107 rfl) ?_
  refine DW.tk 6 [1] rfl (ov_move rfl) ?_
  first | refine DW.tk 7 [1] rfl (ov_nilP rfl) ?_ | refine DW.tk 7 [1] rfl (ov_nilF rfl) ?_
  refine DW.tk 8 [1] rfl (ov_fieldAddr fo142_2 rfl) ?_
  refine DW.tk 9 [1] rfl (ov_loadR 0 ta3 rfl rfl rfl) ?_
  first | refine DW.tk 10 [1] rfl (ov_sub rfl rfl (by omega)) ?_ | refine DW.tk 10 [1] rfl (ov_subW rfl rfl) ?_
  refine DW.tk 11 [1] rfl (ov_assign rfl) ?_
  refine DW.done (by kernel_rfl) ?_
  refine KW.thenN ?_
  refine CW.ret ?_
  exact KW.retF (.cons (.tmp rfl) (.nil)) [1] rfl rfl (⟨rfl, rfl⟩)
theorem fnew_ok (s : Int) : Fn Try.prog 36 #[.int .i64 s] [] (Ret fun v Q => (32 ≤ s ∧ s ≤ 200 → ∃ b, v = .tuple #[P1 b 0, .int .i64 0] ∧ Q = [frow b none 0 0 none 0 0 s 0]) ∧ (¬ (32 ≤ s ∧ s ≤ 200) → v = .tuple #[.pointer none, .int .i64 2] ∧ Q = [])) := by
  refine Fn.of (args := _) Try.func36 rfl Try.ntmps36 rfl ?_
  intro w0 g0
  by_cases h : 32 ≤ s ∧ s ≤ 200
  · refine CW.seq ?_
    refine CW.region ?_
    refine LW.v (ov_assign rfl) ?_
    refine LW.v (ov_assign rfl) ?_
    refine LW.nil ?_
    refine KW.thenN ?_
    refine CW.seq ?_
    refine CW.seq ?_
    refine CW.region ?_
    refine LW.v (ov_move rfl) ?_
    refine LW.v (OpV.eq (ov_lss rfl rfl) (congrArg Value.bool (decide_eq_false (by first | omega | assumption)))) ?_
    refine LW.v (ov_move rfl) ?_
    refine LW.v (ov_move rfl) ?_
    refine LW.v (OpV.eq (ov_gtr rfl rfl) (congrArg Value.bool (decide_eq_false (by first | omega | assumption)))) ?_
    first | refine LW.v (ov_pickT rfl rfl) ?_ | refine LW.v (ov_pickF rfl rfl) ?_ | refine LW.v (ov_pick rfl rfl rfl) ?_
    refine LW.nil ?_
    refine KW.thenN ?_
    refine CW.condF rfl rfl ?_
    refine CW.skip ?_
    refine KW.thenN ?_
    refine CW.seq ?_
    refine CW.region ?_
    refine LW.v (ov_move rfl) ?_
    refine LW.v (ov_build zc142 pl142 rfl (.c rfl (.one rfl) rfl (.t (.t (.h (.n)))) (.n))) ?_
    refine LW.opBA (ob_box rfl .agg (fun _ => .c (.n))) rfl rfl (fun b12 => ?_)
    refine LW.v (ov_assign rfl) ?_
    refine LW.v (ov_assign rfl) ?_
    refine LW.nil ?_
    refine KW.thenN ?_
    refine CW.ret ?_
    exact KW.retF (.cons (.tmp rfl) (.cons (.tmp rfl) (.nil))) [1] rfl rfl (⟨fun _ => ⟨b12, rfl, rfl⟩, fun q => absurd h q⟩)
  · refine CW.seq ?_
    refine CW.region ?_
    refine LW.v (ov_assign rfl) ?_
    refine LW.v (ov_assign rfl) ?_
    refine LW.nil ?_
    refine KW.thenN ?_
    refine CW.seq ?_
    refine CW.seq ?_
    refine CW.region ?_
    refine LW.v (ov_move rfl) ?_
    refine LW.v (ov_lss rfl rfl) ?_
    refine LW.v (ov_move rfl) ?_
    first | refine KW.splitD 6 rfl (fun h6 => ?_) (fun h6 => ?_) | refine KW.split 6 rfl (fun h6 => ?_) (fun h6 => ?_)
    · refine LW.skip rfl rfl ?_
      refine LW.skip rfl rfl ?_
      first | refine LW.v (ov_pickT rfl rfl) ?_ | refine LW.v (ov_pickF rfl rfl) ?_ | refine LW.v (ov_pick rfl rfl rfl) ?_
      refine LW.nil ?_
      refine KW.thenN ?_
      refine CW.condT rfl rfl ?_
      refine CW.seq ?_
      refine CW.region ?_
      refine LW.v (ov_assign rfl) ?_
      refine LW.v (ov_assign rfl) ?_
      refine LW.nil ?_
      refine KW.thenN ?_
      refine CW.ret ?_
      refine KW.thenR ?_
      first | (exfalso; omega) | exact KW.retF (.cons (.tmp rfl) (.cons (.tmp rfl) .nil)) [] rfl rfl ⟨fun q => absurd q h, fun _ => ⟨rfl, rfl⟩⟩
    · refine LW.v (ov_move rfl) ?_
      refine LW.v (ov_gtr rfl rfl) ?_
      first | refine LW.v (ov_pickT rfl rfl) ?_ | refine LW.v (ov_pickF rfl rfl) ?_ | refine LW.v (ov_pick rfl rfl rfl) ?_
      refine LW.nil ?_
      refine KW.thenN ?_
      first | refine KW.splitD 9 rfl (fun h9 => ?_) (fun h9 => ?_) | refine KW.split 9 rfl (fun h9 => ?_) (fun h9 => ?_)
      · refine CW.condT rfl rfl ?_
        refine CW.seq ?_
        refine CW.region ?_
        refine LW.v (ov_assign rfl) ?_
        refine LW.v (ov_assign rfl) ?_
        refine LW.nil ?_
        refine KW.thenN ?_
        refine CW.ret ?_
        refine KW.thenR ?_
        first | (exfalso; omega) | exact KW.retF (.cons (.tmp rfl) (.cons (.tmp rfl) .nil)) [] rfl rfl ⟨fun q => absurd q h, fun _ => ⟨rfl, rfl⟩⟩
      · refine CW.condF rfl rfl ?_
        refine CW.skip ?_
        refine KW.thenN ?_
        refine CW.seq ?_
        refine CW.region ?_
        refine LW.v (ov_move rfl) ?_
        refine LW.v (ov_build zc142 pl142 rfl (.c rfl (.one rfl) rfl (.t (.t (.h (.n)))) (.n))) ?_
        refine LW.opBA (ob_box rfl .agg (fun _ => .c (.n))) rfl rfl (fun b12 => ?_)
        refine LW.v (ov_assign rfl) ?_
        refine LW.v (ov_assign rfl) ?_
        refine LW.nil ?_
        refine KW.thenN ?_
        refine CW.ret ?_
        first | (exfalso; omega) | exact KW.retF (.cons (.tmp rfl) (.cons (.tmp rfl) .nil)) [] rfl rfl ⟨fun q => absurd q h, fun _ => ⟨rfl, rfl⟩⟩
theorem fclear_ok (hs : size ≠ 0) : Fn Try.prog 47 #[P1 p 0] [frow p ad n c ad' n' c' size idle] (Ret fun _ Q => Q = [frow p none 0 0 none 0 0 size 0]) := by
  refine Fn.of (args := _) Try.func47 rfl Try.ntmps47 rfl ?_
  intro w0 g0
  refine CW.seq ?_
  refine CW.region ?_
  refine LW.v (ov_move rfl) ?_
  refine LW.call [1] (oc_fn cf65 rfl) rfl rfl rfl rfl (fnone_ok hs) ?_
  rintro _ _ ⟨rfl, rfl⟩
  simp only [putBack, List.set_cons_succ, List.set_cons_zero, List.append_nil]
  refine LW.v (ov_not rfl) ?_
  refine LW.nil ?_
  refine KW.thenN ?_
  refine CW.condT rfl rfl ?_
  refine CW.region ?_
  refine LW.v (ov_move rfl) ?_
  refine LW.v (ov_move rfl) ?_
  refine LW.v (ov_build zc140 pl140 rfl (.n)) ?_
  refine LW.v (ov_nilP rfl) ?_
  refine LW.v (ov_fieldAddr fo142_0 rfl) ?_
  refine LW.opU (ou_storeW ta140 rfl rfl .agg rfl rfl (.h (.h (.n))) (.t (.h))) rfl ?_
  refine LW.v (ov_nilP rfl) ?_
  refine LW.v (ov_fieldAddr fo142_2 rfl) ?_
  refine LW.opU (ou_storeW ta3 rfl rfl (.one rfl) rfl rfl (.t (.t (.t (.h (.n))))) (.t (.h))) rfl ?_
  refine LW.nil ?_
  exact KW.endF (.nil) [1] rfl rfl (rfl)
theorem qadd_ok {starts : List Int} {bs l : List UInt8} (hn : n = bs.length) (hn' : n' = starts.length) (hb : bs.length + l.length ≤ 1000000) (hst : starts.length ≤ 1000000) : Fn Try.prog 67 #[P1 p 0, S l] [frow p ad n c ad' n' c' size idle, fby ad n c bs, fst ad' n' c' starts]
    (Ret fun _ Q => ∃ ad1 c1 ad2 c2, Q = [frow p ad1 (bs ++ l).length c1 ad2 (starts ++ [(bs.length : Int)]).length c2 size idle, fby ad1 (bs ++ l).length c1 (bs ++ l), fst ad2 (starts ++ [(bs.length : Int)]).length c2 (starts ++ [(bs.length : Int)])]) := by
  subst hn'; subst hn
  refine Fn.of (args := _) Try.func67 rfl Try.ntmps67 rfl ?_
  intro w0 g0
  refine CW.cut (fun env As => ∃ ad2 c2, env = [(0, P1 p 0), (1, S l)] ∧ As = [ex g0, frow p ad bs.length c ad2 (starts ++ [(bs.length : Int)]).length c2 size idle, fby ad bs.length c bs, fst ad2 (starts ++ [(bs.length : Int)]).length c2 (starts ++ [(bs.length : Int)])]) (fun M hM => ?_) ?_
  · refine CW.draw [] rfl mixed rfl (ls := #[false, false, false, false, false, false, false, false, false, false, false, false, false, false, false]) (by kernel_rfl) ?_
    refine DW.tk 0 [] rfl (ov_move rfl) ?_
    refine DW.tk 1 [] rfl (ov_move rfl) ?_
    first | refine DW.tk 2 [] rfl (ov_nilP rfl) ?_ | refine DW.tk 2 [] rfl (ov_nilF rfl) ?_
    refine DW.tk 3 [] rfl (ov_fieldAddr fo140_1 rfl) ?_
    refine DW.tk 5 [] rfl (ov_move rfl) ?_
    first | refine DW.tk 6 [] rfl (ov_nilP rfl) ?_ | refine DW.tk 6 [] rfl (ov_nilF rfl) ?_
    refine DW.tk 7 [] rfl (ov_fieldAddr fo140_0 rfl) ?_
    refine DW.all2 4 8 (by kernel_rfl) ?_ ?_
    · refine DO.opV [] rfl (ov_loadR 1 ta43 rfl rfl rfl) rfl rfl rfl rfl rfl ?_
      refine DW.all1 8 (by kernel_rfl) ?_
      refine DO.opV [] rfl (ov_loadR 1 ta107 rfl rfl rfl) rfl rfl rfl rfl rfl ?_
      refine DW.tk 9 [] rfl (ov_lenL so107 rfl) ?_
      refine DW.all1 10 (by kernel_rfl) ?_
      refine DO.opBA [] rfl (ob_bs1 so43 zc3 (xs := [_]) rfl rfl rfl (by decide) rfl (fun _ => .c (.c (.c (.c (.n)))))) rfl rfl (fun _ => rfl) (fun _ => rfl) rfl (fun b14 => ?_)
      refine DW.all1 11 (by kernel_rfl) ?_
      refine DO.opX [] rfl (ox_appR 4 so43 zo3 rfl so43 rfl rfl rfl rfl rfl (by omega) (by omega) (by omega) (fun _ => .t (.t (.t (.h))))) rfl rfl (fun _ => rfl) (fun _ => rfl) rfl (fun a15 c15 => ?_)
      first | refine DW.tk 12 [] rfl (ov_nilP rfl) ?_ | refine DW.tk 12 [] rfl (ov_nilF rfl) ?_
      refine DW.tk 13 [] rfl (ov_fieldAddr fo140_1 rfl) ?_
      refine DW.all1 14 (by kernel_rfl) ?_
      refine DO.opU [] rfl (ou_storeW ta43 rfl rfl (.one rfl) rfl rfl (.t (.h (.n))) (.t (.h))) rfl rfl rfl rfl ?_
      refine DW.done (by kernel_rfl) ?_
      refine KW.thenN ?_
      rw [iv_app]
      exact KW.meet [0, 1, 2, 3] hM ⟨_, _, rfl, rfl⟩ ⟨rfl, rfl, trivial⟩ rfl (by rw [List.length_append]; rfl)
    · refine DO.opV [] rfl (ov_loadR 1 ta107 rfl rfl rfl) rfl rfl rfl rfl rfl ?_
      refine DW.tk 9 [] rfl (ov_lenL so107 rfl) ?_
      refine DW.all2 4 10 (by kernel_rfl) ?_ ?_
      · refine DO.opV [] rfl (ov_loadR 1 ta43 rfl rfl rfl) rfl rfl rfl rfl rfl ?_
        refine DW.all1 10 (by kernel_rfl) ?_
        refine DO.opBA [] rfl (ob_bs1 so43 zc3 (xs := [_]) rfl rfl rfl (by decide) rfl (fun _ => .c (.c (.c (.c (.n)))))) rfl rfl (fun _ => rfl) (fun _ => rfl) rfl (fun b14 => ?_)
        refine DW.all1 11 (by kernel_rfl) ?_
        refine DO.opX [] rfl (ox_appR 4 so43 zo3 rfl so43 rfl rfl rfl rfl rfl (by omega) (by omega) (by omega) (fun _ => .t (.t (.t (.h))))) rfl rfl (fun _ => rfl) (fun _ => rfl) rfl (fun a15 c15 => ?_)
        first | refine DW.tk 12 [] rfl (ov_nilP rfl) ?_ | refine DW.tk 12 [] rfl (ov_nilF rfl) ?_
        refine DW.tk 13 [] rfl (ov_fieldAddr fo140_1 rfl) ?_
        refine DW.all1 14 (by kernel_rfl) ?_
        refine DO.opU [] rfl (ou_storeW ta43 rfl rfl (.one rfl) rfl rfl (.t (.h (.n))) (.t (.h))) rfl rfl rfl rfl ?_
        refine DW.done (by kernel_rfl) ?_
        refine KW.thenN ?_
        rw [iv_app]
        exact KW.meet [0, 1, 2, 3] hM ⟨_, _, rfl, rfl⟩ ⟨rfl, rfl, trivial⟩ rfl (by rw [List.length_append]; rfl)
      · refine DO.opBA [] rfl (ob_bs1 so43 zc3 (xs := [_]) rfl rfl rfl (by decide) rfl (fun _ => .c (.c (.c (.c (.n)))))) rfl rfl (fun _ => rfl) (fun _ => rfl) rfl (fun b14 => ?_)
        refine DW.all1 4 (by kernel_rfl) ?_
        refine DO.opV [] rfl (ov_loadR 1 ta43 rfl rfl rfl) rfl rfl rfl rfl rfl ?_
        refine DW.all1 11 (by kernel_rfl) ?_
        refine DO.opX [] rfl (ox_appR 4 so43 zo3 rfl so43 rfl rfl rfl rfl rfl (by omega) (by omega) (by omega) (fun _ => .t (.t (.t (.h))))) rfl rfl (fun _ => rfl) (fun _ => rfl) rfl (fun a15 c15 => ?_)
        first | refine DW.tk 12 [] rfl (ov_nilP rfl) ?_ | refine DW.tk 12 [] rfl (ov_nilF rfl) ?_
        refine DW.tk 13 [] rfl (ov_fieldAddr fo140_1 rfl) ?_
        refine DW.all1 14 (by kernel_rfl) ?_
        refine DO.opU [] rfl (ou_storeW ta43 rfl rfl (.one rfl) rfl rfl (.t (.h (.n))) (.t (.h))) rfl rfl rfl rfl ?_
        refine DW.done (by kernel_rfl) ?_
        refine KW.thenN ?_
        rw [iv_app]
        exact KW.meet [0, 1, 2, 3] hM ⟨_, _, rfl, rfl⟩ ⟨rfl, rfl, trivial⟩ rfl (by rw [List.length_append]; rfl)
  rintro _ _ ⟨ad2, c2, rfl, rfl⟩
  refine CW.region ?_
  refine LW.v (ov_move rfl) ?_
  refine LW.v (ov_move rfl) ?_
  refine LW.v (ov_nilP rfl) ?_
  refine LW.v (ov_fieldAddr fo140_0 rfl) ?_
  refine LW.v (ov_loadR 1 ta107 rfl rfl rfl) ?_
  refine LW.v (ov_move rfl) ?_
  refine LW.opX (ox_appOS so107 zo5 un9 rfl rfl (by first | omega | (simp; omega)) (fun _ => .t (.t (.h)))) rfl rfl (fun a24 c24 => ?_)
  refine LW.v (ov_nilP rfl) ?_
  refine LW.v (ov_fieldAddr fo140_0 rfl) ?_
  refine LW.opU (ou_storeW ta107 rfl rfl (.one rfl) rfl rfl (.h (.n)) (.t (.h))) rfl ?_
  refine LW.nil ?_
  rw [← List.map_append, ← List.length_append]
  exact KW.endF (.nil) [1, 2, 3] rfl rfl (⟨_, _, _, _, rfl⟩)
/-- the places behind a cut -/
def dropB (k : Nat) (l : List Int) : List Int := (l.filter fun a => decide ((k : Int) ≤ a)).map fun a => a - (k : Int)
/-- cut: the head lies in the block, in front of what is left -/
theorem qcut_ok {starts : List Int} {bs : List UInt8} {k : Nat} (hn : n = bs.length) (hn' : n' = starts.length) (hk : 0 < k ∧ k ≤ n) (_hb : bs.length ≤ 1000000) (hst : starts.length ≤ 1000000) (hsv : ∀ a ∈ starts, 0 ≤ a ∧ a ≤ 1000000) : Fn Try.prog 82 #[P1 p 0, .int .i64 k] [frow p ad n c ad' n' c' size idle, fby ad n c bs, fst ad' n' c' starts]
    (Ret fun v Q => ∃ b o cs ad1 c1 ad2 c2, v = .slice (some ⟨b, o, none⟩) k k ∧ (∀ (j : Nat) (u : Value), ((bs.take k).map bv)[j]? = some u → cs[o + j]? = some u) ∧ (∀ g, row b 5 cs g → fby ad1 (n - k) c1 (bs.drop k) g) ∧
      Q = [frow p ad1 (n - k) c1 ad2 (dropB k starts).length c2 size idle, row b 5 cs, fst ad2 (dropB k starts).length c2 (dropB k starts)]) := by
  subst hn; subst hn'
  refine Fn.of (args := _) Try.func82 rfl Try.ntmps82 rfl ?_
  intro w0 g0
  refine KW.take 2 rfl (fun gq hq => ?_)
  obtain ⟨hql, hq | ⟨b, c0, pre, extra, post, hv, hnc, hcl, hrow⟩⟩ := hq
  · exfalso; omega
  obtain ⟨rfl, rfl⟩ : ad = some ⟨b, pre.length, none⟩ ∧ c = c0 := by
    simp only [Value.slice.injEq, true_and] at hv; exact hv
  clear hv
  refine KW.turn (As' := [ex g0, frow p (some ⟨b, pre.length, none⟩) bs.length c ad' starts.length c' size idle, row b 5 (pre ++ (bs.map bv ++ extra) ++ post), fst ad' starts.length c' starts]) (fun w hs => hs.imp 2 (A := ex gq) rfl (fun g hg => by rw [show g = gq from hg]; exact hrow)) ?_
  refine KW.newS 3 1 ?_
  simp only [List.cons_append, List.nil_append]
  refine CW.seq ?_
  refine CW.region ?_
  refine LW.v (ov_assign rfl) ?_
  refine LW.nil ?_
  refine KW.thenN ?_
  refine CW.seq ?_
  refine CW.region ?_
  refine LW.v (ov_move rfl) ?_
  refine LW.v (ov_nilP rfl) ?_
  refine LW.v (ov_fieldAddr fo140_0 rfl) ?_
  refine LW.v (ov_loadR 1 ta107 rfl rfl rfl) ?_
  refine LW.v (ov_move rfl) ?_
  refine LW.v (ov_move rfl) ?_
  refine LW.v (OpV.eq (ov_slS3 (i := k) so107 rfl rfl rfl rfl rfl (by omega)) (show _ = Value.slice (some ⟨b, pre.length, none⟩) k k by rw [if_neg (by omega)]; simp only [Option.map_some, addr_add, Nat.zero_mul, Nat.add_zero])) ?_
  refine LW.v (ov_assign rfl) ?_
  refine LW.nil ?_
  refine KW.thenN ?_
  refine CW.seq ?_
  refine CW.region ?_
  refine LW.v (ov_move rfl) ?_
  refine LW.v (ov_move rfl) ?_
  refine LW.v (ov_nilP rfl) ?_
  refine LW.v (ov_fieldAddr fo140_0 rfl) ?_
  refine LW.v (ov_loadR 1 ta107 rfl rfl rfl) ?_
  refine LW.v (ov_move rfl) ?_
  refine LW.v (ov_slSlice (i := k) (j := bs.length) so107 rfl ⟨_, _, rfl, rfl⟩ rfl (by omega) (by omega)) ?_
  refine LW.v (ov_nilP rfl) ?_
  refine LW.v (ov_fieldAddr fo140_0 rfl) ?_
  refine LW.opU (ou_storeW ta107 rfl rfl (.one rfl) rfl rfl (.h (.n)) (.t (.h))) rfl ?_
  refine LW.nil ?_
  refine KW.thenN ?_
  refine CW.seq ?_
  refine CW.region ?_
  refine LW.v (ov_assign rfl) ?_
  refine LW.nil ?_
  refine KW.thenN ?_
  refine CW.seq ?_
  refine CW.seq ?_
  refine CW.region ?_
  refine LW.v (ov_move rfl) ?_
  refine LW.v (ov_nilP rfl) ?_
  refine LW.v (ov_fieldAddr fo140_1 rfl) ?_
  refine LW.v (ov_loadR 1 ta43 rfl rfl rfl) ?_
  refine LW.v (ov_lenL so43 rfl) ?_
  refine LW.v (ov_move rfl) ?_
  refine LW.nil ?_
  refine KW.thenN ?_
  refine CW.block ?_
  obtain ⟨ad1, hdef⟩ : ∃ ad1 : Option Addr, ad1 = (if c = k then some ⟨b, pre.length, none⟩ else (some (⟨b, pre.length, none⟩ : Addr)).map fun a => a.add (k * 1)) := ⟨_, rfl⟩
  rw [← hdef]
  refine CW.loopW (fun r env As => ∃ (i : Nat) (ad2 : Option Addr) (c2 : Nat) (xs : List Int), i + r = starts.length ∧ xs = dropB k (starts.take i) ∧ env = [(0, P1 p 0), (1, .int .i64 k), (5, .slice (some ⟨b, pre.length, none⟩) k k), (6, .slice ad2 xs.length c2), (28, .slice ad' starts.length c'), (29, .int .i64 starts.length), (30, .int .i64 i)] ∧
    As = [ex g0, frow p ad1 (bs.length - k) (c - k) ad' starts.length c' size idle, row b 5 (pre ++ (bs.map bv ++ extra) ++ post), fst ad' starts.length c' starts, fst ad2 xs.length c2 xs]) starts.length [0, 1, 2, 3, 4] ⟨0, none, 0, [], by simp, rfl, rfl, rfl⟩ ⟨rfl, rfl, rfl, rfl, rfl, rfl, rfl, trivial⟩ rfl rfl ?_
  rintro r _ _ ⟨i, ad2, c2, xs, hir, hxs, rfl, rfl⟩
  have hxl : xs.length ≤ i := by
    rw [hxs, dropB, List.length_map]
    refine Nat.le_trans (List.length_filter_le _ _) ?_
    rw [List.length_take]; omega
  refine CW.seq ?_
  refine CW.region ?_
  refine LW.v (ov_lss rfl rfl) ?_
  refine LW.nil ?_
  refine KW.thenN ?_
  refine CW.seq ?_
  refine CW.condD (by rfl) (fun h => ?_) (fun h => ?_)
  · have hi : i < starts.length := by omega
    have ha : starts[i]? = some starts[i] := List.getElem?_eq_getElem hi
    have hav := hsv starts[i] (List.getElem_mem hi)
    have htk := List.take_succ_eq_append_getElem hi
    generalize starts[i] = a at ha hav htk
    refine KW.own 3 rfl (fun h1 h2 h3 => by exfalso; omega) (fun bq cq extraq h1 h2 h3 h4 => ?_)
    obtain ⟨rfl, rfl⟩ : ad' = some ⟨bq, 0, none⟩ ∧ c' = cq := by
      simp only [Value.slice.injEq, true_and] at h1; exact h1
    refine CW.skip ?_
    refine KW.thenN ?_
    refine CW.seq ?_
    refine CW.block ?_
    refine CW.seq ?_
    refine CW.region ?_
    refine LW.v (ov_idxL (i := i) so43 rfl rfl rfl hi) ?_
    refine LW.v (ov_loadR 3 ta3 rfl rfl (by rw [Nat.zero_add, Nat.mul_one, List.getElem?_append_left (by rw [iv_len]; exact hi)]; exact iv_get ha)) ?_
    refine LW.v (ov_assign rfl) ?_
    refine LW.nil ?_
    refine KW.thenN ?_
    refine CW.seq ?_
    refine CW.region ?_
    refine LW.v (ov_move rfl) ?_
    refine LW.v (ov_move rfl) ?_
    refine LW.v (ov_geq rfl rfl) ?_
    refine LW.nil ?_
    refine KW.thenN ?_
    have hback : ∀ (As : List HP) (w : World), Sat w As → As[3]? = some (row bq 3 (iv starts ++ extraq)) → Sat w (As.set 3 (fst (some ⟨bq, 0, none⟩) starts.length c' starts)) := fun As w hs h3' => hs.imp 3 h3' (own_row h2 h3 h4)
    refine CW.condD (by rfl) (fun h => ?_) (fun h => ?_)
    · refine CW.region ?_
      refine LW.v (ov_move rfl) ?_
      refine LW.v (ov_move rfl) ?_
      refine LW.v (ov_move rfl) ?_
      first | refine LW.v (ov_sub rfl rfl (by omega)) ?_ | refine LW.v (ov_subW rfl rfl) ?_
      refine LW.opBA (ob_bs1 so43 zc3 (xs := [_]) rfl rfl rfl (by decide) rfl (fun _ => .c (.c (.c (.c (.c (.n))))))) rfl rfl (fun b41 => ?_)
      refine LW.opX (ox_appR 5 so43 zo3 rfl so43 rfl rfl rfl rfl rfl (by omega) (by omega) (by omega) (fun _ => .t (.t (.t (.t (.h)))))) rfl rfl (fun a42 c42 => ?_)
      refine LW.v (ov_assign rfl) ?_
      refine LW.nil ?_
      refine KW.blockN ?_
      refine KW.thenN ?_
      refine CW.region ?_
      first | refine LW.v (ov_add rfl rfl (by omega)) ?_ | refine LW.v (ov_addW rfl rfl) ?_
      refine LW.v (ov_move rfl) ?_
      refine LW.nil ?_
      rw [iv_app]
      refine KW.turn (fun w hs => hback _ w hs rfl) ?_
      simp only [List.set_cons_succ, List.set_cons_zero]
      refine KW.again (r - 1) [0, 1, 2, 3, 4] (by omega) ⟨i + 1, _, _, xs ++ [a - k], by omega, ?_, rfl, rfl⟩ ⟨rfl, rfl, rfl, by rw [List.length_append]; rfl, rfl, rfl, rfl, trivial⟩ rfl (by rw [List.length_append]; rfl)
      rw [htk, dropB, List.filter_append, List.map_append, hxs, List.filter_cons_of_pos (by simpa using h)]; rfl
    · refine CW.skip ?_
      refine KW.blockN ?_
      refine KW.thenN ?_
      refine CW.region ?_
      first | refine LW.v (ov_add rfl rfl (by omega)) ?_ | refine LW.v (ov_addW rfl rfl) ?_
      refine LW.v (ov_move rfl) ?_
      refine LW.nil ?_
      refine KW.turn (fun w hs => hback _ w hs rfl) ?_
      simp only [List.set_cons_succ, List.set_cons_zero]
      refine KW.again (r - 1) [0, 1, 2, 3, 4] (by omega) ⟨i + 1, _, _, xs, by omega, ?_, rfl, rfl⟩ ⟨rfl, rfl, rfl, rfl, rfl, rfl, rfl, trivial⟩ rfl rfl
      rw [htk, dropB, List.filter_append, List.map_append, hxs, List.filter_cons_of_neg (by simpa using h)]; simp [dropB]
  · obtain rfl : i = starts.length := by omega
    rw [List.take_length] at hxs
    refine CW.exit ?_
    refine KW.thenX ?_
    refine KW.thenX ?_
    refine KW.hit ?_
    refine KW.thenN ?_
    refine CW.seq ?_
    refine CW.region ?_
    refine LW.v (ov_move rfl) ?_
    refine LW.v (ov_move rfl) ?_
    refine LW.v (ov_nilP rfl) ?_
    refine LW.v (ov_fieldAddr fo140_1 rfl) ?_
    refine LW.opU (ou_storeW ta43 rfl rfl (.one rfl) rfl rfl (.t (.h (.n))) (.t (.h))) rfl ?_
    refine LW.nil ?_
    refine KW.thenN ?_
    refine CW.seq ?_
    refine CW.region ?_
    refine LW.v (ov_move rfl) ?_
    refine LW.v (ov_assign rfl) ?_
    refine LW.nil ?_
    refine KW.thenN ?_
    refine CW.ret ?_
    refine KW.retF (.cons (.tmp rfl) .nil) [1, 2, 4] rfl rfl ⟨b, pre.length, pre ++ (bs.map bv ++ extra) ++ post, ad1, c - k, ad2, c2, rfl, fun j u hj => ?_, fun g hg => ?_, ?_⟩
    · have hjl := lt_of_get hj
      rw [List.length_map, List.length_take] at hjl
      rw [List.append_assoc, List.getElem?_append_right (by omega), Nat.add_sub_cancel_left, List.append_assoc, List.getElem?_append_left (by rw [List.length_map]; omega)]
      rw [List.map_take, List.getElem?_take] at hj
      rw [if_pos (by omega)] at hj; exact hj
    · refine ⟨by rw [List.length_map, List.length_drop, Nat.mul_one], .inr ?_⟩
      by_cases hck : c = k
      · rw [if_pos hck] at hdef
        have hx0 : extra = [] := by
          have := hcl; rw [List.length_append] at this; rw [List.length_map] at this
          exact List.eq_nil_of_length_eq_zero (by omega)
        refine ⟨b, c - k, pre, [], bs.map bv ++ post, by rw [hdef], by omega, ?_, ?_⟩
        · simp; omega
        · have : bs.drop k = [] := List.drop_eq_nil_iff.2 (by rw [List.length_append, List.length_map] at hcl; omega)
          rw [this]; subst hx0; simpa using hg
      · rw [if_neg hck] at hdef
        refine ⟨b, c - k, pre ++ (bs.take k).map bv, extra, post, ?_, by omega, ?_, ?_⟩
        · rw [hdef, List.length_append, List.length_map, List.length_take, Nat.min_eq_left hk.2, Option.map_some, addr_add, Nat.mul_one]
        · rw [List.length_append, List.length_map, List.length_drop]; rw [List.length_append, List.length_map] at hcl; omega
        · have e : pre ++ (bs.take k).map bv ++ ((bs.drop k).map bv ++ extra) ++ post = pre ++ (bs.map bv ++ extra) ++ post := by
            have : bs.map bv = (bs.take k).map bv ++ (bs.drop k).map bv := by rw [← List.map_append, List.take_append_drop]
            rw [this]; simp only [List.append_assoc]
          rw [e]; exact hg
    · rw [← hxs]; rfl
end
end Sx
end Go.Proofs.Ytdgphamhpjnmpaa

/- tmframe: the next field of a filler. -/
namespace Go.Proofs.Ytdgphamhpjnmpaa
namespace Sx
section
variable {p n c n' c' : Nat} {ad ad' : Option Addr} {size idle : Int}
theorem within_ok {m : Int} : Fn Try.prog 81 #[P1 p 0, .int .i64 m] [] (Ret fun v Q => ∃ b2 b3, v = .func (.func 100) #[] #[P1 b2 0, P1 b3 0] ∧ Q = [row b2 179 [P1 p 0], row b3 3 [.int .i64 m]]) := by
  refine Fn.of (args := _) Try.func81 rfl Try.ntmps81 rfl ?_
  intro w0 g0
  refine CW.seq ?_
  refine CW.region ?_
  refine LW.opBA (ob_box rfl (.one rfl) (fun _ => .c (.n))) rfl rfl (fun b2 => ?_)
  refine LW.opBA (ob_box rfl (.one rfl) (fun _ => .c (.c (.n)))) rfl rfl (fun b3 => ?_)
  refine LW.v (ov_assign rfl) ?_
  refine LW.nil ?_
  refine KW.thenN ?_
  refine CW.seq ?_
  refine CW.region ?_
  refine LW.v (ov_mkFunc rfl rfl) ?_
  refine LW.v (ov_assign rfl) ?_
  refine LW.nil ?_
  refine KW.thenN ?_
  refine CW.ret ?_
  exact KW.retF (.cons (.tmp rfl) (.nil)) [1, 2] rfl rfl (⟨_, _, rfl, rfl⟩)
theorem within0_ok {Y : Value} {b2 b3 : Nat} {m : Int} {X : HP} {starts : List Int} (hn' : n' = starts.length) (hst : starts.length ≤ 1000000) (h0 : ∀ a, starts.head? = some a → m ≤ a) :
    Fn Try.prog 100 #[Y, P1 b2 0, P1 b3 0] [X, row b2 179 [P1 p 0], row b3 3 [.int .i64 m], frow p ad n c ad' n' c' size idle, fst ad' n' c' starts]
    (Ret fun _ Q => Q = [X, row b2 179 [P1 p 0], row b3 3 [.int .i64 m], frow p ad n c ad' n' c' size idle, fst ad' n' c' starts]) := by
  subst hn'
  refine Fn.of (args := _) Try.func100 rfl Try.ntmps100 rfl ?_
  intro w0 g0
  refine CW.seq ?_
  refine CW.region ?_
  refine LW.v (ov_loadR 2 ta179 rfl rfl rfl) ?_
  refine LW.v (ov_nilP rfl) ?_
  refine LW.v (ov_fieldAddr fo140_1 rfl) ?_
  refine LW.v (ov_loadR 4 ta43 rfl rfl rfl) ?_
  refine LW.v (ov_lenL so43 rfl) ?_
  refine LW.v (ov_move rfl) ?_
  refine LW.nil ?_
  refine KW.thenN ?_
  refine CW.block ?_
  refine CW.loopW (fun r env As => r = 0 ∧ env = [(2, P1 b3 0), (9, .slice ad' starts.length c'), (10, .int .i64 starts.length), (11, .int .i64 0)] ∧ As = [ex g0, X, row b2 179 [P1 p 0], row b3 3 [.int .i64 m], frow p ad n c ad' starts.length c' size idle, fst ad' starts.length c' starts]) 0 [0, 1, 2, 3, 4, 5] ⟨rfl, rfl, rfl⟩ ⟨rfl, rfl, rfl, rfl, trivial⟩ rfl rfl ?_
  rintro r _ _ ⟨rfl, rfl, rfl⟩
  refine CW.seq ?_
  refine CW.region ?_
  refine LW.v (ov_lss rfl rfl) ?_
  refine LW.nil ?_
  refine KW.thenN ?_
  refine CW.seq ?_
  refine CW.condD (by rfl) (fun h => ?_) (fun h => ?_)
  · match starts, h, h0 with
    | a :: st, h, h0 =>
    have ha := h0 a rfl
    refine KW.own 5 rfl (fun h1 h2 h3 => by cases h3) (fun bq cq extraq h1 h2 h3 h4 => ?_)
    obtain ⟨rfl, rfl⟩ : ad' = some ⟨bq, 0, none⟩ ∧ c' = cq := by
      simp only [Value.slice.injEq, true_and] at h1; exact h1
    refine CW.skip ?_
    refine KW.thenN ?_
    refine CW.seq ?_
    refine CW.block ?_
    refine CW.seq ?_
    refine CW.region ?_
    refine LW.v (ov_idxL (i := 0) so43 rfl rfl rfl (Nat.succ_pos _)) ?_
    refine LW.v (ov_loadR 5 (v := .int .i64 a) ta3 rfl rfl rfl) ?_
    refine LW.v (ov_assign rfl) ?_
    refine LW.nil ?_
    refine KW.thenN ?_
    refine CW.seq ?_
    refine CW.region ?_
    refine LW.v (ov_move rfl) ?_
    refine LW.v (ov_loadR 3 ta3 rfl rfl rfl) ?_
    refine LW.v (OpV.eq (ov_geq rfl rfl) (congrArg Value.bool (decide_eq_true (by first | omega | assumption)))) ?_
    refine LW.v (ov_move rfl) ?_
    refine LW.skip rfl rfl ?_
    refine LW.skip rfl rfl ?_
    refine LW.skip rfl rfl ?_
    refine LW.skip rfl rfl ?_
    first | refine LW.v (ov_pickT rfl rfl) ?_ | refine LW.v (ov_pickF rfl rfl) ?_ | refine LW.v (ov_pick rfl rfl rfl) ?_
    refine LW.nil ?_
    refine KW.thenN ?_
    refine CW.condT rfl rfl ?_
    refine CW.ret ?_
    refine KW.blockR ?_
    refine KW.thenR ?_
    refine KW.thenR ?_
    refine KW.blockR ?_
    refine KW.turn (fun w hs => hs.imp 5 rfl (own_row h2 h3 h4)) ?_
    exact KW.retF (.nil) [1, 2, 3, 4, 5] rfl rfl (rfl)
  · refine CW.exit ?_
    refine KW.thenX ?_
    refine KW.thenX ?_
    refine KW.hit ?_
    exact KW.endF (.nil) [1, 2, 3, 4, 5] rfl rfl (rfl)
theorem within1_ok {l b2 b3 : Nat} {m a : Int} {X Y1 : HP} {st : List Int} {X1 Y2 : HP} (hn' : n' = st.length + 1) (hst : st.length ≤ 1000000) (h0 : a < m) (hY : Yd Try.prog l #[.int .i64 a] [X, Y1] (fun b Q => b = false ∧ Q = [X1, Y2])) :
    Fn Try.prog 100 #[.func (.yield l) #[] #[], P1 b2 0, P1 b3 0] [X, Y1, row b2 179 [P1 p 0], row b3 3 [.int .i64 m], frow p ad n c ad' n' c' size idle, fst ad' n' c' (a :: st)]
    (Ret fun _ Q => Q = [X1, Y2, row b2 179 [P1 p 0], row b3 3 [.int .i64 m], frow p ad n c ad' n' c' size idle, fst ad' n' c' (a :: st)]) := by
  subst hn'
  refine Fn.of (args := _) Try.func100 rfl Try.ntmps100 rfl ?_
  intro w0 g0
  refine CW.seq ?_
  refine CW.region ?_
  refine LW.v (ov_loadR 3 ta179 rfl rfl rfl) ?_
  refine LW.v (ov_nilP rfl) ?_
  refine LW.v (ov_fieldAddr fo140_1 rfl) ?_
  refine LW.v (ov_loadR 5 ta43 rfl rfl rfl) ?_
  refine LW.v (ov_lenL so43 rfl) ?_
  refine LW.v (ov_move rfl) ?_
  refine LW.nil ?_
  refine KW.thenN ?_
  refine CW.block ?_
  refine CW.loopW (fun r env As => r = 0 ∧ env = [(0, .func (.yield l) #[] #[]), (2, P1 b3 0), (9, .slice ad' (st.length + 1) c'), (10, .int .i64 ((st.length + 1 : Nat) : Int)), (11, .int .i64 0)] ∧ As = [ex g0, X, Y1, row b2 179 [P1 p 0], row b3 3 [.int .i64 m], frow p ad n c ad' (st.length + 1) c' size idle, fst ad' (st.length + 1) c' (a :: st)]) 0 [0, 1, 2, 3, 4, 5, 6] ⟨rfl, rfl, rfl⟩ ⟨rfl, rfl, rfl, rfl, rfl, trivial⟩ rfl rfl ?_
  rintro r _ _ ⟨rfl, rfl, rfl⟩
  refine CW.seq ?_
  refine CW.region ?_
  refine LW.v (ov_lss rfl rfl) ?_
  refine LW.nil ?_
  refine KW.thenN ?_
  refine CW.seq ?_
  refine CW.condD (by rfl) (fun h => ?_) (fun h => by exfalso; omega)
  · refine KW.own 6 rfl (fun h1 h2 h3 => by cases h3) (fun bq cq extraq h1 h2 h3 h4 => ?_)
    obtain ⟨rfl, rfl⟩ : ad' = some ⟨bq, 0, none⟩ ∧ c' = cq := by
      simp only [Value.slice.injEq, true_and] at h1; exact h1
    refine CW.skip ?_
    refine KW.thenN ?_
    refine CW.seq ?_
    refine CW.block ?_
    refine CW.seq ?_
    refine CW.region ?_
    refine LW.v (ov_idxL (i := 0) so43 rfl rfl rfl (Nat.succ_pos _)) ?_
    refine LW.v (ov_loadR 6 (v := .int .i64 a) ta3 rfl rfl rfl) ?_
    refine LW.v (ov_assign rfl) ?_
    refine LW.nil ?_
    refine KW.thenN ?_
    refine CW.seq ?_
    refine CW.region ?_
    refine LW.v (ov_move rfl) ?_
    refine LW.v (ov_loadR 4 ta3 rfl rfl rfl) ?_
    refine LW.v (OpV.eq (ov_geq rfl rfl) (congrArg Value.bool (decide_eq_false (by first | omega | assumption)))) ?_
    refine LW.v (ov_move rfl) ?_
    refine LW.v (ov_move rfl) ?_
    refine LW.v (ov_move rfl) ?_
    refine LW.yield [1, 2] rfl rfl rfl rfl rfl rfl (hY) ?_
    rintro _ _ ⟨rfl, rfl⟩
    simp only [putBack, List.set_cons_succ, List.set_cons_zero, List.append_nil]
    refine LW.v (ov_not rfl) ?_
    first | refine LW.v (ov_pickT rfl rfl) ?_ | refine LW.v (ov_pickF rfl rfl) ?_ | refine LW.v (ov_pick rfl rfl rfl) ?_
    refine LW.nil ?_
    refine KW.thenN ?_
    refine CW.condT rfl rfl ?_
    refine CW.ret ?_
    refine KW.blockR ?_
    refine KW.thenR ?_
    refine KW.thenR ?_
    refine KW.blockR ?_
    refine KW.turn (fun w hs => hs.imp 6 rfl (own_row h2 h3 h4)) ?_
    exact KW.retF (.nil) [1, 2, 3, 4, 5, 6] rfl rfl (rfl)
end
end Sx
end Go.Proofs.Ytdgphamhpjnmpaa

/- Functions that hold a range over a function, and do not panic. -/
namespace Go.Proofs.Ytdgphamhpjnmpaa
namespace Sx
def noP (Q : Exit → Act → World → Prop) (e : Exit) : Act → World → Prop := match e with
  | .panic _ => fun _ _ => False
  | e => Q e
theorem noP_imp {Q : Exit → Act → World → Prop} {e : Exit} {a : Act} {w : World} (h : noP Q e a w) : Q e a w := by
  cases e <;> first | exact h | exact h.elim
theorem wpIn_noP {F : Fence} {n : Nat} {P : Program} {c : Code} {Q : Exit → Act → World → Prop} {a : Act} {w : World} (h : c.wpIn F n P (noP Q) a w) : c.wpIn F n P Q a w := by
  intro b k cs hro hb hr
  obtain ⟨e, a', w', hq, harr⟩ := h b k cs hro hb hr
  exact ⟨e, a', w', noP_imp hq, harr⟩
theorem Fn.ofP {P : Program} {f : FuncId} {fn : Func} {c : Code} {N : Nat} {args : List Value} {pre : List HP} {post : Ending → List HP → Prop}
    (hf : P.funcs[f]? = some fn) (hb : fn.body = some c) (hN : fn.ntmps = N) (hn : Nat.ble args.length N = true)
    (h : ∀ (w : World) (g : Hl), CW ⟨P, w, N, none⟩ [] (noP (bodyPostM Fence.wide 0 P fn (FnPost post w g))) c (argE args 0) (ex g :: pre)) : Fn P f args.toArray pre post :=
  Fn.ofM hf hb hN hn fun w g => (h w g).imp fun _ _ x => wpIn_noP x
theorem KW.afterN {C : Cx} {ds : List Deferred} {Q : Exit → Act → World → Prop} {env : Env} {As : List HP} (h : KW C ds (Q .normal) env As) : KW C ds (afterK C Q none) env As := h
theorem KW.afterX {C : Cx} {ds : List Deferred} {Q : Exit → Act → World → Prop} {c : Code} {env : Env} {As : List HP} (h : CW C ds Q c env As) : KW C ds (afterK C Q (some c)) env As := h
/-- The loop's record under a name. -/
theorem CW.rangeFuncX {C : Cx} {ds : List Deferred} {Q : Exit → Act → World → Prop} {env : Env} {As : List HP} {g : Operand} {ps : Array Tmp} {assign body : Code} {f : FuncId} {qs cs : Array Value} (hg : evo env g = some (.func (.func f) qs cs)) (hc : callable C.P f = true) (is : List Nat) {pre : List HP} (hok : okIdx is As.length = true) (hp : picks is As = pre)
    (hF : ∀ (l : Nat) (fn : FuncId) (X : LoopState → Option Code → HP), (∀ st pd, X st pd = loopA l C.N env fn ps assign body st pd) → Fn C.P f (qs ++ #[.func (.yield l) #[] #[]] ++ cs) (X .ready none :: pre) (Ret fun _ Q' => ∃ (st : LoopState) (pd : Option Code) (Q'' : List HP), st ≠ .busy ∧ Q' = X st pd :: Q'' ∧
      ∀ d, KW C [markD d] (afterK C Q pd) env (putBack is (Q'' ++ [dfA d]) As)))
    (hds : ds = [] := by rfl) (hrd : C.rd = none := by rfl) : CW C ds Q (.rangeFunc g ps assign body) env As :=
  CW.rangeFunc hg hc is hok hp (fun l fn => hF l fn (fun st pd => loopA l C.N env fn ps assign body st pd) (fun _ _ => rfl)) hds hrd
section
variable {C : Cx} {env : Env} {As : List HP}
theorem KW.retP0 {fn : Func} {post : Ending → List HP → Prop} {g : Hl} {vs : List Value} {Q' : List HP} (hr : ResL C [] env As fn.results.toList vs) (is : List Nat)
    (hok : okIdx (0 :: is) As.length = true) (hp : picks (0 :: is) As = ex g :: Q') (hq : post (.returned (packV vs)) Q') : KW C [] (noP (bodyPostM Fence.wide 0 C.P fn (FnPost post C.w0 g)) .ret) env As :=
  KW.retM0 hr is hok hp hq (.inl rfl)
theorem KW.endP0 {fn : Func} {post : Ending → List HP → Prop} {g : Hl} {vs : List Value} {Q' : List HP} (hr : ResL C [] env As fn.results.toList vs) (is : List Nat)
    (hok : okIdx (0 :: is) As.length = true) (hp : picks (0 :: is) As = ex g :: Q') (hq : post (.returned (packV vs)) Q') : KW C [] (noP (bodyPostM Fence.wide 0 C.P fn (FnPost post C.w0 g)) .normal) env As :=
  KW.retM0 hr is hok hp hq (.inr rfl)
theorem KW.retP {fn : Func} {post : Ending → List HP → Prop} {g : Hl} {vs : List Value} {Q' As' : List HP} {d : Nat} (i : Nat) (hi : As[i]? = some (dfA d)) (hA : As.set i emp = As') (hr : ResL C [markD d] env As' fn.results.toList vs) (is : List Nat)
    (hok : okIdx (0 :: is) As'.length = true) (hp : picks (0 :: is) As' = ex g :: Q') (hq : post (.returned (packV vs)) Q') : KW C [markD d] (noP (bodyPostM Fence.wide 0 C.P fn (FnPost post C.w0 g)) .ret) env As :=
  KW.retM i hi hA hr is hok hp hq (.inl rfl)
theorem KW.endP {fn : Func} {post : Ending → List HP → Prop} {g : Hl} {vs : List Value} {Q' As' : List HP} {d : Nat} (i : Nat) (hi : As[i]? = some (dfA d)) (hA : As.set i emp = As') (hr : ResL C [markD d] env As' fn.results.toList vs) (is : List Nat)
    (hok : okIdx (0 :: is) As'.length = true) (hp : picks (0 :: is) As' = ex g :: Q') (hq : post (.returned (packV vs)) Q') : KW C [markD d] (noP (bodyPostM Fence.wide 0 C.P fn (FnPost post C.w0 g)) .normal) env As :=
  KW.retM i hi hA hr is hok hp hq (.inr rfl)
end
end Sx
end Go.Proofs.Ytdgphamhpjnmpaa

