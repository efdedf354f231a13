/- Package packet: Take. -/
import Derived.Test.YtkofbanncacamaaPkG
namespace Go.Proofs.Ytkofbanncacamaa
namespace Sx

def begB (l : List UInt8) : Bool := (match l[0]? with | none => true | some c => decide (bits2 .and .u8 c.toNat 232 = 0)) && (match l[4]? with | none => true | some c => decide (c.toNat < 4))
theorem begins_ok (l : List UInt8) : Fn Try.prog 23 #[S l] [] (Ret fun v Q => v = .bool (begB l) ∧ Q = []) := by
  refine Fn.of (args := _) Try.func23 rfl Try.ntmps23 rfl ?_
  intro w0 g0
  refine CW.seq ?_
  refine CW.region ?_
  refine LW.opV (ov_assign rfl) rfl rfl ?_
  refine LW.nil ?_
  refine KW.thenN ?_
  refine CW.seq ?_
  refine CW.region ?_
  refine LW.opV (ov_move rfl) rfl rfl ?_
  refine LW.opV (ov_lenS un9 rfl) rfl rfl ?_
  refine LW.opV (ov_lss rfl rfl) rfl rfl ?_
  refine LW.opV (ov_move rfl) rfl rfl ?_
  refine KW.splitD 6 rfl (fun h => ?_) (fun h => ?_)
  · have : l = [] := List.eq_nil_of_length_eq_zero (by omega)
    subst this
    refine LW.skip rfl rfl ?_
    refine LW.skip rfl rfl ?_
    refine LW.skip rfl rfl ?_
    refine LW.skip rfl rfl ?_
    first | refine LW.opV (ov_pickT rfl rfl) rfl rfl ?_ | refine LW.opV (ov_pickF rfl rfl) rfl rfl ?_ | refine LW.opV (ov_pick rfl rfl rfl) rfl rfl ?_
    refine LW.opV (ov_move rfl) rfl rfl ?_
    refine LW.opV (ov_move rfl) rfl rfl ?_
    refine LW.opV (ov_lenS un9 rfl) rfl rfl ?_
    refine LW.opV (ov_lss rfl rfl) rfl rfl ?_
    refine LW.opV (ov_move rfl) rfl rfl ?_
    refine KW.splitD 16 rfl (fun h5 => ?_) (fun h5 => by simp at h5)
    refine LW.skip rfl rfl ?_
    refine LW.skip rfl rfl ?_
    refine LW.skip rfl rfl ?_
    first | refine LW.opV (ov_pickT rfl rfl) rfl rfl ?_ | refine LW.opV (ov_pickF rfl rfl) rfl rfl ?_ | refine LW.opV (ov_pick rfl rfl rfl) rfl rfl ?_
    first | refine LW.opV (ov_pickT rfl rfl) rfl rfl ?_ | refine LW.opV (ov_pickF rfl rfl) rfl rfl ?_ | refine LW.opV (ov_pick rfl rfl rfl) rfl rfl ?_
    refine LW.opV (ov_assign rfl) rfl rfl ?_
    refine LW.nil ?_
    refine KW.thenN ?_
    refine CW.ret ?_
    exact KW.retF (.cons (.tmp rfl) .nil) [] rfl rfl ⟨rfl, rfl⟩
  · have hl0 : 0 < l.length := by omega
    obtain ⟨c0, hc0⟩ : ∃ c, l[0]? = some c := ⟨_, List.getElem?_eq_getElem hl0⟩
    refine LW.opV (ov_move rfl) rfl rfl ?_
    refine LW.opV (ov_strIdx (i := 0) un9 rfl rfl rfl (by assumption)) rfl rfl ?_
    refine LW.opV (ov_and rfl rfl) rfl rfl ?_
    refine LW.opV (ov_eql rfl rfl) rfl rfl ?_
    first | refine LW.opV (ov_pickT rfl rfl) rfl rfl ?_ | refine LW.opV (ov_pickF rfl rfl) rfl rfl ?_ | refine LW.opV (ov_pick rfl rfl rfl) rfl rfl ?_
    refine LW.opV (ov_move rfl) rfl rfl ?_
    refine KW.splitD 12 rfl (fun hb => ?_) (fun hb => ?_)
    · refine LW.opV (ov_move rfl) rfl rfl ?_
      refine LW.opV (ov_lenS un9 rfl) rfl rfl ?_
      refine LW.opV (ov_lss rfl rfl) rfl rfl ?_
      refine LW.opV (ov_move rfl) rfl rfl ?_
      refine KW.splitD 16 rfl (fun h5 => ?_) (fun h5 => ?_)
      · have hc4 : l[4]? = none := List.getElem?_eq_none (by omega)
        refine LW.skip rfl rfl ?_
        refine LW.skip rfl rfl ?_
        refine LW.skip rfl rfl ?_
        first | refine LW.opV (ov_pickT rfl rfl) rfl rfl ?_ | refine LW.opV (ov_pickF rfl rfl) rfl rfl ?_ | refine LW.opV (ov_pick rfl rfl rfl) rfl rfl ?_
        first | refine LW.opV (ov_pickT rfl rfl) rfl rfl ?_ | refine LW.opV (ov_pickF rfl rfl) rfl rfl ?_ | refine LW.opV (ov_pick rfl rfl rfl) rfl rfl ?_
        refine LW.opV (ov_assign rfl) rfl rfl ?_
        refine LW.nil ?_
        refine KW.thenN ?_
        refine CW.ret ?_
        exact KW.retF (.cons (.tmp rfl) .nil) [] rfl rfl ⟨by simp [begB, hc0, hc4, hb, packV], rfl⟩
      · have hl4 : 4 < l.length := by omega
        obtain ⟨c4, hc4⟩ : ∃ c, l[4]? = some c := ⟨_, List.getElem?_eq_getElem hl4⟩
        refine LW.opV (ov_move rfl) rfl rfl ?_
        refine LW.opV (ov_strIdx (i := 4) un9 rfl rfl rfl (by assumption)) rfl rfl ?_
        refine LW.opV (ov_lss rfl rfl) rfl rfl ?_
        first | refine LW.opV (ov_pickT rfl rfl) rfl rfl ?_ | refine LW.opV (ov_pickF rfl rfl) rfl rfl ?_ | refine LW.opV (ov_pick rfl rfl rfl) rfl rfl ?_
        first | refine LW.opV (ov_pickT rfl rfl) rfl rfl ?_ | refine LW.opV (ov_pickF rfl rfl) rfl rfl ?_ | refine LW.opV (ov_pick rfl rfl rfl) rfl rfl ?_
        refine LW.opV (ov_assign rfl) rfl rfl ?_
        refine LW.nil ?_
        refine KW.thenN ?_
        refine CW.ret ?_
        exact KW.retF (.cons (.tmp rfl) .nil) [] rfl rfl ⟨by simp [begB, hc0, hc4, hb, packV]; omega, rfl⟩
    · refine LW.skip rfl rfl ?_
      refine LW.skip rfl rfl ?_
      refine LW.skip rfl rfl ?_
      refine LW.skip rfl rfl ?_
      refine LW.skip rfl rfl ?_
      refine LW.skip rfl rfl ?_
      refine LW.skip rfl rfl ?_
      refine LW.skip rfl rfl ?_
      first | refine LW.opV (ov_pickT rfl rfl) rfl rfl ?_ | refine LW.opV (ov_pickF rfl rfl) rfl rfl ?_ | refine LW.opV (ov_pick rfl rfl rfl) rfl rfl ?_
      refine LW.opV (ov_assign rfl) rfl rfl ?_
      refine LW.nil ?_
      refine KW.thenN ?_
      refine CW.ret ?_
      exact KW.retF (.cons (.tmp rfl) .nil) [] rfl rfl ⟨by simp [begB, hc0, hb, packV], rfl⟩

/-- the number at a place -/
def word (l : List UInt8) (i : Nat) : Int := match l[i]?, l[i + 1]? with
  | some a, some b => a.toNat * 256 + b.toNat
  | _, _ => 0
theorem word_lt (l : List UInt8) (i : Nat) : 0 ≤ word l i ∧ word l i < 65536 := by
  unfold word
  split
  · rename_i a b _ _
    have := a.toNat_lt; have := b.toNat_lt
    omega
  · omega
theorem word_ok {b : Nat} {l : List UInt8} {i : Nat} (hi : i + 1 < l.length) (hl : l.length ≤ 1000000000) : Fn Try.prog 24 #[.int .i64 i, .pointer (some ⟨b, 0, none⟩)] [row b 9 [S l]] (Ret fun v Q => v = .int .i64 (word l i) ∧ Q = [row b 9 [S l]]) := by
  refine Fn.of (args := _) Try.func24 rfl Try.ntmps24 rfl ?_
  intro w0 g0
  have hi0 : i < l.length := by omega
  obtain ⟨c0, hc0⟩ : ∃ c, l[i]? = some c := ⟨_, List.getElem?_eq_getElem hi0⟩
  obtain ⟨c1, hc1⟩ : ∃ c, l[i + 1]? = some c := ⟨_, List.getElem?_eq_getElem hi⟩
  have e8 : IntKind.i64.wrap (IntKind.i64.wrap c0.toNat * 2 ^ (min (8 : Int).toNat IntKind.i64.bits)) = c0.toNat * 256 := by
    have h := c0.toNat_lt
    have : (2 : Int) ^ (min (8 : Int).toNat IntKind.i64.bits) = 256 := by decide
    have e1 : IntKind.i64.wrap c0.toNat = c0.toNat := wrap_i64 (by omega)
    rw [e1, this, wrap_i64 (by omega)]
  have e14 : bits2 .or .i64 ((c0.toNat : Int) * 256) (IntKind.i64.wrap c1.toNat) = word l i := by
    have h := c0.toNat_lt
    have h' := c1.toNat_lt
    rw [wrap_i64 (by omega)]
    have := bits_or (a := c0.toNat) (b := c1.toNat) (k := 8) (by omega) (by omega)
    simp only [word, hc0, hc1]
    rw [show ((c0.toNat * 2 ^ 8 : Nat) : Int) = c0.toNat * 256 from by omega] at this
    rw [this]; omega
  refine CW.seq ?_
  refine CW.region ?_
  refine LW.opV (ov_assign rfl) rfl rfl ?_
  refine LW.nil ?_
  refine KW.thenN ?_
  refine CW.seq ?_
  refine CW.draw [1] rfl mixed rfl (ls := #[false, false, false, false, false, false, false, false, false, false, false, false]) (by kernel_rfl) ?_
  refine DW.take 0 [1] rfl (by kernel_rfl) (by kernel_rfl) (by kernel_rfl) (fun _ _ _ h => h) (ov_loadR 0 ta9 rfl rfl rfl) rfl rfl rfl rfl rfl ?_
  refine DW.take 1 [1] rfl (by kernel_rfl) (by kernel_rfl) (by kernel_rfl) (fun _ _ _ h => h) (ov_move rfl) rfl rfl rfl rfl rfl ?_
  refine DW.take 2 [1] rfl (by kernel_rfl) (by kernel_rfl) (by kernel_rfl) (fun _ _ _ h => h) (ov_strIdx un9 rfl rfl rfl (by assumption)) rfl rfl rfl rfl rfl ?_
  refine DW.take 3 [1] rfl (by kernel_rfl) (by kernel_rfl) (by kernel_rfl) (fun _ _ _ h => h) (ov_toInt un3 us5 rfl) rfl rfl rfl rfl rfl ?_
  refine DW.take 4 [1] rfl (by kernel_rfl) (by kernel_rfl) (by kernel_rfl) (fun _ _ _ h => h) (OpV.eq (ov_shl rfl rfl (by decide)) (congrArg (Value.int .i64) e8)) rfl rfl rfl rfl rfl ?_
  refine DW.take 5 [1] rfl (by kernel_rfl) (by kernel_rfl) (by kernel_rfl) (fun _ _ _ h => h) (ov_loadR 0 ta9 rfl rfl rfl) rfl rfl rfl rfl rfl ?_
  refine DW.take 6 [1] rfl (by kernel_rfl) (by kernel_rfl) (by kernel_rfl) (fun _ _ _ h => h) (ov_move rfl) rfl rfl rfl rfl rfl ?_
  first | refine DW.take 7 [1] rfl (by kernel_rfl) (by kernel_rfl) (by kernel_rfl) (fun _ _ _ h => h) (ov_add rfl rfl (by omega)) rfl rfl rfl rfl rfl ?_ | refine DW.take 7 [1] rfl (by kernel_rfl) (by kernel_rfl) (by kernel_rfl) (fun _ _ _ h => h) (ov_addW rfl rfl) rfl rfl rfl rfl rfl ?_
  refine DW.take 8 [1] rfl (by kernel_rfl) (by kernel_rfl) (by kernel_rfl) (fun _ _ _ h => h) (ov_strIdx (i := i + 1) un9 rfl rfl rfl hc1) rfl rfl rfl rfl rfl ?_
  refine DW.take 9 [1] rfl (by kernel_rfl) (by kernel_rfl) (by kernel_rfl) (fun _ _ _ h => h) (ov_toInt un3 us5 rfl) rfl rfl rfl rfl rfl ?_
  refine DW.take 10 [1] rfl (by kernel_rfl) (by kernel_rfl) (by kernel_rfl) (fun _ _ _ h => h) (ov_bits (.inr (.inl rfl)) rfl rfl e14) rfl rfl rfl rfl rfl ?_
  refine DW.take 11 [1] rfl (by kernel_rfl) (by kernel_rfl) (by kernel_rfl) (fun _ _ _ h => h) (ov_assign rfl) rfl rfl rfl rfl rfl ?_
  refine DW.done (by kernel_rfl) ?_
  refine KW.thenN ?_
  refine CW.ret ?_
  exact KW.retF (.cons (.tmp rfl) .nil) [1] rfl rfl ⟨rfl, rfl⟩

def pk0 : Pk := ⟨false, 0, 0, 0, []⟩
/-- the packet that is taken, its length, the error -/
def takeK (l : List UInt8) : Pk × Nat × Int :=
  if begB l = false then (pk0, 0, 6) else if l.length < 6 then (pk0, 0, 4) else
  let n := 7 + (word l 4).toNat
  if l.length < n then (pk0, 0, 4) else
  (⟨decide (word l 0 / 4096 % 2 ≠ 0), word l 0 % 2048, word l 2 / 16384, word l 2 % 16384, (l.drop 6).take (n - 6)⟩, n, 0)
theorem Take_ok {l : List UInt8} (hl : l.length ≤ 1000000000) : Fn Try.prog 16 #[S l] [] (Ret fun v Q => v = .tuple #[pkv (takeK l).1, .int .i64 (takeK l).2.1, .int .i64 (takeK l).2.2] ∧ Q = []) := by
  refine Fn.of (args := _) Try.func16 rfl Try.ntmps16 rfl ?_
  intro w0 g0
  refine CW.seq ?_
  refine CW.region ?_
  refine LW.opBA (ob_box rfl (.one rfl) (fun _ => .c (.n))) rfl rfl (fun b1 => ?_)
  refine LW.opBA (ob_alloc zc34 (fun _ => .c (.c (.n)))) rfl rfl (fun b2 => ?_)
  refine LW.opV (ov_assign rfl) rfl rfl ?_
  refine LW.opV (ov_assign rfl) rfl rfl ?_
  refine LW.nil ?_
  refine KW.thenN ?_
  refine CW.seq ?_
  refine CW.seq ?_
  refine CW.region ?_
  refine LW.opV (ov_loadR 1 ta9 rfl rfl rfl) rfl rfl ?_
  refine LW.call [] (oc_fn cf23 rfl) rfl rfl rfl rfl (begins_ok l) ?_
  rintro _ _ ⟨rfl, rfl⟩
  simp only [putBack, List.append_nil]
  refine LW.opV (ov_not rfl) rfl rfl ?_
  refine LW.nil ?_
  refine KW.thenN ?_
  by_cases h : begB l = false
  · refine CW.condT rfl (by simp [h]) ?_
    refine CW.seq ?_
    refine CW.region ?_
    refine LW.opV (ov_build zc34 pl34 rfl (.n)) rfl rfl ?_
    refine LW.opU (ou_storeW ta34 rfl rfl .agg rfl rfl (.h (.h (.h (.h (.h (.n)))))) (.t (.t (.h)))) rfl ?_
    refine LW.opV (ov_assign rfl) rfl rfl ?_
    refine LW.opV (ov_assign rfl) rfl rfl ?_
    refine LW.nil ?_
    refine KW.thenN ?_
    refine CW.ret ?_
    refine KW.thenR ?_
    have e : takeK l = (pk0, 0, 6) := by rw [takeK, if_pos h]
    rw [e]
    exact KW.retF (.cons (ResV.cellA 2 ta34 rfl rfl (.h (.h (.h (.h (.h .n)))))) (.cons (.tmp rfl) (.cons (.tmp rfl) .nil))) [] rfl rfl ⟨rfl, rfl⟩
  refine CW.condF rfl (by simpa using h) ?_
  refine CW.skip ?_
  refine KW.thenN ?_
  refine CW.seq ?_
  refine CW.seq ?_
  refine CW.region ?_
  refine LW.opV (ov_loadR 1 ta9 rfl rfl rfl) rfl rfl ?_
  refine LW.opV (ov_lenS un9 rfl) rfl rfl ?_
  refine LW.opV (ov_lss rfl rfl) rfl rfl ?_
  refine LW.nil ?_
  refine KW.thenN ?_
  refine CW.condD (by rfl) (fun h6 => ?_) (fun h6 => ?_)
  · refine CW.seq ?_
    refine CW.region ?_
    refine LW.opV (ov_build zc34 pl34 rfl (.n)) rfl rfl ?_
    refine LW.opU (ou_storeW ta34 rfl rfl .agg rfl rfl (.h (.h (.h (.h (.h (.n)))))) (.t (.t (.h)))) rfl ?_
    refine LW.opV (ov_assign rfl) rfl rfl ?_
    refine LW.opV (ov_assign rfl) rfl rfl ?_
    refine LW.nil ?_
    refine KW.thenN ?_
    refine CW.ret ?_
    refine KW.thenR ?_
    have e : takeK l = (pk0, 0, 4) := by rw [takeK, if_neg h, if_pos (by omega)]
    rw [e]
    exact KW.retF (.cons (ResV.cellA 2 ta34 rfl rfl (.h (.h (.h (.h (.h .n)))))) (.cons (.tmp rfl) (.cons (.tmp rfl) .nil))) [] rfl rfl ⟨rfl, rfl⟩
  obtain ⟨hw40, hw41⟩ := word_lt l 4
  obtain ⟨hw00, hw01⟩ := word_lt l 0
  obtain ⟨hw20, hw21⟩ := word_lt l 2
  refine CW.skip ?_
  refine KW.thenN ?_
  refine CW.seq ?_
  refine CW.region ?_
  refine LW.opV (ov_mkFunc rfl rfl) rfl rfl ?_
  refine LW.opV (ov_assign rfl) rfl rfl ?_
  refine LW.nil ?_
  refine KW.thenN ?_
  refine CW.seq ?_
  refine CW.region ?_
  refine LW.opV (ov_move rfl) rfl rfl ?_
  refine LW.call [1] (oc_clo (by kernel_rfl) rfl rfl) rfl rfl rfl rfl (word_ok (l := l) (i := 4) (by omega) hl) ?_
  rintro _ _ ⟨rfl, rfl⟩
  simp only [putBack, List.set_cons_succ, List.set_cons_zero, List.append_nil]
  first | refine LW.opV (ov_add rfl rfl (by omega)) rfl rfl ?_ | refine LW.opV (ov_addW rfl rfl) rfl rfl ?_
  first | refine LW.opV (ov_add rfl rfl (by omega)) rfl rfl ?_ | refine LW.opV (ov_addW rfl rfl) rfl rfl ?_
  refine LW.opV (ov_assign rfl) rfl rfl ?_
  refine LW.nil ?_
  refine KW.thenN ?_
  refine CW.seq ?_
  refine CW.seq ?_
  refine CW.region ?_
  refine LW.opV (ov_loadR 1 ta9 rfl rfl rfl) rfl rfl ?_
  refine LW.opV (ov_lenS un9 rfl) rfl rfl ?_
  refine LW.opV (ov_move rfl) rfl rfl ?_
  refine LW.opV (ov_lss rfl rfl) rfl rfl ?_
  refine LW.nil ?_
  refine KW.thenN ?_
  refine CW.condD (by rfl) (fun hn => ?_) (fun hn => ?_)
  · refine CW.seq ?_
    refine CW.region ?_
    refine LW.opV (ov_build zc34 pl34 rfl (.n)) rfl rfl ?_
    refine LW.opU (ou_storeW ta34 rfl rfl .agg rfl rfl (.h (.h (.h (.h (.h (.n)))))) (.t (.t (.h)))) rfl ?_
    refine LW.opV (ov_assign rfl) rfl rfl ?_
    refine LW.opV (ov_assign rfl) rfl rfl ?_
    refine LW.nil ?_
    refine KW.thenN ?_
    refine CW.ret ?_
    refine KW.thenR ?_
    have e : takeK l = (pk0, 0, 4) := by rw [takeK, if_neg h, if_neg (by omega)]; simp only; rw [if_pos (by omega)]
    rw [e]
    exact KW.retF (.cons (ResV.cellA 2 ta34 rfl rfl (.h (.h (.h (.h (.h .n)))))) (.cons (.tmp rfl) (.cons (.tmp rfl) .nil))) [] rfl rfl ⟨rfl, rfl⟩
  refine CW.skip ?_
  refine KW.thenN ?_
  refine CW.seq ?_
  have e28 : bits2 .and .i64 (word l 0) 4096 = word l 0 / 4096 % 2 * 4096 := by
    have key : ∀ n : Nat, n &&& 4096 = n / 4096 % 2 * 4096 := by
      intro n
      have h1 : n &&& 4096 = if n.testBit 12 then 4096 else 0 := by
        rw [show (4096 : Nat) = 2 ^ 12 from rfl]
        apply Nat.eq_of_testBit_eq
        intro i
        rw [Nat.testBit_and, Nat.testBit_two_pow]
        by_cases q : 12 = i
        · subst q; cases n.testBit 12 <;> decide
        · have h2 : (4096 : Nat).testBit i = false := by rw [show (4096 : Nat) = 2 ^ 12 from rfl, Nat.testBit_two_pow]; simpa using q
          cases n.testBit 12 <;> simp [q, h2]
      rw [h1, Nat.testBit_eq_decide_div_mod_eq]
      by_cases q : n / 2 ^ 12 % 2 = 1
      · rw [if_pos (by simpa using q)]; omega
      · rw [if_neg (by simpa using q)]; omega
    have e0 : (BitVec.ofInt 64 (word l 0) &&& BitVec.ofInt 64 4096).toNat = (word l 0).toNat &&& 4096 := by
      rw [BitVec.toNat_and, BitVec.toNat_ofInt, BitVec.toNat_ofInt, Int.emod_eq_of_lt (by omega) (by omega)]; rfl
    show IntKind.i64.wrap ((BitVec.ofInt 64 (word l 0) &&& BitVec.ofInt 64 4096).toNat : Int) = _
    rw [e0, key, wrap_nat (by omega)]
    omega
  have e32 : bits2 .and .i64 (word l 0) 2047 = word l 0 % 2048 := bits_mask _ 11 (by omega)
  have e35 : (word l 2).fdiv (2 ^ (min (14 : Int).toNat IntKind.i64.bits)) = word l 2 / 16384 := Int.fdiv_eq_ediv_of_nonneg _ (by decide)
  generalize hN : 7 + (word l 4).toNat = n
  refine CW.draw [1] rfl mixed rfl (ls := #[false, false, false, false, false, false, false, false, false, false, false, false, false, false, false, false, false, false, false, false]) (by kernel_rfl) ?_
  have e : takeK l = (⟨decide (word l 0 / 4096 % 2 ≠ 0), word l 0 % 2048, word l 2 / 16384, word l 2 % 16384, (l.drop 6).take (n - 6)⟩, n, 0) := by
    rw [takeK, if_neg h, if_neg (by omega)]; simp only; rw [hN, if_neg (by omega)]
  rw [e]
  have en : (6 + word l 4 + 1 : Int) = (n : Int) := by omega
  have ec : decide (word l 0 / 4096 % 2 * 4096 ≠ 0) = decide (word l 0 / 4096 % 2 ≠ 0) := decide_eq_decide.2 (by omega)
  refine DW.take 0 [1] rfl (by kernel_rfl) (by kernel_rfl) (by kernel_rfl) (fun _ _ _ h => h) (ov_move rfl) rfl rfl rfl rfl rfl ?_
  refine DW.take 4 [1] rfl (by kernel_rfl) (by kernel_rfl) (by kernel_rfl) (fun _ _ _ h => h) (ov_move rfl) rfl rfl rfl rfl rfl ?_
  refine DW.take 7 [1] rfl (by kernel_rfl) (by kernel_rfl) (by kernel_rfl) (fun _ _ _ h => h) (ov_move rfl) rfl rfl rfl rfl rfl ?_
  refine DW.take 10 [1] rfl (by kernel_rfl) (by kernel_rfl) (by kernel_rfl) (fun _ _ _ h => h) (ov_move rfl) rfl rfl rfl rfl rfl ?_
  refine DW.take 13 [1] rfl (by kernel_rfl) (by kernel_rfl) (by kernel_rfl) (fun _ _ _ h => h) (ov_loadR 0 ta9 rfl rfl rfl) rfl rfl rfl rfl rfl ?_
  refine DW.take 14 [1] rfl (by kernel_rfl) (by kernel_rfl) (by kernel_rfl) (fun _ _ _ h => h) (ov_move rfl) rfl rfl rfl rfl rfl ?_
  refine DW.take 15 [1] rfl (by kernel_rfl) (by kernel_rfl) (by kernel_rfl) (fun _ _ _ h => h) (ov_strSlice (i := 6) (j := n) un9 rfl ⟨_, _, rfl, rfl⟩ ⟨_, _, rfl, by omega⟩ (by omega) (by omega)) rfl rfl rfl rfl rfl ?_
  refine DW.all2 1 18 (by kernel_rfl) ?_ ?_
  · refine DO.call [1] [1] rfl (oc_clo (by kernel_rfl) rfl rfl) rfl rfl rfl rfl (word_ok (l := l) (i := 0) (by omega) hl) (by rintro _ _ ⟨rfl, rfl⟩; exact ⟨rfl, rfl⟩) rfl ?_
    rintro _ _ ⟨rfl, rfl⟩
    simp only [putBack, List.set_cons_succ, List.set_cons_zero, List.cons_append, List.nil_append, List.append_nil]
    refine DW.take 2 [1] rfl (by kernel_rfl) (by kernel_rfl) (by kernel_rfl) (fun _ _ _ h => h) (ov_bits (.inl rfl) rfl rfl e28) rfl rfl rfl rfl rfl ?_
    refine DW.take 3 [1] rfl (by kernel_rfl) (by kernel_rfl) (by kernel_rfl) (fun _ _ _ h => h) (ov_neq rfl rfl) rfl rfl rfl rfl rfl ?_
    refine DW.all2 5 18 (by kernel_rfl) ?_ ?_
    · refine DO.call [1] [1] rfl (oc_clo (by kernel_rfl) rfl rfl) rfl rfl rfl rfl (word_ok (l := l) (i := 0) (by omega) hl) (by rintro _ _ ⟨rfl, rfl⟩; exact ⟨rfl, rfl⟩) rfl ?_
      rintro _ _ ⟨rfl, rfl⟩
      simp only [putBack, List.set_cons_succ, List.set_cons_zero, List.cons_append, List.nil_append, List.append_nil]
      refine DW.take 6 [1] rfl (by kernel_rfl) (by kernel_rfl) (by kernel_rfl) (fun _ _ _ h => h) (ov_bits (.inl rfl) rfl rfl e32) rfl rfl rfl rfl rfl ?_
      refine DW.all2 8 18 (by kernel_rfl) ?_ ?_
      · refine DO.call [1] [1] rfl (oc_clo (by kernel_rfl) rfl rfl) rfl rfl rfl rfl (word_ok (l := l) (i := 2) (by omega) hl) (by rintro _ _ ⟨rfl, rfl⟩; exact ⟨rfl, rfl⟩) rfl ?_
        rintro _ _ ⟨rfl, rfl⟩
        simp only [putBack, List.set_cons_succ, List.set_cons_zero, List.cons_append, List.nil_append, List.append_nil]
        refine DW.take 9 [1] rfl (by kernel_rfl) (by kernel_rfl) (by kernel_rfl) (fun _ _ _ h => h) (OpV.eq (ov_shr rfl rfl (by decide)) (congrArg (Value.int .i64) e35)) rfl rfl rfl rfl rfl ?_
        refine DW.all2 11 18 (by kernel_rfl) ?_ ?_
        · refine DO.call [1] [1] rfl (oc_clo (by kernel_rfl) rfl rfl) rfl rfl rfl rfl (word_ok (l := l) (i := 2) (by omega) hl) (by rintro _ _ ⟨rfl, rfl⟩; exact ⟨rfl, rfl⟩) rfl ?_
          rintro _ _ ⟨rfl, rfl⟩
          simp only [putBack, List.set_cons_succ, List.set_cons_zero, List.cons_append, List.nil_append, List.append_nil]
          refine DW.take 12 [1] rfl (by kernel_rfl) (by kernel_rfl) (by kernel_rfl) (fun _ _ _ h => h) (ov_bits (.inl rfl) rfl rfl (mask14 _)) rfl rfl rfl rfl rfl ?_
          refine DW.all2 16 18 (by kernel_rfl) ?_ ?_
          · refine DO.call [1] [] rfl (oc_fn cf21 rfl) rfl rfl rfl rfl (Clone_ok (l := (l.drop 6).take (n - 6)) (by simp; omega)) (by rintro _ _ ⟨rfl, rfl⟩; exact ⟨rfl, rfl⟩) rfl ?_
            rintro _ _ ⟨rfl, rfl⟩
            simp only [putBack, List.set_cons_succ, List.set_cons_zero, List.cons_append, List.nil_append, List.append_nil]
            refine DW.take 17 [1] rfl (by kernel_rfl) (by kernel_rfl) (by kernel_rfl) (fun _ _ _ h => h) (ov_build zc34 pl34 rfl (.c rfl (.one rfl) rfl (.h (.n)) (.c rfl (.one rfl) rfl (.t (.h (.n))) (.c rfl (.one rfl) rfl (.t (.t (.h (.n)))) (.c rfl (.one rfl) rfl (.t (.t (.t (.h (.n))))) (.c rfl (.one rfl) rfl (.t (.t (.t (.t (.h (.n)))))) (.n))))))) rfl rfl rfl rfl rfl ?_
            refine DW.all1 18 (by kernel_rfl) ?_
            refine DO.opBA [1] rfl (ob_alloc zc34 (fun _ => .c (.c (.c (.n))))) rfl rfl (fun _ => rfl) (fun _ => rfl) rfl (fun b7 => ?_)
            refine DW.all1 19 (by kernel_rfl) ?_
            refine DO.opU [1] rfl (ou_storeW ta34 rfl rfl .agg rfl rfl (.h (.h (.h (.h (.h (.n)))))) (.t (.t (.t (.h))))) rfl rfl rfl rfl ?_
            refine DW.done (by kernel_rfl) ?_
            refine KW.thenN ?_
            refine CW.seq ?_
            refine CW.region ?_
            refine LW.opV (ov_loadAR 3 ta34 rfl rfl (.h (.h (.h (.h (.h (.n))))))) rfl rfl ?_
            refine LW.opV (ov_move rfl) rfl rfl ?_
            refine LW.opU (ou_storeW ta34 rfl rfl .agg rfl rfl (.h (.h (.h (.h (.h (.n)))))) (.t (.t (.h)))) rfl ?_
            refine LW.opV (ov_assign rfl) rfl rfl ?_
            refine LW.opV (ov_assign rfl) rfl rfl ?_
            refine LW.nil ?_
            refine KW.thenN ?_
            refine CW.ret ?_
            exact KW.retF (.cons (ResV.cellA 2 ta34 rfl rfl (.h (.h (.h (.h (.h .n)))))) (.cons (.tmp rfl) (.cons (.tmp rfl) .nil))) [] rfl rfl ⟨by rw [en, ec]; rfl, rfl⟩
          · refine DO.opBA [1] rfl (ob_alloc zc34 (fun _ => .c (.c (.c (.n))))) rfl rfl (fun _ => rfl) (fun _ => rfl) rfl (fun b7 => ?_)
            refine DW.all1 16 (by kernel_rfl) ?_
            refine DO.call [1] [] rfl (oc_fn cf21 rfl) rfl rfl rfl rfl (Clone_ok (l := (l.drop 6).take (n - 6)) (by simp; omega)) (by rintro _ _ ⟨rfl, rfl⟩; exact ⟨rfl, rfl⟩) rfl ?_
            rintro _ _ ⟨rfl, rfl⟩
            simp only [putBack, List.set_cons_succ, List.set_cons_zero, List.cons_append, List.nil_append, List.append_nil]
            refine DW.take 17 [1] rfl (by kernel_rfl) (by kernel_rfl) (by kernel_rfl) (fun _ _ _ h => h) (ov_build zc34 pl34 rfl (.c rfl (.one rfl) rfl (.h (.n)) (.c rfl (.one rfl) rfl (.t (.h (.n))) (.c rfl (.one rfl) rfl (.t (.t (.h (.n)))) (.c rfl (.one rfl) rfl (.t (.t (.t (.h (.n))))) (.c rfl (.one rfl) rfl (.t (.t (.t (.t (.h (.n)))))) (.n))))))) rfl rfl rfl rfl rfl ?_
            refine DW.all1 19 (by kernel_rfl) ?_
            refine DO.opU [1] rfl (ou_storeW ta34 rfl rfl .agg rfl rfl (.h (.h (.h (.h (.h (.n)))))) (.t (.t (.t (.h))))) rfl rfl rfl rfl ?_
            refine DW.done (by kernel_rfl) ?_
            refine KW.thenN ?_
            refine CW.seq ?_
            refine CW.region ?_
            refine LW.opV (ov_loadAR 3 ta34 rfl rfl (.h (.h (.h (.h (.h (.n))))))) rfl rfl ?_
            refine LW.opV (ov_move rfl) rfl rfl ?_
            refine LW.opU (ou_storeW ta34 rfl rfl .agg rfl rfl (.h (.h (.h (.h (.h (.n)))))) (.t (.t (.h)))) rfl ?_
            refine LW.opV (ov_assign rfl) rfl rfl ?_
            refine LW.opV (ov_assign rfl) rfl rfl ?_
            refine LW.nil ?_
            refine KW.thenN ?_
            refine CW.ret ?_
            exact KW.retF (.cons (ResV.cellA 2 ta34 rfl rfl (.h (.h (.h (.h (.h .n)))))) (.cons (.tmp rfl) (.cons (.tmp rfl) .nil))) [] rfl rfl ⟨by rw [en, ec]; rfl, rfl⟩
        · refine DO.opBA [1] rfl (ob_alloc zc34 (fun _ => .c (.c (.c (.n))))) rfl rfl (fun _ => rfl) (fun _ => rfl) rfl (fun b7 => ?_)
          refine DW.all1 11 (by kernel_rfl) ?_
          refine DO.call [1] [1] rfl (oc_clo (by kernel_rfl) rfl rfl) rfl rfl rfl rfl (word_ok (l := l) (i := 2) (by omega) hl) (by rintro _ _ ⟨rfl, rfl⟩; exact ⟨rfl, rfl⟩) rfl ?_
          rintro _ _ ⟨rfl, rfl⟩
          simp only [putBack, List.set_cons_succ, List.set_cons_zero, List.cons_append, List.nil_append, List.append_nil]
          refine DW.take 12 [1] rfl (by kernel_rfl) (by kernel_rfl) (by kernel_rfl) (fun _ _ _ h => h) (ov_bits (.inl rfl) rfl rfl (mask14 _)) rfl rfl rfl rfl rfl ?_
          refine DW.all1 16 (by kernel_rfl) ?_
          refine DO.call [1] [] rfl (oc_fn cf21 rfl) rfl rfl rfl rfl (Clone_ok (l := (l.drop 6).take (n - 6)) (by simp; omega)) (by rintro _ _ ⟨rfl, rfl⟩; exact ⟨rfl, rfl⟩) rfl ?_
          rintro _ _ ⟨rfl, rfl⟩
          simp only [putBack, List.set_cons_succ, List.set_cons_zero, List.cons_append, List.nil_append, List.append_nil]
          refine DW.take 17 [1] rfl (by kernel_rfl) (by kernel_rfl) (by kernel_rfl) (fun _ _ _ h => h) (ov_build zc34 pl34 rfl (.c rfl (.one rfl) rfl (.h (.n)) (.c rfl (.one rfl) rfl (.t (.h (.n))) (.c rfl (.one rfl) rfl (.t (.t (.h (.n)))) (.c rfl (.one rfl) rfl (.t (.t (.t (.h (.n))))) (.c rfl (.one rfl) rfl (.t (.t (.t (.t (.h (.n)))))) (.n))))))) rfl rfl rfl rfl rfl ?_
          refine DW.all1 19 (by kernel_rfl) ?_
          refine DO.opU [1] rfl (ou_storeW ta34 rfl rfl .agg rfl rfl (.h (.h (.h (.h (.h (.n)))))) (.t (.t (.t (.h))))) rfl rfl rfl rfl ?_
          refine DW.done (by kernel_rfl) ?_
          refine KW.thenN ?_
          refine CW.seq ?_
          refine CW.region ?_
          refine LW.opV (ov_loadAR 3 ta34 rfl rfl (.h (.h (.h (.h (.h (.n))))))) rfl rfl ?_
          refine LW.opV (ov_move rfl) rfl rfl ?_
          refine LW.opU (ou_storeW ta34 rfl rfl .agg rfl rfl (.h (.h (.h (.h (.h (.n)))))) (.t (.t (.h)))) rfl ?_
          refine LW.opV (ov_assign rfl) rfl rfl ?_
          refine LW.opV (ov_assign rfl) rfl rfl ?_
          refine LW.nil ?_
          refine KW.thenN ?_
          refine CW.ret ?_
          exact KW.retF (.cons (ResV.cellA 2 ta34 rfl rfl (.h (.h (.h (.h (.h .n)))))) (.cons (.tmp rfl) (.cons (.tmp rfl) .nil))) [] rfl rfl ⟨by rw [en, ec]; rfl, rfl⟩
      · refine DO.opBA [1] rfl (ob_alloc zc34 (fun _ => .c (.c (.c (.n))))) rfl rfl (fun _ => rfl) (fun _ => rfl) rfl (fun b7 => ?_)
        refine DW.all1 8 (by kernel_rfl) ?_
        refine DO.call [1] [1] rfl (oc_clo (by kernel_rfl) rfl rfl) rfl rfl rfl rfl (word_ok (l := l) (i := 2) (by omega) hl) (by rintro _ _ ⟨rfl, rfl⟩; exact ⟨rfl, rfl⟩) rfl ?_
        rintro _ _ ⟨rfl, rfl⟩
        simp only [putBack, List.set_cons_succ, List.set_cons_zero, List.cons_append, List.nil_append, List.append_nil]
        refine DW.take 9 [1] rfl (by kernel_rfl) (by kernel_rfl) (by kernel_rfl) (fun _ _ _ h => h) (OpV.eq (ov_shr rfl rfl (by decide)) (congrArg (Value.int .i64) e35)) rfl rfl rfl rfl rfl ?_
        refine DW.all1 11 (by kernel_rfl) ?_
        refine DO.call [1] [1] rfl (oc_clo (by kernel_rfl) rfl rfl) rfl rfl rfl rfl (word_ok (l := l) (i := 2) (by omega) hl) (by rintro _ _ ⟨rfl, rfl⟩; exact ⟨rfl, rfl⟩) rfl ?_
        rintro _ _ ⟨rfl, rfl⟩
        simp only [putBack, List.set_cons_succ, List.set_cons_zero, List.cons_append, List.nil_append, List.append_nil]
        refine DW.take 12 [1] rfl (by kernel_rfl) (by kernel_rfl) (by kernel_rfl) (fun _ _ _ h => h) (ov_bits (.inl rfl) rfl rfl (mask14 _)) rfl rfl rfl rfl rfl ?_
        refine DW.all1 16 (by kernel_rfl) ?_
        refine DO.call [1] [] rfl (oc_fn cf21 rfl) rfl rfl rfl rfl (Clone_ok (l := (l.drop 6).take (n - 6)) (by simp; omega)) (by rintro _ _ ⟨rfl, rfl⟩; exact ⟨rfl, rfl⟩) rfl ?_
        rintro _ _ ⟨rfl, rfl⟩
        simp only [putBack, List.set_cons_succ, List.set_cons_zero, List.cons_append, List.nil_append, List.append_nil]
        refine DW.take 17 [1] rfl (by kernel_rfl) (by kernel_rfl) (by kernel_rfl) (fun _ _ _ h => h) (ov_build zc34 pl34 rfl (.c rfl (.one rfl) rfl (.h (.n)) (.c rfl (.one rfl) rfl (.t (.h (.n))) (.c rfl (.one rfl) rfl (.t (.t (.h (.n)))) (.c rfl (.one rfl) rfl (.t (.t (.t (.h (.n))))) (.c rfl (.one rfl) rfl (.t (.t (.t (.t (.h (.n)))))) (.n))))))) rfl rfl rfl rfl rfl ?_
        refine DW.all1 19 (by kernel_rfl) ?_
        refine DO.opU [1] rfl (ou_storeW ta34 rfl rfl .agg rfl rfl (.h (.h (.h (.h (.h (.n)))))) (.t (.t (.t (.h))))) rfl rfl rfl rfl ?_
        refine DW.done (by kernel_rfl) ?_
        refine KW.thenN ?_
        refine CW.seq ?_
        refine CW.region ?_
        refine LW.opV (ov_loadAR 3 ta34 rfl rfl (.h (.h (.h (.h (.h (.n))))))) rfl rfl ?_
        refine LW.opV (ov_move rfl) rfl rfl ?_
        refine LW.opU (ou_storeW ta34 rfl rfl .agg rfl rfl (.h (.h (.h (.h (.h (.n)))))) (.t (.t (.h)))) rfl ?_
        refine LW.opV (ov_assign rfl) rfl rfl ?_
        refine LW.opV (ov_assign rfl) rfl rfl ?_
        refine LW.nil ?_
        refine KW.thenN ?_
        refine CW.ret ?_
        exact KW.retF (.cons (ResV.cellA 2 ta34 rfl rfl (.h (.h (.h (.h (.h .n)))))) (.cons (.tmp rfl) (.cons (.tmp rfl) .nil))) [] rfl rfl ⟨by rw [en, ec]; rfl, rfl⟩
    · refine DO.opBA [1] rfl (ob_alloc zc34 (fun _ => .c (.c (.c (.n))))) rfl rfl (fun _ => rfl) (fun _ => rfl) rfl (fun b7 => ?_)
      refine DW.all1 5 (by kernel_rfl) ?_
      refine DO.call [1] [1] rfl (oc_clo (by kernel_rfl) rfl rfl) rfl rfl rfl rfl (word_ok (l := l) (i := 0) (by omega) hl) (by rintro _ _ ⟨rfl, rfl⟩; exact ⟨rfl, rfl⟩) rfl ?_
      rintro _ _ ⟨rfl, rfl⟩
      simp only [putBack, List.set_cons_succ, List.set_cons_zero, List.cons_append, List.nil_append, List.append_nil]
      refine DW.take 6 [1] rfl (by kernel_rfl) (by kernel_rfl) (by kernel_rfl) (fun _ _ _ h => h) (ov_bits (.inl rfl) rfl rfl e32) rfl rfl rfl rfl rfl ?_
      refine DW.all1 8 (by kernel_rfl) ?_
      refine DO.call [1] [1] rfl (oc_clo (by kernel_rfl) rfl rfl) rfl rfl rfl rfl (word_ok (l := l) (i := 2) (by omega) hl) (by rintro _ _ ⟨rfl, rfl⟩; exact ⟨rfl, rfl⟩) rfl ?_
      rintro _ _ ⟨rfl, rfl⟩
      simp only [putBack, List.set_cons_succ, List.set_cons_zero, List.cons_append, List.nil_append, List.append_nil]
      refine DW.take 9 [1] rfl (by kernel_rfl) (by kernel_rfl) (by kernel_rfl) (fun _ _ _ h => h) (OpV.eq (ov_shr rfl rfl (by decide)) (congrArg (Value.int .i64) e35)) rfl rfl rfl rfl rfl ?_
      refine DW.all1 11 (by kernel_rfl) ?_
      refine DO.call [1] [1] rfl (oc_clo (by kernel_rfl) rfl rfl) rfl rfl rfl rfl (word_ok (l := l) (i := 2) (by omega) hl) (by rintro _ _ ⟨rfl, rfl⟩; exact ⟨rfl, rfl⟩) rfl ?_
      rintro _ _ ⟨rfl, rfl⟩
      simp only [putBack, List.set_cons_succ, List.set_cons_zero, List.cons_append, List.nil_append, List.append_nil]
      refine DW.take 12 [1] rfl (by kernel_rfl) (by kernel_rfl) (by kernel_rfl) (fun _ _ _ h => h) (ov_bits (.inl rfl) rfl rfl (mask14 _)) rfl rfl rfl rfl rfl ?_
      refine DW.all1 16 (by kernel_rfl) ?_
      refine DO.call [1] [] rfl (oc_fn cf21 rfl) rfl rfl rfl rfl (Clone_ok (l := (l.drop 6).take (n - 6)) (by simp; omega)) (by rintro _ _ ⟨rfl, rfl⟩; exact ⟨rfl, rfl⟩) rfl ?_
      rintro _ _ ⟨rfl, rfl⟩
      simp only [putBack, List.set_cons_succ, List.set_cons_zero, List.cons_append, List.nil_append, List.append_nil]
      refine DW.take 17 [1] rfl (by kernel_rfl) (by kernel_rfl) (by kernel_rfl) (fun _ _ _ h => h) (ov_build zc34 pl34 rfl (.c rfl (.one rfl) rfl (.h (.n)) (.c rfl (.one rfl) rfl (.t (.h (.n))) (.c rfl (.one rfl) rfl (.t (.t (.h (.n)))) (.c rfl (.one rfl) rfl (.t (.t (.t (.h (.n))))) (.c rfl (.one rfl) rfl (.t (.t (.t (.t (.h (.n)))))) (.n))))))) rfl rfl rfl rfl rfl ?_
      refine DW.all1 19 (by kernel_rfl) ?_
      refine DO.opU [1] rfl (ou_storeW ta34 rfl rfl .agg rfl rfl (.h (.h (.h (.h (.h (.n)))))) (.t (.t (.t (.h))))) rfl rfl rfl rfl ?_
      refine DW.done (by kernel_rfl) ?_
      refine KW.thenN ?_
      refine CW.seq ?_
      refine CW.region ?_
      refine LW.opV (ov_loadAR 3 ta34 rfl rfl (.h (.h (.h (.h (.h (.n))))))) rfl rfl ?_
      refine LW.opV (ov_move rfl) rfl rfl ?_
      refine LW.opU (ou_storeW ta34 rfl rfl .agg rfl rfl (.h (.h (.h (.h (.h (.n)))))) (.t (.t (.h)))) rfl ?_
      refine LW.opV (ov_assign rfl) rfl rfl ?_
      refine LW.opV (ov_assign rfl) rfl rfl ?_
      refine LW.nil ?_
      refine KW.thenN ?_
      refine CW.ret ?_
      exact KW.retF (.cons (ResV.cellA 2 ta34 rfl rfl (.h (.h (.h (.h (.h .n)))))) (.cons (.tmp rfl) (.cons (.tmp rfl) .nil))) [] rfl rfl ⟨by rw [en, ec]; rfl, rfl⟩
  · refine DO.opBA [1] rfl (ob_alloc zc34 (fun _ => .c (.c (.c (.n))))) rfl rfl (fun _ => rfl) (fun _ => rfl) rfl (fun b7 => ?_)
    refine DW.all1 1 (by kernel_rfl) ?_
    refine DO.call [1] [1] rfl (oc_clo (by kernel_rfl) rfl rfl) rfl rfl rfl rfl (word_ok (l := l) (i := 0) (by omega) hl) (by rintro _ _ ⟨rfl, rfl⟩; exact ⟨rfl, rfl⟩) rfl ?_
    rintro _ _ ⟨rfl, rfl⟩
    simp only [putBack, List.set_cons_succ, List.set_cons_zero, List.cons_append, List.nil_append, List.append_nil]
    refine DW.take 2 [1] rfl (by kernel_rfl) (by kernel_rfl) (by kernel_rfl) (fun _ _ _ h => h) (ov_bits (.inl rfl) rfl rfl e28) rfl rfl rfl rfl rfl ?_
    refine DW.take 3 [1] rfl (by kernel_rfl) (by kernel_rfl) (by kernel_rfl) (fun _ _ _ h => h) (ov_neq rfl rfl) rfl rfl rfl rfl rfl ?_
    refine DW.all1 5 (by kernel_rfl) ?_
    refine DO.call [1] [1] rfl (oc_clo (by kernel_rfl) rfl rfl) rfl rfl rfl rfl (word_ok (l := l) (i := 0) (by omega) hl) (by rintro _ _ ⟨rfl, rfl⟩; exact ⟨rfl, rfl⟩) rfl ?_
    rintro _ _ ⟨rfl, rfl⟩
    simp only [putBack, List.set_cons_succ, List.set_cons_zero, List.cons_append, List.nil_append, List.append_nil]
    refine DW.take 6 [1] rfl (by kernel_rfl) (by kernel_rfl) (by kernel_rfl) (fun _ _ _ h => h) (ov_bits (.inl rfl) rfl rfl e32) rfl rfl rfl rfl rfl ?_
    refine DW.all1 8 (by kernel_rfl) ?_
    refine DO.call [1] [1] rfl (oc_clo (by kernel_rfl) rfl rfl) rfl rfl rfl rfl (word_ok (l := l) (i := 2) (by omega) hl) (by rintro _ _ ⟨rfl, rfl⟩; exact ⟨rfl, rfl⟩) rfl ?_
    rintro _ _ ⟨rfl, rfl⟩
    simp only [putBack, List.set_cons_succ, List.set_cons_zero, List.cons_append, List.nil_append, List.append_nil]
    refine DW.take 9 [1] rfl (by kernel_rfl) (by kernel_rfl) (by kernel_rfl) (fun _ _ _ h => h) (OpV.eq (ov_shr rfl rfl (by decide)) (congrArg (Value.int .i64) e35)) rfl rfl rfl rfl rfl ?_
    refine DW.all1 11 (by kernel_rfl) ?_
    refine DO.call [1] [1] rfl (oc_clo (by kernel_rfl) rfl rfl) rfl rfl rfl rfl (word_ok (l := l) (i := 2) (by omega) hl) (by rintro _ _ ⟨rfl, rfl⟩; exact ⟨rfl, rfl⟩) rfl ?_
    rintro _ _ ⟨rfl, rfl⟩
    simp only [putBack, List.set_cons_succ, List.set_cons_zero, List.cons_append, List.nil_append, List.append_nil]
    refine DW.take 12 [1] rfl (by kernel_rfl) (by kernel_rfl) (by kernel_rfl) (fun _ _ _ h => h) (ov_bits (.inl rfl) rfl rfl (mask14 _)) rfl rfl rfl rfl rfl ?_
    refine DW.all1 16 (by kernel_rfl) ?_
    refine DO.call [1] [] rfl (oc_fn cf21 rfl) rfl rfl rfl rfl (Clone_ok (l := (l.drop 6).take (n - 6)) (by simp; omega)) (by rintro _ _ ⟨rfl, rfl⟩; exact ⟨rfl, rfl⟩) rfl ?_
    rintro _ _ ⟨rfl, rfl⟩
    simp only [putBack, List.set_cons_succ, List.set_cons_zero, List.cons_append, List.nil_append, List.append_nil]
    refine DW.take 17 [1] rfl (by kernel_rfl) (by kernel_rfl) (by kernel_rfl) (fun _ _ _ h => h) (ov_build zc34 pl34 rfl (.c rfl (.one rfl) rfl (.h (.n)) (.c rfl (.one rfl) rfl (.t (.h (.n))) (.c rfl (.one rfl) rfl (.t (.t (.h (.n)))) (.c rfl (.one rfl) rfl (.t (.t (.t (.h (.n))))) (.c rfl (.one rfl) rfl (.t (.t (.t (.t (.h (.n)))))) (.n))))))) rfl rfl rfl rfl rfl ?_
    refine DW.all1 19 (by kernel_rfl) ?_
    refine DO.opU [1] rfl (ou_storeW ta34 rfl rfl .agg rfl rfl (.h (.h (.h (.h (.h (.n)))))) (.t (.t (.t (.h))))) rfl rfl rfl rfl ?_
    refine DW.done (by kernel_rfl) ?_
    refine KW.thenN ?_
    refine CW.seq ?_
    refine CW.region ?_
    refine LW.opV (ov_loadAR 3 ta34 rfl rfl (.h (.h (.h (.h (.h (.n))))))) rfl rfl ?_
    refine LW.opV (ov_move rfl) rfl rfl ?_
    refine LW.opU (ou_storeW ta34 rfl rfl .agg rfl rfl (.h (.h (.h (.h (.h (.n)))))) (.t (.t (.h)))) rfl ?_
    refine LW.opV (ov_assign rfl) rfl rfl ?_
    refine LW.opV (ov_assign rfl) rfl rfl ?_
    refine LW.nil ?_
    refine KW.thenN ?_
    refine CW.ret ?_
    exact KW.retF (.cons (ResV.cellA 2 ta34 rfl rfl (.h (.h (.h (.h (.h .n)))))) (.cons (.tmp rfl) (.cons (.tmp rfl) .nil))) [] rfl rfl ⟨by rw [en, ec]; rfl, rfl⟩
end Sx
end Go.Proofs.Ytkofbanncacamaa
