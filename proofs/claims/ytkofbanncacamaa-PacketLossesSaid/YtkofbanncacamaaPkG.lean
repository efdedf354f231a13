/- Package packet: Put, Take, Split; strings.Clone. -/
import Derived.Test.YtkofbanncacamaaPkF
namespace Go.Proofs.Ytkofbanncacamaa
namespace Sx

theorem wr_all (ys cs : List Value) (h : ys.length = cs.length) : wr cs 0 ys = ys := by
  obtain ⟨p, hp⟩ := wr_app ys [] cs (by omega)
  simp only [List.nil_append, List.length_nil] at hp
  have := congrArg List.length hp
  rw [wr_length, List.length_append] at this
  have h0 : p = [] := List.eq_nil_of_length_eq_zero (by omega)
  rw [hp, h0]; simp

theorem sClone_ok {l : List UInt8} (hl : l.length ≤ 1000000000) : Fn Try.prog 25 #[S l] [] (Ret fun v Q => v = S l ∧ Q = []) := by
  refine Fn.of (args := _) Try.func25 rfl Try.ntmps25 rfl ?_
  intro w0 g0
  refine CW.seq ?_
  refine CW.region ?_
  refine LW.opV (ov_assign rfl) rfl rfl ?_
  refine LW.nil ?_
  refine KW.thenN ?_
  refine CW.seq ?_
  refine CW.seq ?_
  refine CW.region ?_
  refine LW.opV (ov_move rfl) rfl rfl ?_
  refine LW.opV (ov_lenS un9 rfl) rfl rfl ?_
  refine LW.opV (ov_eql rfl rfl) rfl rfl ?_
  refine LW.nil ?_
  refine KW.thenN ?_
  refine CW.condD (by rfl) (fun h0 => ?_) (fun h0 => ?_)
  · have : l = [] := List.eq_nil_of_length_eq_zero (by omega)
    subst this
    refine CW.seq ?_
    refine CW.region ?_
    refine LW.opV (ov_assign rfl) rfl rfl ?_
    refine LW.nil ?_
    refine KW.thenN ?_
    refine CW.ret ?_
    refine KW.thenR ?_
    exact KW.retF (.cons (.tmp rfl) .nil) [] rfl rfl ⟨rfl, rfl⟩
  · refine CW.skip ?_
    refine KW.thenN ?_
    refine CW.seq ?_
    refine CW.region ?_
    refine LW.opV (ov_move rfl) rfl rfl ?_
    refine LW.opV (ov_lenS un9 rfl) rfl rfl ?_
    refine LW.opBA (ob_make so55 zc5 rfl rfl rfl (by omega) (by omega) (fun _ => (.c (.n)))) rfl rfl (fun b9 => ?_)
    refine LW.opV (ov_assign rfl) rfl rfl ?_
    refine LW.nil ?_
    refine KW.thenN ?_
    refine CW.seq ?_
    refine CW.region ?_
    refine LW.opV (ov_move rfl) rfl rfl ?_
    refine LW.opV (ov_move rfl) rfl rfl ?_
    refine LW.opW (ow_copyS so55 rfl rfl (by simp) (cs' := l.map bv) (by simp [wr_all]) (.t (.h))) rfl rfl ?_
    refine LW.nil ?_
    refine KW.thenN ?_
    refine CW.seq ?_
    refine CW.region ?_
    refine LW.opV (ov_move rfl) rfl rfl ?_
    refine LW.opV (ov_idxL (i := 0) so55 rfl rfl rfl (by omega)) rfl rfl ?_
    refine LW.opV (ov_move rfl) rfl rfl ?_
    refine LW.opV (ov_lenL so55 rfl) rfl rfl ?_
    refine LW.opW (ow_unsafeStr un70 co5 rfl rfl (by omega) (by omega) (.t (.h))) rfl rfl ?_
    refine LW.opV (ov_assign rfl) rfl rfl ?_
    refine LW.nil ?_
    refine KW.thenN ?_
    refine CW.ret ?_
    exact KW.retF (.cons (.tmp rfl) .nil) [] rfl rfl ⟨rfl, rfl⟩
theorem Clone_ok {l : List UInt8} (hl : l.length ≤ 1000000000) : Fn Try.prog 21 #[S l] [] (Ret fun v Q => v = S l ∧ Q = []) := by
  refine Fn.of (args := _) Try.func21 rfl Try.ntmps21 rfl ?_
  intro w0 g0
  refine CW.seq ?_
  refine CW.region ?_
  refine LW.opV (ov_assign rfl) rfl rfl ?_
  refine LW.nil ?_
  refine KW.thenN ?_
  refine CW.seq ?_
  refine CW.region ?_
  refine LW.opV (ov_move rfl) rfl rfl ?_
  refine LW.call [] (oc_fn cf25 rfl) rfl rfl rfl rfl (sClone_ok hl) ?_
  rintro _ _ ⟨rfl, rfl⟩
  simp only [putBack, List.append_nil]
  refine LW.opV (ov_assign rfl) rfl rfl ?_
  refine LW.nil ?_
  refine KW.thenN ?_
  refine CW.ret ?_
  exact KW.retF (.cons (.tmp rfl) .nil) [] rfl rfl ⟨rfl, rfl⟩

def wb (n : Int) : List UInt8 := [UInt8.ofNat (n / 256 % 256).toNat, UInt8.ofNat (n % 256).toNat]
theorem bv_wrap (m : Int) : Value.int .u8 (IntKind.u8.wrap m) = bv (UInt8.ofNat (m % 256).toNat) := by
  have h : IntKind.u8.wrap m = m % 256 := rfl
  rw [h]
  simp only [bv, Value.int.injEq, true_and]
  have h1 : (m % 256).toNat < 256 := by omega
  rw [UInt8.toNat_ofNat', Nat.mod_eq_of_lt h1]
  omega
theorem words_ok {b c : Nat} {ns : List Int} (hn : ns.length ≤ 1000) : Fn Try.prog 26 #[.slice (some ⟨b, 0, none⟩) ns.length c] [row b 3 (ns.map (Value.int .i64))]
    (Ret fun v Q => Q = [row b 3 (ns.map (Value.int .i64)), bytesA 5 v (ns.flatMap wb)]) := by
  refine Fn.of (args := _) Try.func26 rfl Try.ntmps26 rfl ?_
  intro w0 g0
  refine KW.newS 5 1 ?_
  simp only [List.cons_append, List.nil_append]
  refine CW.seq ?_
  refine CW.region ?_
  refine LW.opV (ov_assign rfl) rfl rfl ?_
  refine LW.nil ?_
  refine KW.thenN ?_
  refine CW.seq ?_
  refine CW.region ?_
  refine LW.opV (ov_assign rfl) rfl rfl ?_
  refine LW.nil ?_
  refine KW.thenN ?_
  refine CW.seq ?_
  refine CW.seq ?_
  refine CW.region ?_
  refine LW.opV (ov_move rfl) rfl rfl ?_
  refine LW.opV (ov_lenL so71 rfl) rfl rfl ?_
  refine LW.opV (ov_move rfl) rfl rfl ?_
  refine LW.nil ?_
  refine KW.thenN ?_
  refine CW.block ?_
  refine CW.loopW (fun n env As => ∃ (k : Nat) (xs : List Value) (ad : Option Addr) (c' : Nat), k + n = ns.length ∧ xs = ((ns.take k).flatMap wb).map bv ∧ env = [(3, .slice ad (2 * k) c'), (6, .slice (some ⟨b, 0, none⟩) ns.length c), (7, .int .i64 ns.length), (8, .int .i64 k)] ∧ As = [ex g0, row b 3 (ns.map (Value.int .i64)), ownS 5 1 (.slice ad (2 * k) c') (2 * k) xs]) ns.length [0, 1, 2] ⟨0, [], none, 0, by simp, rfl, rfl, rfl⟩ ⟨rfl, rfl, rfl, rfl, trivial⟩ rfl rfl ?_
  rintro n _ _ ⟨k, xs, ad, c', hkn, hxs, rfl, rfl⟩
  refine CW.seq ?_
  refine CW.region ?_
  refine LW.opV (ov_lss rfl rfl) rfl rfl ?_
  refine LW.nil ?_
  refine KW.thenN ?_
  refine CW.seq ?_
  refine CW.condD (by rfl) (fun h => ?_) (fun h => ?_)
  · have hk : k < ns.length := by omega
    refine CW.skip ?_
    refine KW.thenN ?_
    refine CW.seq ?_
    refine CW.block ?_
    refine CW.seq ?_
    refine CW.region ?_
    refine LW.opV (ov_idxL so71 rfl rfl rfl (by omega)) rfl rfl ?_
    refine LW.opV (ov_loadR 1 ta3 rfl rfl (v := .int .i64 ns[k]) (by simp [hk])) rfl rfl ?_
    refine LW.opV (ov_assign rfl) rfl rfl ?_
    refine LW.nil ?_
    refine KW.thenN ?_
    refine CW.region ?_
    refine LW.opV (ov_move rfl) rfl rfl ?_
    refine LW.opV (ov_move rfl) rfl rfl ?_
    refine LW.opV (ov_shr rfl rfl (by omega)) rfl rfl ?_
    refine LW.opV (ov_toInt un5 us3 rfl) rfl rfl ?_
    refine LW.opV (ov_move rfl) rfl rfl ?_
    refine LW.opV (ov_toInt un5 us3 rfl) rfl rfl ?_
    refine LW.opBA (ob_buildSlice so55 zc5 rfl (by decide) rfl (.c rfl (.one rfl) rfl (.h (.n)) (.c rfl (.one rfl) rfl (.t (.h (.n))) (.n))) (fun _ => .c (.c (.c (.n))))) rfl rfl (fun b18 => ?_)
    refine LW.opX (ox_appR 3 so55 zo5 rfl so55 rfl rfl rfl rfl rfl (by omega) (by omega) (by omega) (fun _ => (.t (.t (.h))))) rfl rfl (fun a19 c19 => ?_)
    refine LW.opV (ov_assign rfl) rfl rfl ?_
    refine LW.nil ?_
    refine KW.blockN ?_
    refine KW.thenN ?_
    refine CW.region ?_
    first | refine LW.opV (ov_add rfl rfl (by omega)) rfl rfl ?_ | refine LW.opV (ov_addW rfl rfl) rfl rfl ?_
    refine LW.opV (ov_move rfl) rfl rfl ?_
    refine LW.nil ?_
    have e8 : ns[k].fdiv (2 ^ min (Int.toNat 8) IntKind.i64.bits) = ns[k] / 256 := Int.fdiv_eq_ediv_of_nonneg _ (by decide)
    exact KW.again (n - 1) [0, 1, 2] (by omega) ⟨k + 1, _, _, _, by omega, by rw [e8, bv_wrap, bv_wrap, List.take_succ_eq_append_getElem hk, List.flatMap_append, List.map_append, hxs]; rfl, rfl, rfl⟩ ⟨rfl, rfl, rfl, rfl, trivial⟩ rfl rfl
  · have hk : k = ns.length := by omega
    subst hk
    rw [List.take_length] at hxs
    have hl : (ns.flatMap wb).length = 2 * ns.length := by
      clear hn hkn h hxs
      induction ns with
      | nil => rfl
      | cons a r ih => simp [List.flatMap_cons, wb] at ih ⊢; omega
    subst hxs
    refine CW.exit ?_
    refine KW.thenX ?_
    refine KW.thenX ?_
    refine KW.hit ?_
    refine KW.thenN ?_
    refine CW.seq ?_
    refine CW.region ?_
    refine LW.opV (ov_move rfl) rfl rfl ?_
    refine LW.opV (ov_assign rfl) rfl rfl ?_
    refine LW.nil ?_
    refine KW.thenN ?_
    refine CW.ret ?_
    refine KW.retF (.cons (.tmp rfl) .nil) [1, 2] rfl rfl ?_
    show _ = [_, ownS _ _ _ _ _]
    rw [hl]; rfl

theorem bits_or {a b k : Nat} (hb : b < 2 ^ k) (h : a * 2 ^ k + b < 2 ^ 63) : bits2 .or .i64 ((a * 2 ^ k : Nat) : Int) (b : Int) = ((a * 2 ^ k + b : Nat) : Int) := by
  have e : (BitVec.ofInt 64 ((a * 2 ^ k : Nat) : Int) ||| BitVec.ofInt 64 (b : Int)).toNat = a * 2 ^ k + b := by
    have h64 : (2 : Nat) ^ 63 < 2 ^ 64 := by decide
    rw [BitVec.toNat_or, BitVec.toNat_ofInt, BitVec.toNat_ofInt, Int.emod_eq_of_lt (by omega) (by omega), Int.emod_eq_of_lt (by omega) (by omega), Int.toNat_natCast, Int.toNat_natCast]
    have := Nat.shiftLeft_add_eq_or_of_lt hb a
    rw [Nat.shiftLeft_eq] at this
    exact this.symm
  show IntKind.i64.wrap ((BitVec.ofInt 64 ((a * 2 ^ k : Nat) : Int) ||| BitVec.ofInt 64 (b : Int)).toNat : Int) = _
  rw [e, wrap_nat h]
theorem bits_or' {a b k : Nat} (hb : b < 2 ^ k) (h : a * 2 ^ k + b < 2 ^ 63) : bits2 .or .i64 (b : Int) ((a * 2 ^ k : Nat) : Int) = ((a * 2 ^ k + b : Nat) : Int) := by
  rw [← bits_or hb h]
  show IntKind.i64.wrap ((BitVec.ofInt 64 (b : Int) ||| BitVec.ofInt 64 ((a * 2 ^ k : Nat) : Int)).toNat : Int) = IntKind.i64.wrap ((BitVec.ofInt 64 ((a * 2 ^ k : Nat) : Int) ||| BitVec.ofInt 64 (b : Int)).toNat : Int)
  rw [BitVec.or_comm]

def enc (p : Pk) : List UInt8 := wb (p.apid + if p.cmd then 4096 else 0) ++ wb (p.flags * 16384 + p.count) ++ wb (p.data.length - 1) ++ p.data
theorem encoded_ok {p : Pk} (h : p.ok) : Fn Try.prog 22 #[pkv p] [] (Ret fun v Q => v = S (enc p) ∧ Q = []) := by
  obtain ⟨hp0, hp1, hp2, hp3, hp4, hp5, hp6, hp7⟩ := id h
  generalize hfst : (p.apid + if p.cmd then 4096 else 0) = fst
  refine Fn.of (args := _) Try.func22 rfl Try.ntmps22 rfl ?_
  intro w0 g0
  refine CW.seq ?_
  refine CW.region ?_
  refine LW.opBA (ob_box rfl .agg (fun _ => .c (.n))) rfl rfl (fun b1 => ?_)
  refine LW.opV (ov_assign rfl) rfl rfl ?_
  refine LW.nil ?_
  refine KW.thenN ?_
  refine CW.seq ?_
  refine CW.region ?_
  refine LW.opV (ov_fieldAddr fo34_1 rfl) rfl rfl ?_
  refine LW.opV (ov_loadR 1 ta3 rfl rfl rfl) rfl rfl ?_
  refine LW.opV (ov_assign rfl) rfl rfl ?_
  refine LW.nil ?_
  refine KW.thenN ?_
  refine CW.cut (fun env As => env = [(1, .pointer (some ⟨b1, 0, none⟩)), (3, .int .i64 fst)] ∧ As = [ex g0, row b1 34 [.bool p.cmd, .int .i64 p.apid, .int .i64 p.flags, .int .i64 p.count, S p.data]]) (fun M hM => ?_) ?_
  · refine CW.seq ?_
    refine CW.region ?_
    refine LW.opV (ov_fieldAddr fo34_0 rfl) rfl rfl ?_
    refine LW.opV (ov_loadR 1 ta4 rfl rfl rfl) rfl rfl ?_
    refine LW.nil ?_
    refine KW.thenN ?_
    refine CW.cond (by rfl) (fun hb => ?_) (fun hb => ?_)
    · have e1 : bits2 .or .i64 p.apid 4096 = p.apid + 4096 := by
        have := bits_or' (a := 1) (b := p.apid.toNat) (k := 12) (by omega) (by omega)
        rw [Int.toNat_of_nonneg hp0] at this
        rw [show ((1 * 2 ^ 12 : Nat) : Int) = 4096 from rfl] at this
        rw [this]; omega
      obtain rfl : p.apid + 4096 = fst := by rw [← hfst, hb]; rfl
      refine CW.region ?_
      refine LW.opV (ov_move rfl) rfl rfl ?_
      refine LW.opV (ov_bits (.inr (.inl rfl)) rfl rfl e1) rfl rfl ?_
      refine LW.opV (ov_assign rfl) rfl rfl ?_
      refine LW.nil ?_
      refine KW.thenN ?_
      exact KW.meet [0, 1] hM ⟨rfl, rfl⟩ ⟨rfl, rfl, trivial⟩ rfl rfl
    · obtain rfl : p.apid = fst := by rw [← hfst, hb]; simp
      refine CW.skip ?_
      refine KW.thenN ?_
      exact KW.meet [0, 1] hM ⟨rfl, rfl⟩ ⟨rfl, rfl, trivial⟩ rfl rfl
  rintro _ _ ⟨rfl, rfl⟩
  have e13 : IntKind.i64.wrap (p.flags * 2 ^ (min (14 : Int).toNat IntKind.i64.bits)) = p.flags * 16384 := by
    have : (2 : Int) ^ (min (14 : Int).toNat IntKind.i64.bits) = 16384 := by decide
    rw [this, wrap_i64 (by omega)]
  have e16 : bits2 .or .i64 (p.flags * 16384) p.count = p.flags * 16384 + p.count := by
    have := bits_or (a := p.flags.toNat) (b := p.count.toNat) (k := 14) (by omega) (by omega)
    rw [show ((p.flags.toNat * 2 ^ 14 : Nat) : Int) = p.flags * 16384 from by omega, Int.toNat_of_nonneg hp4] at this
    rw [this]; omega
  refine CW.seq ?_
  refine CW.draw [1] rfl mixed rfl (ls := #[false, false, false, false, false, false, false, false, false, false, false, false, false, false, false, false, false, false]) (by kernel_rfl) ?_
  refine DW.take 0 [1] rfl (by kernel_rfl) (by kernel_rfl) (by kernel_rfl) (fun _ _ _ h => h) (ov_move rfl) rfl rfl rfl rfl rfl ?_
  refine DW.take 1 [1] rfl (by kernel_rfl) (by kernel_rfl) (by kernel_rfl) (fun _ _ _ h => h) (ov_fieldAddr fo34_2 rfl) rfl rfl rfl rfl rfl ?_
  refine DW.take 2 [1] rfl (by kernel_rfl) (by kernel_rfl) (by kernel_rfl) (fun _ _ _ h => h) (ov_loadR 0 ta3 rfl rfl rfl) rfl rfl rfl rfl rfl ?_
  refine DW.take 3 [1] rfl (by kernel_rfl) (by kernel_rfl) (by kernel_rfl) (fun _ _ _ h => h) (OpV.eq (ov_shl rfl rfl (by decide)) (congrArg (Value.int .i64) e13)) rfl rfl rfl rfl rfl ?_
  refine DW.take 4 [1] rfl (by kernel_rfl) (by kernel_rfl) (by kernel_rfl) (fun _ _ _ h => h) (ov_fieldAddr fo34_3 rfl) rfl rfl rfl rfl rfl ?_
  refine DW.take 5 [1] rfl (by kernel_rfl) (by kernel_rfl) (by kernel_rfl) (fun _ _ _ h => h) (ov_loadR 0 ta3 rfl rfl rfl) rfl rfl rfl rfl rfl ?_
  refine DW.take 6 [1] rfl (by kernel_rfl) (by kernel_rfl) (by kernel_rfl) (fun _ _ _ h => h) (ov_bits (.inr (.inl rfl)) rfl rfl e16) rfl rfl rfl rfl rfl ?_
  refine DW.take 7 [1] rfl (by kernel_rfl) (by kernel_rfl) (by kernel_rfl) (fun _ _ _ h => h) (ov_fieldAddr fo34_4 rfl) rfl rfl rfl rfl rfl ?_
  refine DW.take 8 [1] rfl (by kernel_rfl) (by kernel_rfl) (by kernel_rfl) (fun _ _ _ h => h) (ov_loadR 0 ta9 rfl rfl rfl) rfl rfl rfl rfl rfl ?_
  refine DW.take 9 [1] rfl (by kernel_rfl) (by kernel_rfl) (by kernel_rfl) (fun _ _ _ h => h) (ov_lenS un9 rfl) rfl rfl rfl rfl rfl ?_
  first | refine DW.take 10 [1] rfl (by kernel_rfl) (by kernel_rfl) (by kernel_rfl) (fun _ _ _ h => h) (ov_sub rfl rfl (by omega)) rfl rfl rfl rfl rfl ?_ | refine DW.take 10 [1] rfl (by kernel_rfl) (by kernel_rfl) (by kernel_rfl) (fun _ _ _ h => h) (ov_subW rfl rfl) rfl rfl rfl rfl rfl ?_
  refine DW.take 14 [1] rfl (by kernel_rfl) (by kernel_rfl) (by kernel_rfl) (fun _ _ _ h => h) (ov_fieldAddr fo34_4 rfl) rfl rfl rfl rfl rfl ?_
  refine DW.take 15 [1] rfl (by kernel_rfl) (by kernel_rfl) (by kernel_rfl) (fun _ _ _ h => h) (ov_loadR 0 ta9 rfl rfl rfl) rfl rfl rfl rfl rfl ?_
  refine DW.all1 11 (by kernel_rfl) ?_
  refine DO.opBA [1] rfl (ob_buildSlice so71 zc3 rfl (by decide) rfl (.c rfl (.one rfl) rfl (.h (.n)) (.c rfl (.one rfl) rfl (.t (.h (.n))) (.c rfl (.one rfl) rfl (.t (.t (.h (.n)))) (.n)))) (fun _ => .c (.c (.n)))) rfl rfl (fun _ => rfl) (fun _ => rfl) rfl (fun b21 => ?_)
  refine DW.all1 12 (by kernel_rfl) ?_
  refine DO.call [1] [2] rfl (oc_fn cf26 rfl) rfl rfl rfl rfl (words_ok (ns := [fst, p.flags * 16384 + p.count, p.data.length - 1]) (by simp)) (by rintro _ _ rfl; exact ⟨rfl, rfl⟩) rfl ?_
  rintro _ _ rfl
  simp only [putBack, List.set_cons_succ, List.set_cons_zero, List.cons_append, List.nil_append]
  refine DW.all1 13 (by kernel_rfl) ?_
  refine DO.opV [1] rfl (ov_b2s 3 so55 un9 un5 rfl rfl) rfl rfl rfl rfl rfl ?_
  refine DW.take 16 [1] rfl (by kernel_rfl) (by kernel_rfl) (by kernel_rfl) (fun _ _ _ h => h) (ov_strAdd rfl rfl (by simp [wb]; omega)) rfl rfl rfl rfl rfl ?_
  refine DW.take 17 [1] rfl (by kernel_rfl) (by kernel_rfl) (by kernel_rfl) (fun _ _ _ h => h) (ov_assign rfl) rfl rfl rfl rfl rfl ?_
  refine DW.done (by kernel_rfl) ?_
  refine KW.thenN ?_
  refine CW.ret ?_
  exact KW.retF (.cons (.tmp rfl) .nil) [] rfl rfl ⟨by subst hfst; simp [enc, packV], rfl⟩

theorem Put_ok (p : Pk) : Fn Try.prog 15 #[pkv p] [] (Ret fun v Q => v = (if p.ok then .tuple #[S (enc p), .int .i64 0] else .tuple #[S [], .int .i64 2]) ∧ Q = []) := by
  refine Fn.of (args := _) Try.func15 rfl Try.ntmps15 rfl ?_
  intro w0 g0
  refine CW.seq ?_
  refine CW.region ?_
  refine LW.opBA (ob_box rfl .agg (fun _ => .c (.n))) rfl rfl (fun b1 => ?_)
  refine LW.opV (ov_assign rfl) rfl rfl ?_
  refine LW.opV (ov_assign rfl) rfl rfl ?_
  refine LW.nil ?_
  refine KW.thenN ?_
  refine CW.seq ?_
  refine CW.seq ?_
  refine CW.region ?_
  refine LW.opV (ov_loadAR 1 ta34 rfl rfl (.h (.h (.h (.h (.h (.n))))))) rfl rfl ?_
  refine LW.call [] (oc_fn cf18 rfl) rfl rfl rfl rfl (Valid_ok p) ?_
  rintro _ _ ⟨rfl, rfl⟩
  simp only [putBack, List.append_nil]
  refine LW.opV (ov_not rfl) rfl rfl ?_
  refine LW.nil ?_
  refine KW.thenN ?_
  by_cases h : p.ok
  · refine CW.condF rfl (by simp [h]) ?_
    refine CW.skip ?_
    refine KW.thenN ?_
    refine CW.seq ?_
    refine CW.region ?_
    refine LW.opV (ov_loadAR 1 ta34 rfl rfl (.h (.h (.h (.h (.h (.n))))))) rfl rfl ?_
    refine LW.call [] (oc_fn cf22 rfl) rfl rfl rfl rfl (encoded_ok h) ?_
    rintro _ _ ⟨rfl, rfl⟩
    simp only [putBack, List.append_nil]
    refine LW.opV (ov_assign rfl) rfl rfl ?_
    refine LW.opV (ov_assign rfl) rfl rfl ?_
    refine LW.nil ?_
    refine KW.thenN ?_
    refine CW.ret ?_
    exact KW.retF (.cons (.tmp rfl) (.cons (.tmp rfl) .nil)) [] rfl rfl ⟨by rw [if_pos h]; rfl, rfl⟩
  · refine CW.condT rfl (by simp [h]) ?_
    refine CW.seq ?_
    refine CW.region ?_
    refine LW.opV (ov_assign rfl) rfl rfl ?_
    refine LW.opV (ov_assign rfl) rfl rfl ?_
    refine LW.nil ?_
    refine KW.thenN ?_
    refine CW.ret ?_
    refine KW.thenR ?_
    exact KW.retF (.cons (.tmp rfl) (.cons (.tmp rfl) .nil)) [] rfl rfl ⟨by rw [if_neg h]; rfl, rfl⟩
end Sx
end Go.Proofs.Ytkofbanncacamaa
