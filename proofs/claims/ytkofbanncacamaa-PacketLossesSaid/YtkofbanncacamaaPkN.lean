/- PacketLosses: the contracts of perigeekit's functions; Split of nothing. -/
import Derived.Test.YtkofbanncacamaaPkL
import Derived.Test.YtkofbanncacamaaSxI
namespace Go.Proofs.Ytkofbanncacamaa
namespace Sx
set_option maxRecDepth 20000

/-- strings in the old memory; bools -/
def RdS (W : World) (ad : Option Addr) (M : List (List UInt8)) : Prop := ∀ i (h : i < M.length), ∃ b off, ad = some ⟨b, off, none⟩ ∧ W.cell? ⟨b, off + i * 1, none⟩ = some (S M[i])
def RdB (W : World) (ad : Option Addr) (M : List Bool) : Prop := ∀ i (h : i < M.length), ∃ b off, ad = some ⟨b, off, none⟩ ∧ W.cell? ⟨b, off + i * 1, none⟩ = some (.bool M[i])

def longB : Int → List (List UInt8) → Bool
  | _, [] => false
  | r, m :: t => if r ≤ m.length then true else longB (r - m.length - 1) t
theorem longB_drop {r : Int} {M : List (List UInt8)} {k : Nat} (hk : k < M.length) : longB r (M.drop k) = if r ≤ M[k].length then true else longB (r - M[k].length - 1) (M.drop (k + 1)) := by
  rw [List.drop_eq_getElem_cons hk]; rfl
theorem Long_ok {W : World} {ad : Option Addr} {c : Nat} {M : List (List UInt8)} {r0 : Int} (hM : RdS W ad M) (hr : 0 ≤ r0 ∧ r0 ≤ 1000000000) (hl : M.length ≤ 1000000000) : Fn Try.prog 11 #[.slice ad M.length c, .int .i64 r0] [ex (hall W)] (Ret fun v Q => v = .bool (longB r0 M) ∧ Q = [ex (hall W)]) := by
  refine Fn.of (args := _) Try.func11 rfl Try.ntmps11 rfl ?_
  intro w0 g0
  refine CW.seq ?_
  refine CW.region ?_
  refine LW.opV (ov_assign rfl) rfl rfl ?_
  refine LW.nil ?_
  refine KW.thenN ?_
  refine CW.seq ?_
  refine CW.seq ?_
  refine CW.region ?_
  refine LW.opV (ov_assign rfl) rfl rfl ?_
  refine LW.nil ?_
  refine KW.thenN ?_
  refine CW.block ?_
  refine CW.loopW (fun n env As => ∃ (k : Nat) (r : Int), k + n = M.length ∧ longB r (M.drop k) = longB r0 M ∧ 0 ≤ r ∧ r ≤ 1000000000 ∧ env = [(0, .slice ad M.length c), (1, .int .i64 r), (5, .int .i64 k)] ∧ As = [ex g0, ex (hall W)]) M.length [0, 1] ⟨0, r0, by simp, rfl, hr.1, hr.2, rfl, rfl⟩ ⟨rfl, rfl, rfl, trivial⟩ rfl rfl ?_
  rintro n _ _ ⟨k, r, hkn, hlb, hr0, hr1, rfl, rfl⟩
  refine CW.seq ?_
  refine CW.seq ?_
  refine CW.region ?_
  refine LW.opV (ov_move rfl) rfl rfl ?_
  refine LW.opV (ov_move rfl) rfl rfl ?_
  refine LW.opV (ov_lenL so42 rfl) rfl rfl ?_
  refine LW.opV (ov_lss rfl rfl) rfl rfl ?_
  refine LW.nil ?_
  refine KW.thenN ?_
  refine CW.condD (by rfl) (fun h => ?_) (fun h => ?_)
  · have hk : k < M.length := by omega
    rw [longB_drop hk] at hlb
    obtain ⟨b, off, rfl, hcell⟩ := hM k hk
    generalize M[k] = m at hcell hlb
    refine CW.skip ?_
    refine KW.thenN ?_
    refine CW.seq ?_
    refine CW.block ?_
    refine CW.seq ?_
    refine CW.seq ?_
    refine CW.region ?_
    refine LW.opV (ov_move rfl) rfl rfl ?_
    refine LW.opV (ov_move rfl) rfl rfl ?_
    refine LW.opV (ov_idxL so42 rfl rfl rfl (by omega)) rfl rfl ?_
    refine LW.opV (ov_load ta9 rfl (fun w hs => hs.oldCell 1 rfl hcell)) rfl rfl ?_
    refine LW.opV (ov_lenS un9 rfl) rfl rfl ?_
    refine LW.opV (ov_move rfl) rfl rfl ?_
    refine LW.opV (ov_geq rfl rfl) rfl rfl ?_
    refine LW.nil ?_
    refine KW.thenN ?_
    refine CW.condD (by rfl) (fun h2 => ?_) (fun h2 => ?_)
    · refine CW.seq ?_
      refine CW.region ?_
      refine LW.opV (ov_assign rfl) rfl rfl ?_
      refine LW.nil ?_
      refine KW.thenN ?_
      refine CW.ret ?_
      refine KW.thenR ?_
      refine KW.blockR ?_
      refine KW.thenR ?_
      refine KW.thenR ?_
      refine KW.blockR ?_
      refine KW.thenR ?_
      rw [if_pos (by omega)] at hlb
      rw [← hlb]
      exact KW.retF (.cons (.tmp rfl) .nil) [1] rfl rfl ⟨rfl, rfl⟩
    · refine CW.skip ?_
      refine KW.thenN ?_
      refine CW.region ?_
      refine LW.opV (ov_move rfl) rfl rfl ?_
      refine LW.opV (ov_move rfl) rfl rfl ?_
      refine LW.opV (ov_move rfl) rfl rfl ?_
      refine LW.opV (ov_idxL so42 rfl rfl rfl (by omega)) rfl rfl ?_
      refine LW.opV (ov_load ta9 rfl (fun w hs => hs.oldCell 1 rfl hcell)) rfl rfl ?_
      refine LW.opV (ov_lenS un9 rfl) rfl rfl ?_
      first | refine LW.opV (ov_sub rfl rfl (by omega)) rfl rfl ?_ | refine LW.opV (ov_subW rfl rfl) rfl rfl ?_
      first | refine LW.opV (ov_sub rfl rfl (by omega)) rfl rfl ?_ | refine LW.opV (ov_subW rfl rfl) rfl rfl ?_
      refine LW.opV (ov_assign rfl) rfl rfl ?_
      refine LW.nil ?_
      refine KW.blockN ?_
      refine KW.thenN ?_
      refine CW.region ?_
      refine LW.opV (ov_move rfl) rfl rfl ?_
      first | refine LW.opV (ov_add rfl rfl (by omega)) rfl rfl ?_ | refine LW.opV (ov_addW rfl rfl) rfl rfl ?_
      refine LW.opV (ov_assign rfl) rfl rfl ?_
      refine LW.nil ?_
      rw [if_neg (by omega)] at hlb
      exact KW.again (n - 1) [0, 1] (by omega) ⟨k + 1, r - m.length - 1, by omega, hlb, by omega, by omega, rfl, rfl⟩ ⟨rfl, rfl, rfl, trivial⟩ rfl rfl
  · refine CW.exit ?_
    refine KW.thenX ?_
    refine KW.thenX ?_
    refine KW.hit ?_
    refine KW.thenN ?_
    refine CW.seq ?_
    refine CW.region ?_
    refine LW.opV (ov_assign rfl) rfl rfl ?_
    refine LW.nil ?_
    refine KW.thenN ?_
    refine CW.ret ?_
    have hk : k = M.length := by omega
    subst hk
    rw [List.drop_length] at hlb
    rw [← hlb]
    exact KW.retF (.cons (.tmp rfl) .nil) [1] rfl rfl ⟨rfl, rfl⟩

theorem Pick_ok {x : Int} {n : Nat} (hn : 1 ≤ n ∧ n ≤ 1000000000) : Fn Try.prog 13 #[.int .i64 x, .int .i64 n] [] (Ret fun v Q => ∃ m : Nat, m < n ∧ v = .int .i64 m ∧ Q = []) := by
  refine Fn.of (args := _) Try.func13 rfl Try.ntmps13 rfl ?_
  intro w0 g0
  have hb : -(n : Int) < x.tmod n ∧ x.tmod n < n := by
    have h1 : (x.tmod n).natAbs < n := by
      rw [Int.natAbs_tmod]; exact Nat.mod_lt _ (by omega)
    omega
  generalize hy : x.tmod n = y at hb
  refine CW.seq ?_
  refine CW.region ?_
  refine LW.opV (ov_assign rfl) rfl rfl ?_
  refine LW.nil ?_
  refine KW.thenN ?_
  refine CW.seq ?_
  refine CW.region ?_
  refine LW.opV (ov_move rfl) rfl rfl ?_
  refine LW.opV (ov_move rfl) rfl rfl ?_
  refine LW.opV (OpV.eq (ov_remW rfl rfl (by omega)) (congrArg (Value.int .i64) hy)) rfl rfl ?_
  refine LW.opV (ov_assign rfl) rfl rfl ?_
  refine LW.nil ?_
  refine KW.thenN ?_
  refine CW.seq ?_
  refine CW.seq ?_
  refine CW.region ?_
  refine LW.opV (ov_move rfl) rfl rfl ?_
  refine LW.opV (ov_lss rfl rfl) rfl rfl ?_
  refine LW.nil ?_
  refine KW.thenN ?_
  refine CW.condD (by rfl) (fun h => ?_) (fun h => ?_)
  · refine CW.region ?_
    refine LW.opV (ov_move rfl) rfl rfl ?_
    refine LW.opV (ov_move rfl) rfl rfl ?_
    first | refine LW.opV (ov_add rfl rfl (by omega)) rfl rfl ?_ | refine LW.opV (ov_addW rfl rfl) rfl rfl ?_
    refine LW.opV (ov_assign rfl) rfl rfl ?_
    refine LW.nil ?_
    refine KW.thenN ?_
    refine CW.seq ?_
    refine CW.region ?_
    refine LW.opV (ov_move rfl) rfl rfl ?_
    refine LW.opV (ov_assign rfl) rfl rfl ?_
    refine LW.nil ?_
    refine KW.thenN ?_
    refine CW.ret ?_
    obtain ⟨m, hm⟩ : ∃ m : Nat, (m : Int) = y + n := ⟨(y + n).toNat, by omega⟩
    exact KW.retF (.cons (.tmp rfl) .nil) [] rfl rfl ⟨m, by omega, by rw [hm]; rfl, rfl⟩
  · refine CW.skip ?_
    refine KW.thenN ?_
    refine CW.seq ?_
    refine CW.region ?_
    refine LW.opV (ov_move rfl) rfl rfl ?_
    refine LW.opV (ov_assign rfl) rfl rfl ?_
    refine LW.nil ?_
    refine KW.thenN ?_
    refine CW.ret ?_
    obtain ⟨m, hm⟩ : ∃ m : Nat, (m : Int) = y := ⟨y.toNat, by omega⟩
    exact KW.retF (.cons (.tmp rfl) .nil) [] rfl rfl ⟨m, by omega, by rw [hm]; rfl, rfl⟩

abbrev strS (X : List (List UInt8)) : List Value := X.map S
theorem Same_ok {ad1 ad2 : Option Addr} {c1 c2 : Nat} {X Y : List (List UInt8)} (hX : X.length ≤ 1000000000) : Fn Try.prog 14 #[.slice ad1 X.length c1, .slice ad2 Y.length c2] [ownS 9 1 (.slice ad1 X.length c1) X.length (strS X), ownS 9 1 (.slice ad2 Y.length c2) Y.length (strS Y)]
    (Ret fun v Q => v = .bool (decide (X = Y)) ∧ Q = [ownS 9 1 (.slice ad1 X.length c1) X.length (strS X), ownS 9 1 (.slice ad2 Y.length c2) Y.length (strS Y)]) := by
  refine Fn.of (args := _) Try.func14 rfl Try.ntmps14 rfl ?_
  intro w0 g0
  refine CW.seq ?_
  refine CW.region ?_
  refine LW.opV (ov_assign rfl) rfl rfl ?_
  refine LW.nil ?_
  refine KW.thenN ?_
  refine CW.seq ?_
  refine CW.seq ?_
  refine CW.region ?_
  refine LW.opV (ov_move rfl) rfl rfl ?_
  refine LW.opV (ov_lenL so42 rfl) rfl rfl ?_
  refine LW.opV (ov_move rfl) rfl rfl ?_
  refine LW.opV (ov_lenL so42 rfl) rfl rfl ?_
  refine LW.opV (ov_neq rfl rfl) rfl rfl ?_
  refine LW.nil ?_
  refine KW.thenN ?_
  refine CW.condD (by rfl) (fun h => ?_) (fun h => ?_)
  · refine CW.seq ?_
    refine CW.region ?_
    refine LW.opV (ov_assign rfl) rfl rfl ?_
    refine LW.nil ?_
    refine KW.thenN ?_
    refine CW.ret ?_
    refine KW.thenR ?_
    have : decide (X = Y) = false := decide_eq_false (by intro e; subst e; simp at h)
    rw [this]
    exact KW.retF (.cons (.tmp rfl) .nil) [1, 2] rfl rfl ⟨rfl, rfl⟩
  refine CW.skip ?_
  refine KW.thenN ?_
  refine CW.seq ?_
  refine CW.seq ?_
  refine CW.region ?_
  refine LW.opV (ov_assign rfl) rfl rfl ?_
  refine LW.nil ?_
  refine KW.thenN ?_
  refine CW.block ?_
  have hXY : X.length = Y.length := by omega
  refine CW.loopW (fun n env As => ∃ k : Nat, k + n = X.length ∧ X.take k = Y.take k ∧ env = [(0, .slice ad1 X.length c1), (1, .slice ad2 Y.length c2), (5, .int .i64 k)] ∧ As = [ex g0, ownS 9 1 (.slice ad1 X.length c1) X.length (strS X), ownS 9 1 (.slice ad2 Y.length c2) Y.length (strS Y)]) X.length [0, 1, 2] ⟨0, by simp, rfl, rfl, rfl⟩ ⟨rfl, rfl, rfl, trivial⟩ rfl rfl ?_
  rintro n _ _ ⟨k, hkn, htk, rfl, rfl⟩
  refine CW.seq ?_
  refine CW.seq ?_
  refine CW.region ?_
  refine LW.opV (ov_move rfl) rfl rfl ?_
  refine LW.opV (ov_move rfl) rfl rfl ?_
  refine LW.opV (ov_lenL so42 rfl) rfl rfl ?_
  refine LW.opV (ov_lss rfl rfl) rfl rfl ?_
  refine LW.nil ?_
  refine KW.thenN ?_
  refine CW.condD (by rfl) (fun h2 => ?_) (fun h2 => ?_)
  · have hk : k < X.length := by omega
    have hk' : k < Y.length := by omega
    refine KW.own 1 rfl (fun _ h0 => by omega) fun b1 c1' ex1 hv1 hnc1 hxl1 hcl1 => ?_
    obtain ⟨rfl, rfl⟩ : ad1 = some ⟨b1, 0, none⟩ ∧ c1 = c1' := by simpa using hv1
    simp only [List.set_cons_succ, List.set_cons_zero]
    refine KW.own 2 rfl (fun _ h0 => by omega) fun b2 c2' ex2 hv2 hnc2 hxl2 hcl2 => ?_
    obtain ⟨rfl, rfl⟩ : ad2 = some ⟨b2, 0, none⟩ ∧ c2 = c2' := by simpa using hv2
    simp only [List.set_cons_succ, List.set_cons_zero]
    have g1 : (strS X ++ ex1)[0 + k * 1]? = some (S X[k]) := by
      rw [Nat.zero_add, Nat.mul_one, List.getElem?_append_left (by simpa using hk)]; simp [hk]
    have g2 : (strS Y ++ ex2)[0 + k * 1]? = some (S Y[k]) := by
      rw [Nat.zero_add, Nat.mul_one, List.getElem?_append_left (by simpa using hk')]; simp [hk']
    refine CW.skip ?_
    refine KW.thenN ?_
    refine CW.seq ?_
    refine CW.block ?_
    refine CW.seq ?_
    refine CW.draw [1,2] rfl mixed rfl (ls := #[false, false, false, false, false, false, false, false, false]) (by kernel_rfl) ?_
    refine DW.take 0 [1,2] rfl (by kernel_rfl) (by kernel_rfl) (by kernel_rfl) (fun _ _ _ h => h) (ov_move rfl) rfl rfl rfl rfl rfl ?_
    refine DW.take 1 [1,2] rfl (by kernel_rfl) (by kernel_rfl) (by kernel_rfl) (fun _ _ _ h => h) (ov_move rfl) rfl rfl rfl rfl rfl ?_
    refine DW.take 2 [1,2] rfl (by kernel_rfl) (by kernel_rfl) (by kernel_rfl) (fun _ _ _ h => h) (ov_idxL so42 rfl rfl rfl (by omega)) rfl rfl rfl rfl rfl ?_
    refine DW.take 3 [1,2] rfl (by kernel_rfl) (by kernel_rfl) (by kernel_rfl) (fun _ _ _ h => h) (ov_loadR 0 ta9 rfl rfl g1) rfl rfl rfl rfl rfl ?_
    refine DW.take 4 [1,2] rfl (by kernel_rfl) (by kernel_rfl) (by kernel_rfl) (fun _ _ _ h => h) (ov_move rfl) rfl rfl rfl rfl rfl ?_
    refine DW.take 5 [1,2] rfl (by kernel_rfl) (by kernel_rfl) (by kernel_rfl) (fun _ _ _ h => h) (ov_move rfl) rfl rfl rfl rfl rfl ?_
    refine DW.take 6 [1,2] rfl (by kernel_rfl) (by kernel_rfl) (by kernel_rfl) (fun _ _ _ h => h) (ov_idxL so42 rfl rfl rfl (by omega)) rfl rfl rfl rfl rfl ?_
    refine DW.take 7 [1,2] rfl (by kernel_rfl) (by kernel_rfl) (by kernel_rfl) (fun _ _ _ h => h) (ov_loadR 1 ta9 rfl rfl g2) rfl rfl rfl rfl rfl ?_
    refine DW.take 8 [1,2] rfl (by kernel_rfl) (by kernel_rfl) (by kernel_rfl) (fun _ _ _ h => h) (ov_strNeq rfl rfl) rfl rfl rfl rfl rfl ?_
    refine DW.done (by kernel_rfl) ?_
    refine KW.thenN ?_
    refine CW.condD (by rfl) (fun h3 => ?_) (fun h3 => ?_)
    · refine CW.seq ?_
      refine CW.region ?_
      refine LW.opV (ov_assign rfl) rfl rfl ?_
      refine LW.nil ?_
      refine KW.thenN ?_
      refine CW.ret ?_
      refine KW.blockR ?_
      refine KW.thenR ?_
      refine KW.thenR ?_
      refine KW.blockR ?_
      refine KW.thenR ?_
      have : decide (X = Y) = false := decide_eq_false (by intro e; subst e; exact h3 rfl)
      rw [this]
      exact KW.retE (.cons (.tmp rfl) .nil) fun w hs hw => ⟨_, ⟨rfl, rfl⟩, (hs.imp 1 rfl (own_row hnc1 hxl1 hcl1)).imp 2 rfl (own_row hnc2 hxl2 hcl2), hw⟩
    · refine KW.turn (fun w hs => (hs.imp 1 rfl (own_row hnc1 hxl1 hcl1)).imp 2 rfl (own_row hnc2 hxl2 hcl2)) ?_
      simp only [List.set_cons_succ, List.set_cons_zero]
      refine CW.skip ?_
      refine KW.blockN ?_
      refine KW.thenN ?_
      refine CW.region ?_
      refine LW.opV (ov_move rfl) rfl rfl ?_
      first | refine LW.opV (ov_add rfl rfl (by omega)) rfl rfl ?_ | refine LW.opV (ov_addW rfl rfl) rfl rfl ?_
      refine LW.opV (ov_assign rfl) rfl rfl ?_
      refine LW.nil ?_
      have h3' : X[k] = Y[k] := by simpa using h3
      exact KW.again (n - 1) [0, 1, 2] (by omega) ⟨k + 1, by omega, by rw [List.take_succ_eq_append_getElem hk, List.take_succ_eq_append_getElem hk', htk, h3'], rfl, rfl⟩ ⟨rfl, rfl, rfl, trivial⟩ rfl rfl
  · refine CW.exit ?_
    refine KW.thenX ?_
    refine KW.thenX ?_
    refine KW.hit ?_
    refine KW.thenN ?_
    refine CW.seq ?_
    refine CW.region ?_
    refine LW.opV (ov_assign rfl) rfl rfl ?_
    refine LW.nil ?_
    refine KW.thenN ?_
    refine CW.ret ?_
    have hk : k = X.length := by omega
    subst hk
    have : X = Y := by
      rw [List.take_length, hXY, List.take_length] at htk; exact htk
    have hd : decide (X = Y) = true := decide_eq_true this
    rw [hd]
    exact KW.retF (.cons (.tmp rfl) .nil) [1, 2] rfl rfl ⟨rfl, rfl⟩

theorem Split_none {cmd : Bool} {apid count : Int} {most : Nat} (ha : 0 ≤ apid ∧ apid ≤ 2046) (hc : 0 ≤ count ∧ count ≤ 16383) (hm : 1 ≤ most ∧ most ≤ 1024) :
    Fn Try.prog 12 #[.bool cmd, .int .i64 apid, .int .i64 count, S [], .int .i64 most] [] (Ret fun v Q => v = .tuple #[.slice none 0 0, .int .i64 2] ∧ Q = []) := by
  refine Fn.of (args := _) Try.func12 rfl Try.ntmps12 rfl ?_
  intro w0 g0
  have e16 : decide (apid < 0) = false := decide_eq_false (by omega)
  have e18 : decide (2047 ≤ apid) = false := decide_eq_false (by omega)
  have e22 : decide (count < 0) = false := decide_eq_false (by omega)
  have e26 : decide (16383 < count) = false := decide_eq_false (by omega)
  have e30 : decide ((most : Int) < 1) = false := decide_eq_false (by omega)
  have e34 : decide (1024 < (most : Int)) = false := decide_eq_false (by omega)
  refine CW.seq ?_
  refine CW.region ?_
  refine LW.opV (ov_assign rfl) rfl rfl ?_
  refine LW.opV (ov_assign rfl) rfl rfl ?_
  refine LW.nil ?_
  refine KW.thenN ?_
  refine CW.seq ?_
  refine CW.seq ?_
  refine CW.region ?_
  refine LW.opV (ov_move rfl) rfl rfl ?_
  refine LW.opV (OpV.eq (ov_lss rfl rfl) (congrArg Value.bool e16)) rfl rfl ?_
  refine LW.opV (ov_move rfl) rfl rfl ?_
  refine LW.opV (ov_move rfl) rfl rfl ?_
  refine LW.opV (OpV.eq (ov_geq rfl rfl) (congrArg Value.bool e18)) rfl rfl ?_
  first | refine LW.opV (ov_pickT rfl rfl) rfl rfl ?_ | refine LW.opV (ov_pickF rfl rfl) rfl rfl ?_ | refine LW.opV (ov_pick rfl rfl rfl) rfl rfl ?_
  refine LW.opV (ov_move rfl) rfl rfl ?_
  refine LW.opV (ov_move rfl) rfl rfl ?_
  refine LW.opV (OpV.eq (ov_lss rfl rfl) (congrArg Value.bool e22)) rfl rfl ?_
  first | refine LW.opV (ov_pickT rfl rfl) rfl rfl ?_ | refine LW.opV (ov_pickF rfl rfl) rfl rfl ?_ | refine LW.opV (ov_pick rfl rfl rfl) rfl rfl ?_
  refine LW.opV (ov_move rfl) rfl rfl ?_
  refine LW.opV (ov_move rfl) rfl rfl ?_
  refine LW.opV (OpV.eq (ov_gtr rfl rfl) (congrArg Value.bool e26)) rfl rfl ?_
  first | refine LW.opV (ov_pickT rfl rfl) rfl rfl ?_ | refine LW.opV (ov_pickF rfl rfl) rfl rfl ?_ | refine LW.opV (ov_pick rfl rfl rfl) rfl rfl ?_
  refine LW.opV (ov_move rfl) rfl rfl ?_
  refine LW.opV (ov_move rfl) rfl rfl ?_
  refine LW.opV (OpV.eq (ov_lss rfl rfl) (congrArg Value.bool e30)) rfl rfl ?_
  first | refine LW.opV (ov_pickT rfl rfl) rfl rfl ?_ | refine LW.opV (ov_pickF rfl rfl) rfl rfl ?_ | refine LW.opV (ov_pick rfl rfl rfl) rfl rfl ?_
  refine LW.opV (ov_move rfl) rfl rfl ?_
  refine LW.opV (ov_move rfl) rfl rfl ?_
  refine LW.opV (OpV.eq (ov_gtr rfl rfl) (congrArg Value.bool e34)) rfl rfl ?_
  first | refine LW.opV (ov_pickT rfl rfl) rfl rfl ?_ | refine LW.opV (ov_pickF rfl rfl) rfl rfl ?_ | refine LW.opV (ov_pick rfl rfl rfl) rfl rfl ?_
  refine LW.opV (ov_move rfl) rfl rfl ?_
  refine LW.opV (ov_move rfl) rfl rfl ?_
  refine LW.opV (ov_strEql rfl rfl) rfl rfl ?_
  first | refine LW.opV (ov_pickT rfl rfl) rfl rfl ?_ | refine LW.opV (ov_pickF rfl rfl) rfl rfl ?_ | refine LW.opV (ov_pick rfl rfl rfl) rfl rfl ?_
  refine LW.nil ?_
  refine KW.thenN ?_
  refine CW.condT rfl rfl ?_
  refine CW.seq ?_
  refine CW.region ?_
  refine LW.opV (ov_assign rfl) rfl rfl ?_
  refine LW.opV (ov_assign rfl) rfl rfl ?_
  refine LW.nil ?_
  refine KW.thenN ?_
  refine CW.ret ?_
  refine KW.thenR ?_
  exact KW.retF (.cons (.tmp rfl) (.cons (.tmp rfl) .nil)) [] rfl rfl ⟨rfl, rfl⟩
end Sx
end Go.Proofs.Ytkofbanncacamaa
