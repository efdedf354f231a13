/- PacketLosses: the law's walk. -/
import Derived.Test.YtkofbanncacamaaPkO
namespace Go.Proofs.Ytkofbanncacamaa
namespace Sx
set_option maxRecDepth 20000

theorem Same_refl {ad1 ad2 : Option Addr} {c1 c2 : Nat} {X : List (List UInt8)} (hX : X.length ≤ 1000000000) : Fn Try.prog 14 #[.slice ad1 X.length c1, .slice ad2 X.length c2] [ownS 9 1 (.slice ad1 X.length c1) X.length (strS X), ownS 9 1 (.slice ad2 X.length c2) X.length (strS X)]
    (Ret fun v Q => v = .bool true ∧ Q = [ownS 9 1 (.slice ad1 X.length c1) X.length (strS X), ownS 9 1 (.slice ad2 X.length c2) X.length (strS X)]) := by
  have := Same_ok (ad1 := ad1) (ad2 := ad2) (c1 := c1) (c2 := c2) (X := X) (Y := X) hX
  rw [decide_eq_true rfl] at this; exact this
theorem pk_get {L : List Pk} {k : Nat} {p : Pk} {extra : List Value} (hk : L[k]? = some p) {j : Nat} {v : Value} (hj : (pcells p)[j]? = some v) : (pkS L ++ extra)[0 + k * 5 + j]? = some v := by
  have hl := lt_of_get hk
  have hj5 : j < 5 := lt_of_get hj
  rw [List.getElem?_append_left (by rw [pkS_len]; omega), Nat.zero_add]
  exact flat_get (pcells_len L) (by simp [hk]) hj

theorem PacketLosses_ok {W : World} {ad ad3 : Option Addr} {c c3 : Nat} {Ms : List (List UInt8)} {B : List Bool} {size : Int} (hM : RdS W ad Ms) (hB : RdB W ad3 B) :
    Fn Try.prog 4 #[.slice ad Ms.length c, .int .i64 size, .slice ad3 B.length c3] [ex (hall W)] (Ret fun v Q => v = .bool true ∧ Q = [ex (hall W)]) := by
  refine Fn.of (args := _) Try.func4 rfl Try.ntmps4 rfl ?_
  intro w0 g0
  refine CW.seq ?_
  refine CW.region ?_
  refine LW.opV (ov_assign rfl) rfl rfl ?_
  refine LW.nil ?_
  refine KW.thenN ?_
  refine CW.seq ?_
  refine CW.seq ?_
  refine CW.region ?_
  refine LW.call [] (oc_fn cf5 rfl) rfl rfl rfl rfl (shown_ok) ?_
  rintro _ _ ⟨rfl, rfl⟩
  simp only [putBack, List.set_cons_succ, List.set_cons_zero, List.cons_append, List.nil_append, List.append_nil]
  refine LW.opV (ov_not rfl) rfl rfl ?_
  refine LW.nil ?_
  refine KW.thenN ?_
  refine CW.condF rfl rfl ?_
  refine CW.skip ?_
  refine KW.thenN ?_
  refine CW.seq ?_
  refine CW.seq ?_
  refine CW.region ?_
  refine LW.opV (ov_move rfl) rfl rfl ?_
  refine LW.opV (ov_lenL so42 rfl) rfl rfl ?_
  refine LW.opV (ov_gtr rfl rfl) rfl rfl ?_
  refine LW.opV (ov_move rfl) rfl rfl ?_
  refine KW.splitD 27 rfl (fun h3 => ?_) (fun h3 => ?_)
  · refine LW.skip rfl rfl ?_
    refine LW.skip rfl rfl ?_
    first | refine LW.opV (ov_pickT rfl rfl) rfl rfl ?_ | refine LW.opV (ov_pickF rfl rfl) rfl rfl ?_ | refine LW.opV (ov_pick rfl rfl rfl) rfl rfl ?_
    refine LW.nil ?_
    refine KW.thenN ?_
    refine CW.condT rfl rfl ?_
    refine CW.seq ?_
    refine CW.region ?_
    refine LW.opV (ov_assign rfl) rfl rfl ?_
    refine LW.nil ?_
    refine KW.thenN ?_
    refine CW.ret ?_
    refine KW.thenR ?_
    exact KW.retF (.cons (.tmp rfl) .nil) [1] rfl rfl ⟨rfl, rfl⟩
  refine LW.opV (ov_move rfl) rfl rfl ?_
  refine LW.call [1] (oc_fn cf11 rfl) rfl rfl rfl rfl (Long_ok (r0 := 6000) hM (by omega) (by omega)) ?_
  rintro _ _ ⟨rfl, rfl⟩
  simp only [putBack, List.set_cons_succ, List.set_cons_zero, List.cons_append, List.nil_append, List.append_nil]
  first | refine LW.opV (ov_pickT rfl rfl) rfl rfl ?_ | refine LW.opV (ov_pickF rfl rfl) rfl rfl ?_ | refine LW.opV (ov_pick rfl rfl rfl) rfl rfl ?_
  refine LW.nil ?_
  refine KW.thenN ?_
  refine CW.cond (by rfl) (fun hlg => ?_) (fun hlg => ?_)
  · refine CW.seq ?_
    refine CW.region ?_
    refine LW.opV (ov_assign rfl) rfl rfl ?_
    refine LW.nil ?_
    refine KW.thenN ?_
    refine CW.ret ?_
    refine KW.thenR ?_
    exact KW.retF (.cons (.tmp rfl) .nil) [1] rfl rfl ⟨rfl, rfl⟩
  have htot : tot Ms ≤ 6000 := by
    have := longB_tot Ms 6000 hlg
    split at this <;> omega
  refine CW.skip ?_
  refine KW.thenN ?_
  refine CW.seq ?_
  refine CW.region ?_
  refine LW.call [] (oc_fn cf6 rfl) rfl rfl rfl rfl (New_ok) ?_
  rintro _ _ ⟨jb, rfl, rfl⟩
  simp only [putBack, List.set_cons_succ, List.set_cons_zero, List.cons_append, List.nil_append, List.append_nil]
  refine LW.opV (ov_assign rfl) rfl rfl ?_
  refine LW.opV (ov_assign rfl) rfl rfl ?_
  refine LW.opV (ov_assign rfl) rfl rfl ?_
  refine LW.opV (ov_assign rfl) rfl rfl ?_
  refine LW.nil ?_
  refine KW.thenN ?_
  refine CW.seq ?_
  refine CW.region ?_
  refine LW.opV (ov_assign rfl) rfl rfl ?_
  refine LW.opV (ov_assign rfl) rfl rfl ?_
  refine LW.nil ?_
  refine KW.thenN ?_
  refine CW.seq ?_
  refine CW.region ?_
  refine LW.opV (ov_assign rfl) rfl rfl ?_
  refine LW.opV (ov_assign rfl) rfl rfl ?_
  refine LW.nil ?_
  refine KW.thenN ?_
  refine CW.seq ?_
  refine CW.seq ?_
  refine CW.region ?_
  refine LW.opV (ov_assign rfl) rfl rfl ?_
  refine LW.nil ?_
  refine KW.thenN ?_
  refine CW.block ?_
  refine KW.newS 9 1 ?_
  refine KW.newS 9 1 ?_
  simp only [List.cons_append, List.nil_append]
  refine CW.loopW (fun n env As => ∃ (i t wt ms nx c1 c2 : Nat) (o : Option Kn) (X : List (List UInt8)) (xs : List Value) (ad1 ad2 : Option Addr), i + n = Ms.length ∧ nx = X.length ∧ xs = strS X ∧ nx ≤ i ∧ StOk (stq o) ∧ At o t wt ∧ wt + ms ≤ t ∧ t + tot (Ms.drop i) ≤ 6000 ∧
      env = [(0, .slice ad Ms.length c), (1, .int .i64 size), (2, .slice ad3 B.length c3), (7, .pointer (some ⟨jb, 0, none⟩)), (8, .int .i64 ((16380 + (t : Int)) % 16384)), (9, .int .i64 t), (10, .int .i64 ms), (11, .slice ad1 nx c1), (12, .slice ad2 nx c2), (13, .bool o.isSome), (14, .int .i64 wt), (15, .int .i64 i)] ∧
      As = [ex g0, ex (hall W), JA jb (stq o), ownS 9 1 (.slice ad1 nx c1) nx xs, ownS 9 1 (.slice ad2 nx c2) nx xs]) Ms.length [0, 1, 2, 3, 4]
    ⟨0, 0, 0, 0, 0, 0, 0, none, [], [], none, none, by simp, rfl, rfl, by omega, ok0, trivial, by omega, by simpa using htot, rfl, rfl⟩ ⟨rfl, rfl, rfl, rfl, rfl, rfl, rfl, rfl, rfl, rfl, rfl, rfl, trivial⟩ rfl rfl ?_
  rintro n _ _ ⟨i, t, wt, ms, nx, c1, c2, o, X, xs, ad1, ad2, hin, hnx, hxs, hXi, hst, hat, hms, htt, rfl, rfl⟩
  refine CW.seq ?_
  refine CW.seq ?_
  refine CW.region ?_
  refine LW.opV (ov_move rfl) rfl rfl ?_
  refine LW.opV (ov_move rfl) rfl rfl ?_
  refine LW.opV (ov_lenL so42 rfl) rfl rfl ?_
  refine LW.opV (ov_lss rfl rfl) rfl rfl ?_
  refine LW.nil ?_
  refine KW.thenN ?_
  refine CW.condD (by rfl) (fun h => ?_) (fun h => ?_)
  · have hi : i < Ms.length := by omega
    rw [tot_drop hi] at htt
    obtain ⟨b, off, rfl, hcell⟩ := hM i hi
    generalize Ms[i] = m at hcell htt
    refine CW.skip ?_
    refine KW.thenN ?_
    refine CW.seq ?_
    refine CW.block ?_
    refine CW.seq ?_
    refine CW.draw [1] rfl mixed rfl (ls := #[false, false, false, false, false, false, false, false, false, false, false, false, false, false]) (by kernel_rfl) ?_
    by_cases hm0 : m = []
    · subst hm0
      refine DW.take 0 [1] rfl (by kernel_rfl) (by kernel_rfl) (by kernel_rfl) (fun _ _ _ h => h) (ov_move rfl) rfl rfl rfl rfl rfl ?_
      refine DW.take 1 [1] rfl (by kernel_rfl) (by kernel_rfl) (by kernel_rfl) (fun _ _ _ h => h) (ov_move rfl) rfl rfl rfl rfl rfl ?_
      refine DW.take 2 [1] rfl (by kernel_rfl) (by kernel_rfl) (by kernel_rfl) (fun _ _ _ h => h) (ov_move rfl) rfl rfl rfl rfl rfl ?_
      refine DW.take 3 [1] rfl (by kernel_rfl) (by kernel_rfl) (by kernel_rfl) (fun _ _ _ h => h) (ov_idxL so42 rfl rfl rfl (by omega)) rfl rfl rfl rfl rfl ?_
      refine DW.take 4 [1] rfl (by kernel_rfl) (by kernel_rfl) (by kernel_rfl) (fun _ _ _ h => h) (ov_load ta9 rfl (fun w hs => hs.oldCell 0 rfl hcell)) rfl rfl rfl rfl rfl ?_
      refine DW.take 5 [1] rfl (by kernel_rfl) (by kernel_rfl) (by kernel_rfl) (fun _ _ _ h => h) (ov_move rfl) rfl rfl rfl rfl rfl ?_
      refine DW.all1 6 (by kernel_rfl) ?_
      refine DO.call [1] [] rfl (oc_fn cf13 rfl) rfl rfl rfl rfl (Pick_ok (n := 50) (by omega)) (by rintro _ _ ⟨mm, hmm, rfl, rfl⟩; exact ⟨rfl, rfl⟩) rfl ?_
      rintro _ _ ⟨mm, hmm, rfl, rfl⟩
      simp only [putBack, List.set_cons_succ, List.set_cons_zero, List.cons_append, List.nil_append, List.append_nil]
      refine DW.take 7 [1] rfl (by kernel_rfl) (by kernel_rfl) (by kernel_rfl) (fun _ _ _ h => h) (OpV.eq (ov_add rfl rfl (by omega)) (congrArg (Value.int .i64) (show (1 : Int) + (mm : Int) = ((mm + 1 : Nat) : Int) by omega))) rfl rfl rfl rfl rfl ?_
      refine DW.all1 8 (by kernel_rfl) ?_
      refine DO.call [1] [] rfl (oc_fn cf12 rfl) rfl rfl rfl rfl (Split_none (most := mm + 1) (by omega) (by omega) (by omega)) (by rintro _ _ ⟨rfl, rfl⟩; exact ⟨rfl, rfl⟩) rfl ?_
      rintro _ _ ⟨rfl, rfl⟩
      simp only [putBack, List.set_cons_succ, List.set_cons_zero, List.cons_append, List.nil_append, List.append_nil]
      refine DW.take 9 [1] rfl (by kernel_rfl) (by kernel_rfl) (by kernel_rfl) (fun _ _ _ h => h) (ov_move rfl) rfl rfl rfl rfl rfl ?_
      refine DW.take 10 [1] rfl (by kernel_rfl) (by kernel_rfl) (by kernel_rfl) (fun _ _ _ h => h) (ov_extract rfl rfl) rfl rfl rfl rfl rfl ?_
      refine DW.take 11 [1] rfl (by kernel_rfl) (by kernel_rfl) (by kernel_rfl) (fun _ _ _ h => h) (ov_extract rfl rfl) rfl rfl rfl rfl rfl ?_
      refine DW.take 12 [1] rfl (by kernel_rfl) (by kernel_rfl) (by kernel_rfl) (fun _ _ _ h => h) (ov_assign rfl) rfl rfl rfl rfl rfl ?_
      refine DW.take 13 [1] rfl (by kernel_rfl) (by kernel_rfl) (by kernel_rfl) (fun _ _ _ h => h) (ov_assign rfl) rfl rfl rfl rfl rfl ?_
      refine DW.done (by kernel_rfl) ?_
      refine KW.thenN ?_
      refine CW.seq ?_
      refine CW.seq ?_
      refine CW.region ?_
      refine LW.opV (ov_move rfl) rfl rfl ?_
      refine LW.opV (ov_neq rfl rfl) rfl rfl ?_
      refine LW.nil ?_
      refine KW.thenN ?_
      refine CW.condT rfl rfl ?_
      refine CW.seq ?_
      refine CW.seq ?_
      refine CW.region ?_
      refine LW.opV (ov_move rfl) rfl rfl ?_
      refine LW.opV (ov_move rfl) rfl rfl ?_
      refine LW.opV (ov_idxL so42 rfl rfl rfl (by omega)) rfl rfl ?_
      refine LW.opV (ov_load ta9 rfl (fun w hs => hs.oldCell 1 rfl hcell)) rfl rfl ?_
      refine LW.opV (ov_strNeq rfl rfl) rfl rfl ?_
      refine LW.nil ?_
      refine KW.thenN ?_
      refine CW.condF rfl rfl ?_
      refine CW.skip ?_
      refine KW.thenN ?_
      refine CW.exit ?_
      refine KW.thenX ?_
      refine KW.hit ?_
      refine KW.thenN ?_
      refine CW.region ?_
      refine LW.opV (ov_move rfl) rfl rfl ?_
      first | refine LW.opV (ov_add rfl rfl (by omega)) rfl rfl ?_ | refine LW.opV (ov_addW rfl rfl) rfl rfl ?_
      refine LW.opV (ov_assign rfl) rfl rfl ?_
      refine LW.nil ?_
      exact KW.again (n - 1) [0, 1, 2, 3, 4] (by omega) ⟨i + 1, t, wt, ms, nx, c1, c2, o, X, xs, ad1, ad2, by omega, hnx, hxs, by omega, hst, hat, hms, by simpa using htt, rfl, rfl⟩ ⟨rfl, rfl, rfl, rfl, rfl, rfl, rfl, rfl, rfl, rfl, rfl, rfl, trivial⟩ rfl rfl
    have hm1 := List.length_pos_iff.2 hm0
    refine DW.take 0 [1] rfl (by kernel_rfl) (by kernel_rfl) (by kernel_rfl) (fun _ _ _ h => h) (ov_move rfl) rfl rfl rfl rfl rfl ?_
    refine DW.take 1 [1] rfl (by kernel_rfl) (by kernel_rfl) (by kernel_rfl) (fun _ _ _ h => h) (ov_move rfl) rfl rfl rfl rfl rfl ?_
    refine DW.take 2 [1] rfl (by kernel_rfl) (by kernel_rfl) (by kernel_rfl) (fun _ _ _ h => h) (ov_move rfl) rfl rfl rfl rfl rfl ?_
    refine DW.take 3 [1] rfl (by kernel_rfl) (by kernel_rfl) (by kernel_rfl) (fun _ _ _ h => h) (ov_idxL so42 rfl rfl rfl (by omega)) rfl rfl rfl rfl rfl ?_
    refine DW.take 4 [1] rfl (by kernel_rfl) (by kernel_rfl) (by kernel_rfl) (fun _ _ _ h => h) (ov_load ta9 rfl (fun w hs => hs.oldCell 0 rfl hcell)) rfl rfl rfl rfl rfl ?_
    refine DW.take 5 [1] rfl (by kernel_rfl) (by kernel_rfl) (by kernel_rfl) (fun _ _ _ h => h) (ov_move rfl) rfl rfl rfl rfl rfl ?_
    refine DW.all1 6 (by kernel_rfl) ?_
    refine DO.call [1] [] rfl (oc_fn cf13 rfl) rfl rfl rfl rfl (Pick_ok (n := 50) (by omega)) (by rintro _ _ ⟨mm, hmm, rfl, rfl⟩; exact ⟨rfl, rfl⟩) rfl ?_
    rintro _ _ ⟨mm, hmm, rfl, rfl⟩
    simp only [putBack, List.set_cons_succ, List.set_cons_zero, List.cons_append, List.nil_append, List.append_nil]
    refine DW.take 7 [1] rfl (by kernel_rfl) (by kernel_rfl) (by kernel_rfl) (fun _ _ _ h => h) (OpV.eq (ov_add rfl rfl (by omega)) (congrArg (Value.int .i64) (show (1 : Int) + (mm : Int) = ((mm + 1 : Nat) : Int) by omega))) rfl rfl rfl rfl rfl ?_
    refine DW.all1 8 (by kernel_rfl) ?_
    refine DO.call [1] [] rfl (oc_fn cf12 rfl) rfl rfl rfl rfl (Split_ok (most := mm + 1) (by omega) (by omega) (by omega) (by omega)) (by rintro _ _ ⟨ad', c', rfl, rfl⟩; exact ⟨rfl, rfl⟩) rfl ?_
    rintro _ _ ⟨ad', c', rfl, rfl⟩
    simp only [putBack, List.set_cons_succ, List.set_cons_zero, List.cons_append, List.nil_append, List.append_nil]
    refine DW.take 9 [1] rfl (by kernel_rfl) (by kernel_rfl) (by kernel_rfl) (fun _ _ _ h => h) (ov_move rfl) rfl rfl rfl rfl rfl ?_
    refine DW.take 10 [1] rfl (by kernel_rfl) (by kernel_rfl) (by kernel_rfl) (fun _ _ _ h => h) (ov_extract rfl rfl) rfl rfl rfl rfl rfl ?_
    refine DW.take 11 [1] rfl (by kernel_rfl) (by kernel_rfl) (by kernel_rfl) (fun _ _ _ h => h) (ov_extract rfl rfl) rfl rfl rfl rfl rfl ?_
    refine DW.take 12 [1] rfl (by kernel_rfl) (by kernel_rfl) (by kernel_rfl) (fun _ _ _ h => h) (ov_assign rfl) rfl rfl rfl rfl rfl ?_
    refine DW.take 13 [1] rfl (by kernel_rfl) (by kernel_rfl) (by kernel_rfl) (fun _ _ _ h => h) (ov_assign rfl) rfl rfl rfl rfl rfl ?_
    refine DW.done (by kernel_rfl) ?_
    refine KW.thenN ?_
    refine CW.seq ?_
    refine CW.seq ?_
    refine CW.region ?_
    refine LW.opV (ov_move rfl) rfl rfl ?_
    refine LW.opV (ov_neq rfl rfl) rfl rfl ?_
    refine LW.nil ?_
    refine KW.thenN ?_
    refine CW.condF rfl rfl ?_
    refine CW.skip ?_
    refine KW.thenN ?_
    refine CW.seq ?_
    refine CW.region ?_
    refine LW.opV (ov_assign rfl) rfl rfl ?_
    refine LW.nil ?_
    refine KW.thenN ?_
    refine CW.seq ?_
    refine CW.seq ?_
    refine CW.region ?_
    refine LW.opV (ov_assign rfl) rfl rfl ?_
    refine LW.nil ?_
    refine KW.thenN ?_
    refine CW.block ?_
    generalize hWd : pieces (mm + 1) m = Wp
    have hWf : Wp.flatten = m := by rw [← hWd]; exact pieces_flatten (by omega) _ _ (Nat.le_refl _)
    have hWl : Wp.length ≤ m.length := by rw [← hWd]; exact pieces_len (by omega) _ _ (Nat.le_refl _)
    have hW0 : 0 < Wp.length := by rw [← hWd, pieces_cons (by omega) hm0]; simp
    have hWe : ∀ s ∈ Wp, 1 ≤ s.length ∧ s.length ≤ 50 := by
      intro s hs; rw [← hWd] at hs
      have := pieces_each (by omega) _ _ (Nat.le_refl _) s hs
      omega
    have hLg : ∀ k s, Wp[k]? = some s → (splitK true 9 ((16380 + (t : Int)) % 16384) (mm + 1) m)[k]? = some (⟨true, 9, (if k = 0 then 1 else 0) + (if k + 1 = Wp.length then 2 else 0), (16380 + ((t + k : Nat) : Int)) % 16384, s⟩ : Pk) := by
      intro k s hk
      rw [← hWd] at hk ⊢
      rw [splitK_get hk]
      have : ((16380 + (t : Int)) % 16384 + k) % 16384 = (16380 + ((t + k : Nat) : Int)) % 16384 := by omega
      rw [this]
    have hLl : (splitK true 9 ((16380 + (t : Int)) % 16384) (mm + 1) m).length = Wp.length := by rw [splitK_len, hWd]
    generalize splitK true 9 ((16380 + (t : Int)) % 16384) (mm + 1) m = L at hLg hLl
    refine KW.own 5 rfl (fun _ h0 => by omega) fun bp c'' extra hv hnc hxl hcl => ?_
    obtain ⟨rfl, rfl⟩ : ad' = some ⟨bp, 0, none⟩ ∧ c' = c'' := by simpa using hv
    simp only [List.set_cons_succ, List.set_cons_zero]
    rw [hLl]
    refine CW.loopW (fun n env As => ∃ (k wt ms ny c2 : Nat) (whole : Bool) (o : Option Kn) (Y : List (List UInt8)) (ys : List Value) (ad2 : Option Addr), k + n = Wp.length ∧ ny = Y.length ∧ ys = strS Y ∧ Y = X ++ (if k < Wp.length then [] else if whole then [m] else []) ∧ StOk (stq o) ∧ At o (t + k) wt ∧ wt + ms ≤ t + k ∧ Mid Wp k whole wt (txq o) ∧
        env = [(0, .slice (some ⟨b, off, none⟩) Ms.length c), (1, .int .i64 size), (2, .slice ad3 B.length c3), (7, .pointer (some ⟨jb, 0, none⟩)), (8, .int .i64 ((16380 + (t : Int)) % 16384)), (9, .int .i64 (t + k : Nat)), (10, .int .i64 ms), (11, .slice ad1 nx c1), (12, .slice ad2 ny c2), (13, .bool o.isSome), (14, .int .i64 wt), (15, .int .i64 i), (16, .slice (some ⟨bp, 0, none⟩) Wp.length c'), (18, .bool whole), (19, .int .i64 k)] ∧
        As = [ex g0, ex (hall W), JA jb (stq o), ownS 9 1 (.slice ad1 nx c1) nx xs, ownS 9 1 (.slice ad2 ny c2) ny ys, row bp 34 (pkS L ++ extra)]) Wp.length [0, 1, 2, 3, 4, 5]
      ⟨0, wt, ms, nx, c2, true, o, X, xs, ad2, by simp, hnx, hxs, by rw [if_pos hW0]; simp, hst, hat, hms, mid0, rfl, rfl⟩ ⟨rfl, rfl, rfl, rfl, rfl, rfl, rfl, rfl, rfl, rfl, rfl, rfl, rfl, rfl, rfl, trivial⟩ rfl rfl ?_
    clear hat hms hst
    rintro n2 _ _ ⟨k, wt, ms, ny, c2, whole, o, Y, ys, ad2, hkn, hny, hys, hY, hst, hat, hms, hmid, rfl, rfl⟩
    refine CW.seq ?_
    refine CW.seq ?_
    refine CW.region ?_
    refine LW.opV (ov_move rfl) rfl rfl ?_
    refine LW.opV (ov_move rfl) rfl rfl ?_
    refine LW.opV (ov_lenL so22 rfl) rfl rfl ?_
    refine LW.opV (ov_lss rfl rfl) rfl rfl ?_
    refine LW.nil ?_
    refine KW.thenN ?_
    refine CW.condD (by rfl) (fun h2 => ?_) (fun h2 => ?_)
    · have hk : k < Wp.length := by omega
      rw [if_pos hk, List.append_nil] at hY
      subst hY
      obtain ⟨s, hs⟩ : ∃ s, Wp[k]? = some s := ⟨_, List.getElem?_eq_getElem hk⟩
      have hLk := hLg k s hs
      have hsl := hWe s (List.mem_of_getElem? hs)
      refine CW.skip ?_
      refine KW.thenN ?_
      refine CW.seq ?_
      refine CW.block ?_
      refine CW.seq ?_
      refine CW.region ?_
      refine LW.opV (ov_move rfl) rfl rfl ?_
      first | refine LW.opV (ov_add rfl rfl (by omega)) rfl rfl ?_ | refine LW.opV (ov_addW rfl rfl) rfl rfl ?_
      refine LW.opV (ov_assign rfl) rfl rfl ?_
      refine LW.nil ?_
      refine KW.thenN ?_
      refine CW.cut (fun env As => env = [(0, .slice (some ⟨b, off, none⟩) Ms.length c), (1, .int .i64 size), (2, .slice ad3 B.length c3), (7, .pointer (some ⟨jb, 0, none⟩)), (8, .int .i64 ((16380 + (t : Int)) % 16384)), (9, .int .i64 (t + (k + 1) : Nat)), (10, .int .i64 ms), (11, .slice ad1 nx c1), (12, .slice ad2 ny c2), (13, .bool o.isSome), (14, .int .i64 wt), (15, .int .i64 i), (16, .slice (some ⟨bp, 0, none⟩) Wp.length c'), (18, .bool whole), (19, .int .i64 k)] ∧
        As = [ex g0, ex (hall W), JA jb (stq o), ownS 9 1 (.slice ad1 nx c1) nx xs, ownS 9 1 (.slice ad2 ny c2) ny ys, row bp 34 (pkS L ++ extra)]) (fun M hM => ?_) ?_
      · refine CW.seq ?_
        refine CW.region ?_
        refine LW.opV (ov_move rfl) rfl rfl ?_
        refine LW.opV (ov_move rfl) rfl rfl ?_
        refine LW.opV (ov_lenL so43 rfl) rfl rfl ?_
        refine LW.opV (ov_leq rfl rfl) rfl rfl ?_
        refine LW.opV (ov_move rfl) rfl rfl ?_
        refine KW.splitD 69 rfl (fun hl => ?_) (fun hl => ?_)
        · have hB1 : t + k < B.length := by omega
          obtain ⟨b3, off3, rfl, hcellB⟩ := hB (t + k) hB1
          refine LW.opV (ov_move rfl) rfl rfl ?_
          refine LW.opV (ov_move rfl) rfl rfl ?_
          first | refine LW.opV (ov_sub rfl rfl (by omega)) rfl rfl ?_ | refine LW.opV (ov_subW rfl rfl) rfl rfl ?_
          refine LW.opV (ov_idxL (i := t + k) so43 rfl rfl (by omega) (by omega)) rfl rfl ?_
          refine LW.opV (ov_load ta4 rfl (fun w hs => hs.oldCell 1 rfl hcellB)) rfl rfl ?_
          first | refine LW.opV (ov_pickT rfl rfl) rfl rfl ?_ | refine LW.opV (ov_pickF rfl rfl) rfl rfl ?_ | refine LW.opV (ov_pick rfl rfl rfl) rfl rfl ?_
          refine LW.nil ?_
          refine KW.thenN ?_
          refine CW.cond (by rfl) (fun hb => ?_) (fun hb => ?_)
          · refine CW.seq ?_
            refine CW.region ?_
            refine LW.opV (ov_assign rfl) rfl rfl ?_
            refine LW.nil ?_
            refine KW.thenN ?_
            refine CW.seq ?_
            refine CW.region ?_
            refine LW.opV (ov_move rfl) rfl rfl ?_
            first | refine LW.opV (ov_add rfl rfl (by omega)) rfl rfl ?_ | refine LW.opV (ov_addW rfl rfl) rfl rfl ?_
            refine LW.opV (ov_assign rfl) rfl rfl ?_
            refine LW.nil ?_
            refine KW.thenN ?_
            refine CW.exit ?_
            refine KW.thenX ?_
            refine KW.hit ?_
            refine KW.thenN ?_
            refine CW.region ?_
            refine LW.opV (ov_move rfl) rfl rfl ?_
            first | refine LW.opV (ov_add rfl rfl (by omega)) rfl rfl ?_ | refine LW.opV (ov_addW rfl rfl) rfl rfl ?_
            refine LW.opV (ov_assign rfl) rfl rfl ?_
            refine LW.nil ?_
            exact KW.again (n2 - 1) [0, 1, 2, 3, 4, 5] (by omega) ⟨k + 1, wt + 1, ms, ny, c2, false, o, Y, ys, ad2, by omega, hny, hys, by simp, hst, by cases o with
              | none => trivial
              | some kn => simp only [At] at hat ⊢; rw [hat]; omega, by omega, lost_step, rfl, rfl⟩ ⟨rfl, rfl, rfl, rfl, rfl, rfl, rfl, rfl, rfl, rfl, rfl, rfl, rfl, rfl, rfl, trivial⟩ rfl rfl
          · refine CW.skip ?_
            refine KW.thenN ?_
            exact KW.meet [0, 1, 2, 3, 4, 5] hM ⟨rfl, rfl⟩ ⟨rfl, rfl, rfl, rfl, rfl, rfl, rfl, rfl, rfl, rfl, rfl, rfl, rfl, rfl, rfl, trivial⟩ rfl rfl
        · refine LW.skip rfl rfl ?_
          refine LW.skip rfl rfl ?_
          refine LW.skip rfl rfl ?_
          refine LW.skip rfl rfl ?_
          refine LW.skip rfl rfl ?_
          first | refine LW.opV (ov_pickT rfl rfl) rfl rfl ?_ | refine LW.opV (ov_pickF rfl rfl) rfl rfl ?_ | refine LW.opV (ov_pick rfl rfl rfl) rfl rfl ?_
          refine LW.nil ?_
          refine KW.thenN ?_
          refine CW.condF rfl rfl ?_
          refine CW.skip ?_
          refine KW.thenN ?_
          exact KW.meet [0, 1, 2, 3, 4, 5] hM ⟨rfl, rfl⟩ ⟨rfl, rfl, rfl, rfl, rfl, rfl, rfl, rfl, rfl, rfl, rfl, rfl, rfl, rfl, rfl, trivial⟩ rfl rfl
      rintro _ _ ⟨rfl, rfl⟩
      generalize hp : (⟨true, 9, (if k = 0 then 1 else 0) + (if k + 1 = Wp.length then 2 else 0), (16380 + ((t + k : Nat) : Int)) % 16384, s⟩ : Pk) = p at hLk
      have hpok : p.ok := by
        rw [← hp]
        refine ⟨by simp, by simp, ?_, ?_, ?_, ?_, hsl.1, ?_⟩
        · simp only; split <;> split <;> omega
        · simp only; split <;> split <;> omega
        · simp only; omega
        · simp only; omega
        · simp only; omega
      have hpa : p.apid = 9 := by rw [← hp]
      have hF := Feed_ok (jb := jb) (p := p) hst
      have hst2 := StOk_feedJ (p := p) hst
      rw [feedJ_q hpok hpa] at hF hst2
      obtain ⟨q1, q2, q3, q4, q5⟩ := feed_step hs (by rw [hWf]; omega) hp.symm hat (by omega) (by omega) hmid
      rw [hWf] at q3
      refine CW.seq ?_
      refine CW.region ?_
      refine LW.opV (ov_move rfl) rfl rfl ?_
      refine LW.opV (ov_move rfl) rfl rfl ?_
      refine LW.opV (ov_move rfl) rfl rfl ?_
      refine LW.opV (ov_idxL so22 rfl rfl rfl (by omega)) rfl rfl ?_
      refine LW.opV (ov_loadA (vs := pcells p) ta34 rfl rfl (fun w hs j v hj => (hs.cell 5 rfl _).trans (pk_get hLk hj))) rfl rfl ?_
      refine LW.call [2] (oc_fn cf7 rfl) rfl rfl rfl rfl (hF) ?_
      rintro _ _ ⟨rfl, rfl⟩
      simp only [putBack, List.set_cons_succ, List.set_cons_zero, List.cons_append, List.nil_append, List.append_nil]
      refine LW.opV (ov_move rfl) rfl rfl ?_
      refine LW.opV (ov_extract rfl rfl) rfl rfl ?_
      refine LW.opV (ov_extract rfl rfl) rfl rfl ?_
      refine LW.opBA (ob_alloc zc36 (fun _ => .c (.c (.c (.c (.c (.c (.n)))))))) rfl rfl (fun b20 => ?_)
      refine LW.opU (ou_storeW ta36 rfl rfl .agg rfl rfl (.h (.h (.h (.h (.n))))) (.t (.t (.t (.t (.t (.t (.h)))))))) rfl ?_
      refine LW.opV (ov_assign rfl) rfl rfl ?_
      refine LW.nil ?_
      refine KW.thenN ?_
      generalize feedK o p = fk at q1 q2 q3 q4 q5 hst2
      obtain ⟨pc, kn⟩ := fk
      simp only at q1 q2 q3 q4 q5 hst2
      refine CW.cut (fun env As => env = [(0, .slice (some ⟨b, off, none⟩) Ms.length c), (1, .int .i64 size), (2, .slice ad3 B.length c3), (7, .pointer (some ⟨jb, 0, none⟩)), (8, .int .i64 ((16380 + (t : Int)) % 16384)), (9, .int .i64 (t + (k + 1) : Nat)), (10, .int .i64 ms), (11, .slice ad1 nx c1), (12, .slice ad2 ny c2), (15, .int .i64 i), (16, .slice (some ⟨bp, 0, none⟩) Wp.length c'), (18, .bool whole), (19, .int .i64 k), (20, .pointer (some ⟨b20, 0, none⟩))] ∧
        As = [ex g0, ex (hall W), JA jb (stq (some kn)), ownS 9 1 (.slice ad1 nx c1) nx xs, ownS 9 1 (.slice ad2 ny c2) ny ys, row bp 34 (pkS L ++ extra), row b20 36 [.bool pc.whole, S pc.msg, .int .i64 pc.missed, .bool pc.broken]]) (fun M hM => ?_) ?_
      · rcases o with _ | kn0
        · have hmiss : pc.missed = 0 := by simpa using q1
          refine CW.seq ?_
          refine CW.region ?_
          refine LW.opV (ov_move rfl) rfl rfl ?_
          refine LW.opV (ov_neq rfl rfl) rfl rfl ?_
          refine LW.opV (ov_move rfl) rfl rfl ?_
          refine LW.opV (ov_move rfl) rfl rfl ?_
          refine LW.opV (ov_move rfl) rfl rfl ?_
          refine LW.skip rfl rfl ?_
          refine LW.skip rfl rfl ?_
          refine LW.skip rfl rfl ?_
          refine LW.skip rfl rfl ?_
          first | refine LW.opV (ov_pickT rfl rfl) rfl rfl ?_ | refine LW.opV (ov_pickF rfl rfl) rfl rfl ?_ | refine LW.opV (ov_pick rfl rfl rfl) rfl rfl ?_
          first | refine LW.opV (ov_pickT rfl rfl) rfl rfl ?_ | refine LW.opV (ov_pickF rfl rfl) rfl rfl ?_ | refine LW.opV (ov_pick rfl rfl rfl) rfl rfl ?_
          refine LW.opV (ov_move rfl) rfl rfl ?_
          refine LW.opV (ov_move rfl) rfl rfl ?_
          refine LW.opV (ov_not rfl) rfl rfl ?_
          refine LW.opV (ov_move rfl) rfl rfl ?_
          refine LW.opV (ov_fieldAddr fo36_2 rfl) rfl rfl ?_
          refine LW.opV (ov_loadR 6 ta3 rfl rfl rfl) rfl rfl ?_
          refine LW.opV (OpV.eq (ov_neq rfl rfl) (congrArg Value.bool (decide_eq_false (fun hne => hne hmiss)))) rfl rfl ?_
          first | refine LW.opV (ov_pickT rfl rfl) rfl rfl ?_ | refine LW.opV (ov_pickF rfl rfl) rfl rfl ?_ | refine LW.opV (ov_pick rfl rfl rfl) rfl rfl ?_
          first | refine LW.opV (ov_pickT rfl rfl) rfl rfl ?_ | refine LW.opV (ov_pickF rfl rfl) rfl rfl ?_ | refine LW.opV (ov_pick rfl rfl rfl) rfl rfl ?_
          refine LW.nil ?_
          refine KW.thenN ?_
          refine CW.condF rfl rfl ?_
          refine CW.skip ?_
          refine KW.thenN ?_
          exact KW.meet [0, 1, 2, 3, 4, 5, 6] hM ⟨rfl, rfl⟩ ⟨rfl, rfl, rfl, rfl, rfl, rfl, rfl, rfl, rfl, rfl, rfl, rfl, rfl, rfl, trivial⟩ rfl rfl
        · have hmiss : pc.missed = wt := by simpa using q1
          refine CW.seq ?_
          refine CW.region ?_
          refine LW.opV (ov_move rfl) rfl rfl ?_
          refine LW.opV (ov_neq rfl rfl) rfl rfl ?_
          refine LW.opV (ov_move rfl) rfl rfl ?_
          refine LW.opV (ov_move rfl) rfl rfl ?_
          refine LW.opV (ov_move rfl) rfl rfl ?_
          refine LW.opV (ov_fieldAddr fo36_2 rfl) rfl rfl ?_
          refine LW.opV (ov_loadR 6 ta3 rfl rfl rfl) rfl rfl ?_
          refine LW.opV (ov_move rfl) rfl rfl ?_
          refine LW.opV (OpV.eq (ov_neq rfl rfl) (congrArg Value.bool (decide_eq_false (fun hne => hne hmiss)))) rfl rfl ?_
          first | refine LW.opV (ov_pickT rfl rfl) rfl rfl ?_ | refine LW.opV (ov_pickF rfl rfl) rfl rfl ?_ | refine LW.opV (ov_pick rfl rfl rfl) rfl rfl ?_
          first | refine LW.opV (ov_pickT rfl rfl) rfl rfl ?_ | refine LW.opV (ov_pickF rfl rfl) rfl rfl ?_ | refine LW.opV (ov_pick rfl rfl rfl) rfl rfl ?_
          refine LW.opV (ov_move rfl) rfl rfl ?_
          refine LW.opV (ov_move rfl) rfl rfl ?_
          refine LW.opV (ov_not rfl) rfl rfl ?_
          refine LW.opV (ov_move rfl) rfl rfl ?_
          refine LW.skip rfl rfl ?_
          refine LW.skip rfl rfl ?_
          refine LW.skip rfl rfl ?_
          first | refine LW.opV (ov_pickT rfl rfl) rfl rfl ?_ | refine LW.opV (ov_pickF rfl rfl) rfl rfl ?_ | refine LW.opV (ov_pick rfl rfl rfl) rfl rfl ?_
          first | refine LW.opV (ov_pickT rfl rfl) rfl rfl ?_ | refine LW.opV (ov_pickF rfl rfl) rfl rfl ?_ | refine LW.opV (ov_pick rfl rfl rfl) rfl rfl ?_
          refine LW.nil ?_
          refine KW.thenN ?_
          refine CW.condF rfl rfl ?_
          refine CW.skip ?_
          refine KW.thenN ?_
          exact KW.meet [0, 1, 2, 3, 4, 5, 6] hM ⟨rfl, rfl⟩ ⟨rfl, rfl, rfl, rfl, rfl, rfl, rfl, rfl, rfl, rfl, rfl, rfl, rfl, rfl, trivial⟩ rfl rfl
      rintro _ _ ⟨rfl, rfl⟩
      obtain ⟨ms', hms', hmt⟩ : ∃ ms' : Nat, (ms : Int) + pc.missed = ms' ∧ 0 + ms' ≤ t + (k + 1) := by
        rw [q1]; split
        · exact ⟨ms + wt, by omega, by omega⟩
        · exact ⟨ms, by omega, by omega⟩
      refine CW.seq ?_
      refine CW.region ?_
      refine LW.opV (ov_move rfl) rfl rfl ?_
      refine LW.opV (ov_fieldAddr fo36_2 rfl) rfl rfl ?_
      refine LW.opV (ov_loadR 6 ta3 rfl rfl rfl) rfl rfl ?_
      refine LW.opV (OpV.eq (ov_add rfl rfl (by omega)) (congrArg (Value.int .i64) hms')) rfl rfl ?_
      refine LW.opV (ov_assign rfl) rfl rfl ?_
      refine LW.nil ?_
      refine KW.thenN ?_
      refine CW.seq ?_
      refine CW.region ?_
      refine LW.opV (ov_assign rfl) rfl rfl ?_
      refine LW.opV (ov_assign rfl) rfl rfl ?_
      refine LW.nil ?_
      refine KW.thenN ?_
      refine CW.seq ?_
      refine CW.region ?_
      refine LW.opV (ov_fieldAddr fo36_0 rfl) rfl rfl ?_
      refine LW.opV (ov_loadR 6 ta4 rfl rfl rfl) rfl rfl ?_
      refine LW.nil ?_
      refine KW.thenN ?_
      refine CW.cond (by rfl) (fun hw => ?_) (fun hw => ?_)
      · rw [hw] at q2 q3
        obtain ⟨hk1, hw1⟩ : k + 1 = Wp.length ∧ whole = true := by simpa using q2.symm
        subst hw1
        rw [q3 rfl]
        have hYl : Y.length ≤ 30 := by omega
        refine CW.region ?_
        refine LW.opV (ov_move rfl) rfl rfl ?_
        refine LW.opV (ov_fieldAddr fo36_1 rfl) rfl rfl ?_
        refine LW.opV (ov_loadR 6 ta9 rfl rfl rfl) rfl rfl ?_
        refine LW.opBA (ob_buildSlice so42 zc9 rfl (by decide) rfl (.c rfl (.one rfl) rfl (.h (.n)) (.n)) (fun _ => .c (.c (.c (.c (.c (.c (.c (.n))))))))) rfl rfl (fun b116 => ?_)
        refine LW.opX (ox_appR 7 so42 zo9 rfl so42 rfl rfl rfl rfl rfl (by omega) (by omega) (by omega) (fun _ => (.t (.t (.t (.t (.h))))))) rfl rfl (fun a117 c117 => ?_)
        refine LW.opV (ov_assign rfl) rfl rfl ?_
        refine LW.nil ?_
        refine KW.blockN ?_
        refine KW.thenN ?_
        refine CW.region ?_
        refine LW.opV (ov_move rfl) rfl rfl ?_
        first | refine LW.opV (ov_add rfl rfl (by omega)) rfl rfl ?_ | refine LW.opV (ov_addW rfl rfl) rfl rfl ?_
        refine LW.opV (ov_assign rfl) rfl rfl ?_
        refine LW.nil ?_
        exact KW.again (n2 - 1) [0, 1, 2, 3, 4, 5] (by omega) ⟨k + 1, 0, ms', ny + 1, _, true, some kn, Y ++ [m], _, _, by omega, by simp [hny], by rw [hys]; simp, by rw [if_neg (by omega), if_pos rfl], hst2, q4, by omega, q5, rfl, rfl⟩ ⟨rfl, rfl, rfl, rfl, rfl, rfl, rfl, rfl, rfl, rfl, rfl, rfl, rfl, rfl, rfl, trivial⟩ rfl rfl
      · rw [hw] at q2
        refine CW.skip ?_
        refine KW.blockN ?_
        refine KW.thenN ?_
        refine CW.region ?_
        refine LW.opV (ov_move rfl) rfl rfl ?_
        first | refine LW.opV (ov_add rfl rfl (by omega)) rfl rfl ?_ | refine LW.opV (ov_addW rfl rfl) rfl rfl ?_
        refine LW.opV (ov_assign rfl) rfl rfl ?_
        refine LW.nil ?_
        exact KW.again (n2 - 1) [0, 1, 2, 3, 4, 5] (by omega) ⟨k + 1, 0, ms', ny, c2, whole, some kn, Y, ys, ad2, by omega, hny, hys, by
          by_cases q : k + 1 < Wp.length
          · rw [if_pos q]; simp
          · rw [if_neg q]
            have hw2 : whole = false := by
              have : decide (k + 1 = Wp.length) = true := by simp; omega
              rw [this] at q2; simpa using q2.symm
            rw [hw2]; simp, hst2, q4, by omega, q5, rfl, rfl⟩ ⟨rfl, rfl, rfl, rfl, rfl, rfl, rfl, rfl, rfl, rfl, rfl, rfl, rfl, rfl, rfl, trivial⟩ rfl rfl
    · have hk : k = Wp.length := by omega
      subst hk
      rw [if_neg (by omega)] at hY
      have e130 : ((16380 + (t : Int)) % 16384 + Wp.length) % 16384 = (16380 + ((t + Wp.length : Nat) : Int)) % 16384 := by omega
      have hX30 : nx ≤ 30 := by omega
      refine CW.exit ?_
      refine KW.thenX ?_
      refine KW.thenX ?_
      refine KW.hit ?_
      refine KW.thenN ?_
      refine CW.seq ?_
      refine CW.seq ?_
      refine CW.region ?_
      refine LW.opV (ov_move rfl) rfl rfl ?_
      refine LW.nil ?_
      refine KW.thenN ?_
      refine CW.cond (by rfl) (fun hw => ?_) (fun hw => ?_)
      · subst hw
        refine CW.region ?_
        refine LW.opV (ov_move rfl) rfl rfl ?_
        refine LW.opV (ov_move rfl) rfl rfl ?_
        refine LW.opV (ov_move rfl) rfl rfl ?_
        refine LW.opV (ov_idxL so42 rfl rfl rfl (by omega)) rfl rfl ?_
        refine LW.opV (ov_load ta9 rfl (fun w hs => hs.oldCell 1 rfl hcell)) rfl rfl ?_
        refine LW.opBA (ob_buildSlice so42 zc9 rfl (by decide) rfl (.c rfl (.one rfl) rfl (.h (.n)) (.n)) (fun _ => .c (.c (.c (.c (.c (.c (.n)))))))) rfl rfl (fun b124 => ?_)
        refine LW.opX (ox_appR 6 so42 zo9 rfl so42 rfl rfl rfl rfl rfl (by omega) (by omega) (by omega) (fun _ => (.t (.t (.t (.h)))))) rfl rfl (fun a125 c125 => ?_)
        refine LW.opV (ov_assign rfl) rfl rfl ?_
        refine LW.nil ?_
        refine KW.thenN ?_
        refine CW.region ?_
        refine LW.opV (ov_move rfl) rfl rfl ?_
        refine LW.opV (ov_move rfl) rfl rfl ?_
        refine LW.opV (ov_lenL so22 rfl) rfl rfl ?_
        first | refine LW.opV (ov_add rfl rfl (by omega)) rfl rfl ?_ | refine LW.opV (ov_addW rfl rfl) rfl rfl ?_
        refine LW.opV (OpV.eq (ov_rem rfl rfl (by omega) (by omega)) (congrArg (Value.int .i64) e130)) rfl rfl ?_
        refine LW.opV (ov_assign rfl) rfl rfl ?_
        refine LW.nil ?_
        refine KW.blockN ?_
        refine KW.thenN ?_
        refine CW.region ?_
        refine LW.opV (ov_move rfl) rfl rfl ?_
        first | refine LW.opV (ov_add rfl rfl (by omega)) rfl rfl ?_ | refine LW.opV (ov_addW rfl rfl) rfl rfl ?_
        refine LW.opV (ov_assign rfl) rfl rfl ?_
        refine LW.nil ?_
        rw [if_pos rfl] at hY
        have e1 : ys = xs ++ [S m] := by rw [hys, hY, hxs]; simp
        have e2 : ny = nx + 1 := by rw [hny, hY, hnx]; simp
        subst e1; subst e2
        exact KW.again (n - 1) [0, 1, 2, 3, 4] (by omega) ⟨i + 1, t + Wp.length, wt, ms, nx + 1, _, c2, o, Y, xs ++ [S m], _, ad2, by omega, hny, hys, by omega, hst, hat, by omega, by omega, rfl, rfl⟩ ⟨rfl, rfl, rfl, rfl, rfl, rfl, rfl, rfl, rfl, rfl, rfl, rfl, trivial⟩ rfl rfl
      · rw [hw] at hY
        simp only [Bool.false_eq_true, if_false, List.append_nil] at hY
        have e1 : ys = xs := by rw [hys, hY, hxs]
        have e2 : ny = nx := by rw [hny, hY, hnx]
        subst e1; subst e2
        refine CW.skip ?_
        refine KW.thenN ?_
        refine CW.region ?_
        refine LW.opV (ov_move rfl) rfl rfl ?_
        refine LW.opV (ov_move rfl) rfl rfl ?_
        refine LW.opV (ov_lenL so22 rfl) rfl rfl ?_
        first | refine LW.opV (ov_add rfl rfl (by omega)) rfl rfl ?_ | refine LW.opV (ov_addW rfl rfl) rfl rfl ?_
        refine LW.opV (OpV.eq (ov_rem rfl rfl (by omega) (by omega)) (congrArg (Value.int .i64) e130)) rfl rfl ?_
        refine LW.opV (ov_assign rfl) rfl rfl ?_
        refine LW.nil ?_
        refine KW.blockN ?_
        refine KW.thenN ?_
        refine CW.region ?_
        refine LW.opV (ov_move rfl) rfl rfl ?_
        first | refine LW.opV (ov_add rfl rfl (by omega)) rfl rfl ?_ | refine LW.opV (ov_addW rfl rfl) rfl rfl ?_
        refine LW.opV (ov_assign rfl) rfl rfl ?_
        refine LW.nil ?_
        exact KW.again (n - 1) [0, 1, 2, 3, 4] (by omega) ⟨i + 1, t + Wp.length, wt, ms, ny, c1, c2, o, Y, ys, ad1, ad2, by omega, hny, hys, by omega, hst, hat, by omega, by omega, rfl, rfl⟩ ⟨rfl, rfl, rfl, rfl, rfl, rfl, rfl, rfl, rfl, rfl, rfl, rfl, trivial⟩ rfl rfl
  · subst hnx; subst hxs
    refine CW.exit ?_
    refine KW.thenX ?_
    refine KW.thenX ?_
    refine KW.hit ?_
    refine KW.thenN ?_
    refine CW.seq ?_
    refine CW.region ?_
    refine LW.opV (ov_move rfl) rfl rfl ?_
    refine LW.opV (ov_move rfl) rfl rfl ?_
    refine LW.call [4, 3] (oc_fn cf14 rfl) rfl rfl rfl rfl (Same_refl (by omega)) ?_
    rintro _ _ ⟨rfl, rfl⟩
    simp only [putBack, List.set_cons_succ, List.set_cons_zero, List.cons_append, List.nil_append, List.append_nil]
    refine LW.opV (ov_move rfl) rfl rfl ?_
    refine LW.opV (ov_move rfl) rfl rfl ?_
    refine LW.opV (ov_move rfl) rfl rfl ?_
    refine LW.opV (OpV.eq (ov_leq rfl rfl) (congrArg Value.bool (decide_eq_true (by omega)))) rfl rfl ?_
    first | refine LW.opV (ov_pickT rfl rfl) rfl rfl ?_ | refine LW.opV (ov_pickF rfl rfl) rfl rfl ?_ | refine LW.opV (ov_pick rfl rfl rfl) rfl rfl ?_
    refine LW.opV (ov_assign rfl) rfl rfl ?_
    refine LW.nil ?_
    refine KW.thenN ?_
    refine CW.ret ?_
    exact KW.retF (.cons (.tmp rfl) .nil) [1] rfl rfl ⟨rfl, rfl⟩
end Sx
end Go.Proofs.Ytkofbanncacamaa
