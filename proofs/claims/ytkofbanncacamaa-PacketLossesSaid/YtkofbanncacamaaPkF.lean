/- Package packet and its reference: Open, and Feed and Open of joiners that are none. -/
import Derived.Test.YtkofbanncacamaaPkE
namespace Go.Proofs.Ytkofbanncacamaa
namespace Sx

def openC (st : List (Int × Kn)) : Nat := st.countP fun e => e.2.txt.isSome

theorem mk_split {L : List Ent} {l1 l2 : List (Int × Value)} {p : Int × Value} (h : mk L = l1 ++ p :: l2) : ∃ L1 e L2, L = L1 ++ e :: L2 ∧ l1 = mk L1 ∧ p = (e.1, kval e.2.1 e.2.2) ∧ l2 = mk L2 := by
  obtain ⟨L1, L2, h1, h2, h3⟩ := List.map_eq_append_iff.1 h
  obtain ⟨e, L3, h4, h5, h6⟩ := List.map_eq_cons_iff.1 h3
  exact ⟨L1, e, L3, by rw [h1, h4], h2.symm, h5.symm, h6.symm⟩

theorem txts_sl : ∀ (L : List Ent) (g : Hl), txts L g → ∀ e ∈ L, ∃ (ad : Option Addr) (n c : Nat), e.2.2 = .slice ad n c := by
  intro L; induction L with
  | nil => intro g _ e he; cases he
  | cons x r ih =>
    rintro g ⟨f1, f2, _, _, h1, h2⟩ e he
    rcases List.mem_cons.1 he with rfl | he
    · rcases h1 with ⟨_, h⟩ | ⟨l, _, _, ⟨h, _⟩ | ⟨b, c, _, h, _⟩⟩
      · exact ⟨_, _, _, h⟩
      · exact ⟨_, _, _, h⟩
      · exact ⟨_, _, _, h⟩
    · exact ih f2 h2 e he

theorem Open_ok {jb : Nat} {st : List (Int × Kn)} (hl : st.length ≤ 1000000) : Fn Try.prog 9 #[.pointer (some ⟨jb, 0, none⟩)] [JA jb st] (Ret fun v Q => v = .int .i64 (openC st) ∧ Q = [JA jb st]) := by
  refine Fn.of (args := _) Try.func9 rfl Try.ntmps9 rfl ?_
  intro w0 g0
  refine KW.openJ 1 rfl fun mb L hL => ?_
  subst hL
  simp only [List.set_cons_succ, List.set_cons_zero, List.cons_append, List.nil_append]
  refine CW.seq ?_
  refine CW.region ?_
  refine LW.opV (ov_assign rfl) rfl rfl ?_
  refine LW.nil ?_
  refine KW.thenN ?_
  refine CW.seq ?_
  refine CW.seq ?_
  refine CW.region ?_
  refine LW.opV (ov_move rfl) rfl rfl ?_
  refine LW.call [1] (oc_fn cf17 rfl) rfl rfl rfl rfl (none_ok jb mb) ?_
  rintro _ _ ⟨rfl, rfl⟩
  simp only [putBack, List.set_cons_succ, List.set_cons_zero, List.append_nil]
  refine LW.nil ?_
  refine KW.thenN ?_
  refine CW.condF rfl (rfl) ?_
  refine CW.skip ?_
  refine KW.thenN ?_
  refine CW.seq ?_
  refine CW.region ?_
  refine LW.opV (ov_assign rfl) rfl rfl ?_
  refine LW.nil ?_
  refine KW.thenN ?_
  refine CW.seq ?_
  refine CW.seq ?_
  refine CW.region ?_
  refine LW.opV (ov_move rfl) rfl rfl ?_
  first | refine LW.opV (ov_nilP rfl) rfl rfl ?_ | refine LW.opV (ov_nilF rfl) rfl rfl ?_
  refine LW.opV (ov_fieldAddr fo32_0 rfl) rfl rfl ?_
  refine LW.opV (ov_loadR 1 ta30 rfl rfl rfl) rfl rfl ?_
  refine LW.opBA (ob_range 2 un30 rfl (fun _ => (.t (.t (.h))))) rfl rfl (fun b12 => ?_)
  refine LW.nil ?_
  refine KW.thenN ?_
  refine CW.block ?_
  have hcl : openC (stOf L) ≤ L.length := by unfold openC; refine Nat.le_trans List.countP_le_length ?_; simp [stOf]
  have hLl : L.length ≤ 1000000 := by simpa [stOf] using hl
  refine KW.fact (p := ∀ e ∈ L, ∃ (ad : Option Addr) (n c : Nat), e.2.2 = .slice ad n c) (fun w hs => ?_) (fun hsl => ?_)
  · obtain ⟨g, hg, _⟩ := hs.take 3 rfl
    exact txts_sl L g hg
  refine CW.loopW (fun n env As => ∃ (L' : List Ent) (cur : Option (Int × Value)) (k : Nat), (∀ e ∈ L', ∃ (ad : Option Addr) (n c : Nat), e.2.2 = .slice ad n c) ∧ L'.length = n ∧ k + openC (stOf L') = openC (stOf L) ∧ env = [(0, .pointer (some ⟨jb, 0, none⟩)), (2, .int .i64 0), (3, .int .i64 k), (12, .pointer (some ⟨b12, 0, none⟩))] ∧ As = [ex g0, row jb 32 [.map (some mb)], iterA mb b12 (mk L) (mk L') cur, txts L]) L.length [0, 1, 2, 3] ⟨L, none, 0, hsl, rfl, by simp, rfl, rfl⟩ ⟨rfl, rfl, rfl, rfl, trivial⟩ rfl rfl ?_
  rintro n _ _ ⟨L', cur, k, hsl', hn, hk, rfl, rfl⟩
  refine CW.seq ?_
  refine CW.region ?_
  refine LW.opR (or_next 2 rfl rfl) rfl rfl ?_
  rintro _ _ (⟨hl0, rfl, rfl⟩ | ⟨l1, p, l2, hsp, rfl, rfl⟩)
  · simp only [List.set_cons_succ, List.set_cons_zero]
    refine LW.opV (ov_extract rfl rfl) rfl rfl ?_
    refine LW.nil ?_
    refine KW.thenN ?_
    refine CW.seq ?_
    refine CW.condF rfl (rfl) ?_
    refine CW.exit ?_
    refine KW.thenX ?_
    refine KW.thenX ?_
    refine KW.hit ?_
    refine KW.thenN ?_
    refine CW.seq ?_
    refine CW.region ?_
    refine LW.opV (ov_move rfl) rfl rfl ?_
    refine LW.opV (ov_assign rfl) rfl rfl ?_
    refine LW.nil ?_
    refine KW.thenN ?_
    refine CW.ret ?_
    have hL0 : L' = [] := by simpa [mk] using hl0
    subst hL0
    have hk' : k = openC (stOf L) := by simpa [openC, stOf] using hk
    rw [← hk']
    exact KW.retE (.cons (.tmp rfl) .nil) fun w hs hw => ⟨_, ⟨rfl, rfl⟩, JA.mk' (Bs := [ex g0]) hs, hw⟩
  · obtain ⟨L1, ⟨a, kn, v⟩, L2, rfl, rfl, rfl, rfl⟩ := mk_split hsp
    have hc : openC (stOf (L1 ++ (a, kn, v) :: L2)) = openC (stOf (L1 ++ L2)) + if kn.txt.isSome then 1 else 0 := by
      simp only [openC, stOf, List.map_append, List.map_cons, List.countP_append, List.countP_cons]; omega
    rw [hc] at hk
    obtain ⟨ad, vn, vc, hv⟩ := hsl' (a, kn, v) (by simp)
    simp only at hv; subst hv
    have hsl2 : ∀ e ∈ L1 ++ L2, ∃ (ad : Option Addr) (n c : Nat), e.2.2 = .slice ad n c := fun e he => hsl' e (by simp at he ⊢; rcases he with h | h <;> simp [h])
    have hmk : mk L1 ++ mk L2 = mk (L1 ++ L2) := by simp [mk]
    simp only [List.set_cons_succ, List.set_cons_zero, hmk]
    refine LW.opV (ov_extract rfl rfl) rfl rfl ?_
    refine LW.nil ?_
    refine KW.thenN ?_
    refine CW.seq ?_
    refine CW.condT rfl (rfl) ?_
    refine CW.skip ?_
    refine KW.thenN ?_
    refine CW.block ?_
    refine CW.seq ?_
    refine CW.region ?_
    refine LW.opV (ov_entry 2 rfl rfl) rfl rfl ?_
    refine LW.opV (ov_extract rfl rfl) rfl rfl ?_
    refine LW.opBA (ob_alloc zc57 (fun _ => .c (.c (.c (.c (.n)))))) rfl rfl (fun b5 => ?_)
    refine LW.opU (ou_storeW ta57 rfl rfl .agg rfl rfl (.h (.h (.h (.n)))) (.t (.t (.t (.t (.h)))))) rfl ?_
    refine LW.nil ?_
    refine KW.thenN ?_
    refine CW.seq ?_
    refine CW.region ?_
    refine LW.opV (ov_fieldAddr fo57_1 rfl) rfl rfl ?_
    refine LW.opV (ov_loadR 4 ta4 rfl rfl rfl) rfl rfl ?_
    refine LW.nil ?_
    refine KW.thenN ?_
    refine CW.cond (by rfl) (fun hb => ?_) (fun hb => ?_)
    · rw [if_pos hb] at hk
      refine CW.region ?_
      refine LW.opV (ov_move rfl) rfl rfl ?_
      first | refine LW.opV (ov_add rfl rfl (by omega)) rfl rfl ?_ | refine LW.opV (ov_addW rfl rfl) rfl rfl ?_
      refine LW.opV (ov_assign rfl) rfl rfl ?_
      refine LW.nil ?_
      refine KW.blockN ?_
      exact KW.again (n - 1) [0, 1, 2, 3] (by simp at hn; omega) ⟨L1 ++ L2, _, k + 1, hsl2, by simp at hn ⊢; omega, by omega, rfl, rfl⟩ ⟨rfl, rfl, rfl, rfl, trivial⟩ rfl rfl
    · rw [if_neg (by simpa using hb)] at hk
      refine CW.skip ?_
      refine KW.blockN ?_
      exact KW.again (n - 1) [0, 1, 2, 3] (by simp at hn; omega) ⟨L1 ++ L2, _, k, hsl2, by simp at hn ⊢; omega, by omega, rfl, rfl⟩ ⟨rfl, rfl, rfl, rfl, trivial⟩ rfl rfl

theorem ROpen_ok {rb : Nat} {R : List Re} (hR : R.length ≤ 1000000) : Fn Try.prog 10 #[.pointer (some ⟨rb, 0, none⟩)] [RA rb R] (Ret fun v Q => v = .int .i64 (openC (stR R)) ∧ Q = [RA rb R]) := by
  refine Fn.of (args := _) Try.func10 rfl Try.ntmps10 rfl ?_
  intro w0 g0
  refine KW.openR 1 rfl fun ad c => ?_
  simp only [List.set_cons_succ, List.set_cons_zero, List.cons_append, List.nil_append]
  refine CW.seq ?_
  refine CW.region ?_
  refine LW.opV (ov_assign rfl) rfl rfl ?_
  refine LW.nil ?_
  refine KW.thenN ?_
  refine CW.seq ?_
  refine CW.region ?_
  refine LW.opV (ov_assign rfl) rfl rfl ?_
  refine LW.nil ?_
  refine KW.thenN ?_
  refine CW.seq ?_
  refine CW.seq ?_
  refine CW.region ?_
  refine LW.opV (ov_assign rfl) rfl rfl ?_
  refine LW.nil ?_
  refine KW.thenN ?_
  refine CW.block ?_
  have hd : ∀ k, (hk : k < R.length) → openC (stR (R.drop k)) = openC (stR (R.drop (k + 1))) + if R[k].2.2.1 then 1 else 0 := by
    intro k hk
    rw [List.drop_eq_getElem_cons hk]
    simp only [openC, stR, List.map_cons, List.countP_cons, rkn]
    cases R[k].2.2.1 <;> rfl
  have hcl : openC (stR R) ≤ R.length := by unfold openC; refine Nat.le_trans List.countP_le_length ?_; simp [stR]
  refine CW.loopW (fun n env As => ∃ k j : Nat, k + n = R.length ∧ j + openC (stR (R.drop k)) = openC (stR R) ∧ env = [(0, .pointer (some ⟨rb, 0, none⟩)), (2, .int .i64 0), (3, .int .i64 j), (4, .int .i64 k)] ∧ As = [ex g0, row rb 29 [.slice ad R.length c], ownS 63 4 (.slice ad R.length c) R.length (rflat R)]) R.length [0, 1, 2] ⟨0, 0, by simp, by simp, rfl, rfl⟩ ⟨rfl, rfl, rfl, rfl, trivial⟩ rfl rfl ?_
  rintro n _ _ ⟨k, j, hkn, hj, rfl, rfl⟩
  refine CW.seq ?_
  refine CW.seq ?_
  refine CW.region ?_
  refine LW.opV (ov_move rfl) rfl rfl ?_
  refine LW.opV (ov_move rfl) rfl rfl ?_
  first | refine LW.opV (ov_nilP rfl) rfl rfl ?_ | refine LW.opV (ov_nilF rfl) rfl rfl ?_
  refine LW.opV (ov_fieldAddr fo29_0 rfl) rfl rfl ?_
  refine LW.opV (ov_loadR 1 ta27 rfl rfl rfl) rfl rfl ?_
  refine LW.opV (ov_lenL so27 rfl) rfl rfl ?_
  refine LW.opV (ov_lss rfl rfl) rfl rfl ?_
  refine LW.nil ?_
  refine KW.thenN ?_
  refine CW.condD (by rfl) (fun h => ?_) (fun h => ?_)
  · have hk : k < R.length := by omega
    rw [hd k hk] at hj
    refine KW.own 2 rfl (fun _ h0 => by omega) fun b c' extra hv hnc hxl hcl => ?_
    obtain ⟨rfl, rfl⟩ : ad = some ⟨b, 0, none⟩ ∧ c = c' := by simpa using hv
    simp only [List.set_cons_succ, List.set_cons_zero]
    refine CW.skip ?_
    refine KW.thenN ?_
    refine CW.seq ?_
    refine CW.block ?_
    refine CW.seq ?_
    refine CW.region ?_
    refine LW.opV (ov_move rfl) rfl rfl ?_
    first | refine LW.opV (ov_nilP rfl) rfl rfl ?_ | refine LW.opV (ov_nilF rfl) rfl rfl ?_
    refine LW.opV (ov_fieldAddr fo29_0 rfl) rfl rfl ?_
    refine LW.opV (ov_loadR 1 ta27 rfl rfl rfl) rfl rfl ?_
    refine LW.opV (ov_move rfl) rfl rfl ?_
    refine LW.opV (ov_idxL so27 rfl rfl rfl (by omega)) rfl rfl ?_
    refine LW.opV (ov_fieldAddr fo63_2 rfl) rfl rfl ?_
    refine LW.opV (ov_load ta4 rfl (fun w hs => (hs.cell 2 rfl _).trans (rflat_get hk extra 2 (by omega)))) rfl rfl ?_
    refine LW.nil ?_
    refine KW.thenN ?_
    refine CW.cond (by rfl) (fun ha => ?_) (fun ha => ?_)
    · rw [if_pos ha] at hj
      refine KW.turn (fun w hs => hs.imp 2 rfl (own_row hnc hxl hcl)) ?_
      simp only [List.set_cons_succ, List.set_cons_zero]
      refine CW.region ?_
      refine LW.opV (ov_move rfl) rfl rfl ?_
      first | refine LW.opV (ov_add rfl rfl (by omega)) rfl rfl ?_ | refine LW.opV (ov_addW rfl rfl) rfl rfl ?_
      refine LW.opV (ov_assign rfl) rfl rfl ?_
      refine LW.nil ?_
      refine KW.blockN ?_
      refine KW.thenN ?_
      refine CW.region ?_
      refine LW.opV (ov_move rfl) rfl rfl ?_
      first | refine LW.opV (ov_add rfl rfl (by omega)) rfl rfl ?_ | refine LW.opV (ov_addW rfl rfl) rfl rfl ?_
      refine LW.opV (ov_assign rfl) rfl rfl ?_
      refine LW.nil ?_
      exact KW.again (n - 1) [0, 1, 2] (by omega) ⟨k + 1, j + 1, by omega, by omega, rfl, rfl⟩ ⟨rfl, rfl, rfl, rfl, trivial⟩ rfl rfl
    · rw [if_neg (by simp [ha])] at hj
      refine KW.turn (fun w hs => hs.imp 2 rfl (own_row hnc hxl hcl)) ?_
      simp only [List.set_cons_succ, List.set_cons_zero]
      refine CW.skip ?_
      refine KW.blockN ?_
      refine KW.thenN ?_
      refine CW.region ?_
      refine LW.opV (ov_move rfl) rfl rfl ?_
      first | refine LW.opV (ov_add rfl rfl (by omega)) rfl rfl ?_ | refine LW.opV (ov_addW rfl rfl) rfl rfl ?_
      refine LW.opV (ov_assign rfl) rfl rfl ?_
      refine LW.nil ?_
      exact KW.again (n - 1) [0, 1, 2] (by omega) ⟨k + 1, j, by omega, by omega, rfl, rfl⟩ ⟨rfl, rfl, rfl, rfl, trivial⟩ rfl rfl
  · have hk : k = R.length := by omega
    subst hk
    rw [List.drop_length] at hj
    have hj' : j = openC (stR R) := by simpa [openC, stR] using hj
    rw [← hj']
    refine CW.exit ?_
    refine KW.thenX ?_
    refine KW.thenX ?_
    refine KW.hit ?_
    refine KW.thenN ?_
    refine CW.seq ?_
    refine CW.region ?_
    refine LW.opV (ov_move rfl) rfl rfl ?_
    refine LW.opV (ov_assign rfl) rfl rfl ?_
    refine LW.nil ?_
    refine KW.thenN ?_
    refine CW.ret ?_
    exact KW.retE (.cons (.tmp rfl) .nil) fun w hs hw => ⟨_, ⟨rfl, rfl⟩, RA.mk' (Bs := [ex g0]) hs, hw⟩

theorem Feed_nil (p : Pk) : Fn Try.prog 7 #[.pointer none, pkv p] [] (Ret fun v Q => v = .tuple #[pcv pc0, .int .i64 1] ∧ Q = []) := by
  refine Fn.of (args := _) Try.func7 rfl Try.ntmps7 rfl ?_
  intro w0 g0
  refine CW.seq ?_
  refine CW.region ?_
  refine LW.opBA (ob_box rfl .agg (fun _ => .c (.n))) rfl rfl (fun b3 => ?_)
  refine LW.opBA (ob_alloc zc36 (fun _ => .c (.c (.n)))) rfl rfl (fun b4 => ?_)
  refine LW.opV (ov_assign rfl) rfl rfl ?_
  refine LW.nil ?_
  refine KW.thenN ?_
  refine CW.seq ?_
  refine CW.seq ?_
  refine CW.region ?_
  refine LW.opV (ov_move rfl) rfl rfl ?_
  refine LW.call [] (oc_fn cf17 rfl) rfl rfl rfl rfl (none_nil) ?_
  rintro _ _ ⟨rfl, rfl⟩
  simp only [putBack, List.set_cons_succ, List.set_cons_zero, List.append_nil]
  refine LW.nil ?_
  refine KW.thenN ?_
  refine CW.condT rfl (rfl) ?_
  refine CW.seq ?_
  refine CW.region ?_
  refine LW.opV (ov_build zc36 pl36 rfl (.n)) rfl rfl ?_
  refine LW.opU (ou_storeW ta36 rfl rfl .agg rfl rfl (.h (.h (.h (.h (.n))))) (.t (.t (.h)))) rfl ?_
  refine LW.opV (ov_assign rfl) rfl rfl ?_
  refine LW.nil ?_
  refine KW.thenN ?_
  refine CW.ret ?_
  refine KW.thenR ?_
  exact KW.retF (.cons (ResV.cellA 2 ta36 rfl rfl (.h (.h (.h (.h .n))))) (.cons (.tmp rfl) .nil)) [] rfl rfl ⟨rfl, rfl⟩
theorem Feed_zero (jb : Nat) (p : Pk) : Fn Try.prog 7 #[.pointer (some ⟨jb, 0, none⟩), pkv p] [row jb 32 [.map none]] (Ret fun v Q => v = .tuple #[pcv pc0, .int .i64 1] ∧ Q = [row jb 32 [.map none]]) := by
  refine Fn.of (args := _) Try.func7 rfl Try.ntmps7 rfl ?_
  intro w0 g0
  refine CW.seq ?_
  refine CW.region ?_
  refine LW.opBA (ob_box rfl .agg (fun _ => .c (.c (.n)))) rfl rfl (fun b3 => ?_)
  refine LW.opBA (ob_alloc zc36 (fun _ => .c (.c (.c (.n))))) rfl rfl (fun b4 => ?_)
  refine LW.opV (ov_assign rfl) rfl rfl ?_
  refine LW.nil ?_
  refine KW.thenN ?_
  refine CW.seq ?_
  refine CW.seq ?_
  refine CW.region ?_
  refine LW.opV (ov_move rfl) rfl rfl ?_
  refine LW.call [1] (oc_fn cf17 rfl) rfl rfl rfl rfl (none_zero jb) ?_
  rintro _ _ ⟨rfl, rfl⟩
  simp only [putBack, List.set_cons_succ, List.set_cons_zero, List.append_nil]
  refine LW.nil ?_
  refine KW.thenN ?_
  refine CW.condT rfl (rfl) ?_
  refine CW.seq ?_
  refine CW.region ?_
  refine LW.opV (ov_build zc36 pl36 rfl (.n)) rfl rfl ?_
  refine LW.opU (ou_storeW ta36 rfl rfl .agg rfl rfl (.h (.h (.h (.h (.n))))) (.t (.t (.t (.h))))) rfl ?_
  refine LW.opV (ov_assign rfl) rfl rfl ?_
  refine LW.nil ?_
  refine KW.thenN ?_
  refine CW.ret ?_
  refine KW.thenR ?_
  exact KW.retF (.cons (ResV.cellA 3 ta36 rfl rfl (.h (.h (.h (.h .n))))) (.cons (.tmp rfl) .nil)) [1] rfl rfl ⟨rfl, rfl⟩
theorem Open_nil : Fn Try.prog 9 #[.pointer none] [] (Ret fun v Q => v = .int .i64 0 ∧ Q = []) := by
  refine Fn.of (args := _) Try.func9 rfl Try.ntmps9 rfl ?_
  intro w0 g0
  refine CW.seq ?_
  refine CW.region ?_
  refine LW.opV (ov_assign rfl) rfl rfl ?_
  refine LW.nil ?_
  refine KW.thenN ?_
  refine CW.seq ?_
  refine CW.seq ?_
  refine CW.region ?_
  refine LW.opV (ov_move rfl) rfl rfl ?_
  refine LW.call [] (oc_fn cf17 rfl) rfl rfl rfl rfl (none_nil) ?_
  rintro _ _ ⟨rfl, rfl⟩
  simp only [putBack, List.set_cons_succ, List.set_cons_zero, List.append_nil]
  refine LW.nil ?_
  refine KW.thenN ?_
  refine CW.condT rfl (rfl) ?_
  refine CW.seq ?_
  refine CW.region ?_
  refine LW.opV (ov_assign rfl) rfl rfl ?_
  refine LW.nil ?_
  refine KW.thenN ?_
  refine CW.ret ?_
  refine KW.thenR ?_
  exact KW.retF (.cons (.tmp rfl) .nil) [] rfl rfl ⟨rfl, rfl⟩
theorem Open_zero (jb : Nat) : Fn Try.prog 9 #[.pointer (some ⟨jb, 0, none⟩)] [row jb 32 [.map none]] (Ret fun v Q => v = .int .i64 0 ∧ Q = [row jb 32 [.map none]]) := by
  refine Fn.of (args := _) Try.func9 rfl Try.ntmps9 rfl ?_
  intro w0 g0
  refine CW.seq ?_
  refine CW.region ?_
  refine LW.opV (ov_assign rfl) rfl rfl ?_
  refine LW.nil ?_
  refine KW.thenN ?_
  refine CW.seq ?_
  refine CW.seq ?_
  refine CW.region ?_
  refine LW.opV (ov_move rfl) rfl rfl ?_
  refine LW.call [1] (oc_fn cf17 rfl) rfl rfl rfl rfl (none_zero jb) ?_
  rintro _ _ ⟨rfl, rfl⟩
  simp only [putBack, List.set_cons_succ, List.set_cons_zero, List.append_nil]
  refine LW.nil ?_
  refine KW.thenN ?_
  refine CW.condT rfl (rfl) ?_
  refine CW.seq ?_
  refine CW.region ?_
  refine LW.opV (ov_assign rfl) rfl rfl ?_
  refine LW.nil ?_
  refine KW.thenN ?_
  refine CW.ret ?_
  refine KW.thenR ?_
  exact KW.retF (.cons (.tmp rfl) .nil) [1] rfl rfl ⟨rfl, rfl⟩
end Sx
end Go.Proofs.Ytkofbanncacamaa
