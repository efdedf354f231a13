/- Package perigeeref09: Feed. -/
import Derived.Test.YtkofbanncacamaaPkD
namespace Go.Proofs.Ytkofbanncacamaa
namespace Sx

theorem RFeed_bad {rb : Nat} {R : List Re} {p : Pk} (h : ¬ p.ok) : Fn Try.prog 8 #[.pointer (some ⟨rb, 0, none⟩), pkv p] [RA rb R] (Ret fun v Q => v = .tuple #[pcv pc0, .int .i64 2] ∧ Q = [RA rb R]) := by
  refine Fn.of (args := _) Try.func8 rfl Try.ntmps8 rfl ?_
  intro w0 g0
  refine CW.seq ?_
  refine CW.region ?_
  refine LW.opBA (ob_box rfl .agg (fun _ => .c (.c (.n)))) rfl rfl (fun b3 => ?_)
  refine LW.opBA (ob_alloc zc36 (fun _ => .c (.c (.c (.n))))) rfl rfl (fun b4 => ?_)
  refine LW.opV (ov_assign rfl) rfl rfl ?_
  refine LW.nil ?_
  refine KW.thenN ?_
  refine CW.seq ?_
  refine CW.seq ?_
  refine CW.region ?_
  refine LW.opV (ov_loadAR 2 ta34 rfl rfl (.h (.h (.h (.h (.h (.n))))))) rfl rfl ?_
  refine LW.call [] (oc_fn cf19 rfl) rfl rfl rfl rfl (RValid_ok p) ?_
  rintro _ _ ⟨rfl, rfl⟩
  simp only [putBack, List.append_nil]
  refine LW.opV (ov_not rfl) rfl rfl ?_
  refine LW.nil ?_
  refine KW.thenN ?_
  refine CW.condT rfl (by simp [h]) ?_
  refine CW.seq ?_
  refine CW.region ?_
  refine LW.opV (ov_build zc36 pl36 rfl (.n)) rfl rfl ?_
  refine LW.opU (ou_storeW ta36 rfl rfl .agg rfl rfl (.h (.h (.h (.h (.n))))) (.t (.t (.t (.h))))) rfl ?_
  refine LW.opV (ov_assign rfl) rfl rfl ?_
  refine LW.nil ?_
  refine KW.thenN ?_
  refine CW.ret ?_
  refine KW.thenR ?_
  exact KW.retF (.cons (ResV.cellA 3 ta36 rfl rfl (.h (.h (.h (.h .n))))) (.cons (.tmp rfl) .nil)) [1] rfl rfl ⟨rfl, rfl⟩
theorem RFeed_idle {rb : Nat} {R : List Re} {p : Pk} (h : p.ok) (hi : p.apid = 2047) : Fn Try.prog 8 #[.pointer (some ⟨rb, 0, none⟩), pkv p] [RA rb R] (Ret fun v Q => v = .tuple #[pcv pc0, .int .i64 0] ∧ Q = [RA rb R]) := by
  refine Fn.of (args := _) Try.func8 rfl Try.ntmps8 rfl ?_
  intro w0 g0
  refine CW.seq ?_
  refine CW.region ?_
  refine LW.opBA (ob_box rfl .agg (fun _ => .c (.c (.n)))) rfl rfl (fun b3 => ?_)
  refine LW.opBA (ob_alloc zc36 (fun _ => .c (.c (.c (.n))))) rfl rfl (fun b4 => ?_)
  refine LW.opV (ov_assign rfl) rfl rfl ?_
  refine LW.nil ?_
  refine KW.thenN ?_
  refine CW.seq ?_
  refine CW.seq ?_
  refine CW.region ?_
  refine LW.opV (ov_loadAR 2 ta34 rfl rfl (.h (.h (.h (.h (.h (.n))))))) rfl rfl ?_
  refine LW.call [] (oc_fn cf19 rfl) rfl rfl rfl rfl (RValid_ok p) ?_
  rintro _ _ ⟨rfl, rfl⟩
  simp only [putBack, List.append_nil]
  refine LW.opV (ov_not rfl) rfl rfl ?_
  refine LW.nil ?_
  refine KW.thenN ?_
  refine CW.condF rfl (by simp [h]) ?_
  refine CW.skip ?_
  refine KW.thenN ?_
  refine CW.seq ?_
  refine CW.seq ?_
  refine CW.region ?_
  refine LW.opV (ov_fieldAddr fo34_1 rfl) rfl rfl ?_
  refine LW.opV (ov_loadR 2 ta3 rfl rfl rfl) rfl rfl ?_
  refine LW.opV (ov_eql rfl rfl) rfl rfl ?_
  refine LW.nil ?_
  refine KW.thenN ?_
  refine CW.condT rfl (by simp [hi]) ?_
  refine CW.seq ?_
  refine CW.region ?_
  refine LW.opV (ov_build zc36 pl36 rfl (.n)) rfl rfl ?_
  refine LW.opU (ou_storeW ta36 rfl rfl .agg rfl rfl (.h (.h (.h (.h (.n))))) (.t (.t (.t (.h))))) rfl ?_
  refine LW.opV (ov_assign rfl) rfl rfl ?_
  refine LW.nil ?_
  refine KW.thenN ?_
  refine CW.ret ?_
  refine KW.thenR ?_
  exact KW.retF (.cons (ResV.cellA 3 ta36 rfl rfl (.h (.h (.h (.h .n))))) (.cons (.tmp rfl) .nil)) [1] rfl rfl ⟨rfl, rfl⟩

theorem RFeed_main {rb : Nat} {R : List Re} {p : Pk} (h : p.ok) (hi : p.apid ≠ 2047) (hR : R.length ≤ 1000000) (hst : StOk (stR R)) : Fn Try.prog 8 #[.pointer (some ⟨rb, 0, none⟩), pkv p] [RA rb R]
    (Ret fun v Q => ∃ R', v = .tuple #[pcv (feedK (look (stR R) p.apid) p).1, .int .i64 0] ∧ stR R' = putk (stR R) p.apid (feedK (look (stR R) p.apid) p).2 ∧ R'.length ≤ R.length + 1 ∧ Q = [RA rb R']) := by
  refine Fn.of (args := _) Try.func8 rfl Try.ntmps8 rfl ?_
  intro w0 g0
  refine CW.seq ?_
  refine CW.region ?_
  refine LW.opBA (ob_box rfl .agg (fun _ => .c (.c (.n)))) rfl rfl (fun b3 => ?_)
  refine LW.opBA (ob_alloc zc36 (fun _ => .c (.c (.c (.n))))) rfl rfl (fun b4 => ?_)
  refine LW.opV (ov_assign rfl) rfl rfl ?_
  refine LW.nil ?_
  refine KW.thenN ?_
  refine CW.seq ?_
  refine CW.seq ?_
  refine CW.region ?_
  refine LW.opV (ov_loadAR 2 ta34 rfl rfl (.h (.h (.h (.h (.h (.n))))))) rfl rfl ?_
  refine LW.call [] (oc_fn cf19 rfl) rfl rfl rfl rfl (RValid_ok p) ?_
  rintro _ _ ⟨rfl, rfl⟩
  simp only [putBack, List.append_nil]
  refine LW.opV (ov_not rfl) rfl rfl ?_
  refine LW.nil ?_
  refine KW.thenN ?_
  refine CW.condF rfl (by simp [h]) ?_
  refine CW.skip ?_
  refine KW.thenN ?_
  refine CW.seq ?_
  refine CW.seq ?_
  refine CW.region ?_
  refine LW.opV (ov_fieldAddr fo34_1 rfl) rfl rfl ?_
  refine LW.opV (ov_loadR 2 ta3 rfl rfl rfl) rfl rfl ?_
  refine LW.opV (ov_eql rfl rfl) rfl rfl ?_
  refine LW.nil ?_
  refine KW.thenN ?_
  refine CW.condF rfl (by simp [hi]) ?_
  refine CW.skip ?_
  refine KW.thenN ?_
  refine CW.seq ?_
  refine CW.region ?_
  refine LW.opV (ov_move rfl) rfl rfl ?_
  refine LW.opV (ov_fieldAddr fo34_1 rfl) rfl rfl ?_
  refine LW.opV (ov_loadR 2 ta3 rfl rfl rfl) rfl rfl ?_
  obtain ⟨hp0, hp1, hp2, hp3, hp4, hp5, hp6, hp7⟩ := id h
  obtain ⟨i, R1, e0, hat, hget, ha0, hk0, hlen, hput⟩ := at_state p.apid R
  have hko := look_ok hst (a := p.apid)
  rw [← hk0] at hko
  obtain ⟨hn0, hn1, htx⟩ := hko
  have hat2 : Fn Try.prog 20 #[.pointer (some ⟨rb, 0, none⟩), .int .i64 p.apid] [RA rb R] (Ret fun v Q => v = .tuple #[.int .i64 i, .bool (look (stR R) p.apid).isNone] ∧ Q = [RA rb R1]) := by
    refine (at_ok hR).mono fun e Q he => ?_
    cases e with
    | returned v =>
      simp only [Ret] at he ⊢
      cases q : rfind p.apid R 0 with
      | some j =>
        rw [q] at he hat; obtain ⟨rfl, rfl⟩ := he; obtain ⟨rfl, rfl, hs⟩ := hat
        obtain ⟨k, hk⟩ := Option.isSome_iff_exists.1 hs
        simp [hk]
      | none =>
        rw [q] at he hat; obtain ⟨rfl, rfl⟩ := he; obtain ⟨rfl, rfl, hs⟩ := hat
        have : look (stR R) p.apid = none := by simpa using hs
        simp [this]
    | panicked _ => exact he
    | outgrown => exact he
  have hil := lt_of_get hget
  refine LW.call [1] (oc_fn cf20 rfl) rfl rfl rfl rfl (hat2) ?_
  rintro _ _ ⟨rfl, rfl⟩
  simp only [putBack, List.set_cons_succ, List.set_cons_zero, List.append_nil]
  refine KW.openR 1 rfl fun ad c => ?_
  simp only [List.set_cons_succ, List.set_cons_zero, List.cons_append, List.nil_append]
  refine KW.own 4 rfl (fun _ h0 => by omega) fun b c' extra hv hnc hxl hcl => ?_
  obtain ⟨rfl, rfl⟩ : ad = some ⟨b, 0, none⟩ ∧ c = c' := by simpa using hv
  have hge : (R1.map rcells)[i]? = some (rcells e0) := by simp [hget]
  refine KW.turn (As' := [ex g0, row rb 29 [.slice (some ⟨b, 0, none⟩) R1.length c], _, _, rowF b 63 (0 + i * 4) (rcells e0) (flat ((R1.map rcells).take i)) (flat ((R1.map rcells).drop (i + 1)) ++ extra)]) (fun w hs => hs.imp 4 rfl (foc_in (rcells_len R1) hge)) ?_
  generalize hpre : flat ((R1.map rcells).take i) = pre
  generalize hpost : flat ((R1.map rcells).drop (i + 1)) ++ extra = post
  obtain ⟨a0, n0, o0, x0⟩ := e0
  simp only at ha0; subst ha0
  simp only [rkn] at hn0 hn1 htx
  simp only [rcells]
  refine LW.opV (ov_move rfl) rfl rfl ?_
  refine LW.opV (ov_extract rfl rfl) rfl rfl ?_
  refine LW.opV (ov_extract rfl rfl) rfl rfl ?_
  refine LW.opV (ov_assign rfl) rfl rfl ?_
  refine LW.opV (ov_assign rfl) rfl rfl ?_
  refine LW.nil ?_
  refine KW.thenN ?_
  refine CW.seq ?_
  refine CW.region ?_
  refine LW.opV (ov_move rfl) rfl rfl ?_
  first | refine LW.opV (ov_nilP rfl) rfl rfl ?_ | refine LW.opV (ov_nilF rfl) rfl rfl ?_
  refine LW.opV (ov_fieldAddr fo29_0 rfl) rfl rfl ?_
  refine LW.opV (ov_loadR 1 ta27 rfl rfl rfl) rfl rfl ?_
  refine LW.opV (ov_move rfl) rfl rfl ?_
  refine LW.opV (ov_idxL so27 rfl rfl rfl (by omega)) rfl rfl ?_
  refine LW.opV (ov_assign rfl) rfl rfl ?_
  refine LW.nil ?_
  refine KW.thenN ?_
  refine CW.seq ?_
  refine CW.region ?_
  refine LW.opBA (ob_alloc zc36 (fun _ => .c (.c (.c (.c (.c (.n))))))) rfl rfl (fun b9 => ?_)
  refine LW.nil ?_
  refine KW.thenN ?_
  generalize hfm : feedM (look (stR R) p.apid) p = m
  refine CW.cut (fun env As => env = [(0, .pointer (some ⟨rb, 0, none⟩)), (3, .pointer (some ⟨b3, 0, none⟩)), (4, .pointer (some ⟨b4, 0, none⟩)), (8, .pointer (some ⟨b, 0 + i * 4, none⟩)), (9, .pointer (some ⟨b9, 0, none⟩))] ∧ As = [ex g0, row rb 29 [.slice (some ⟨b, 0, none⟩) R1.length c], row b3 34 [.bool p.cmd, .int .i64 p.apid, .int .i64 p.flags, .int .i64 p.count, S p.data], row b4 36 [.bool false, S [], .int .i64 0, .bool false], rowF b 63 (0 + i * 4) [.int .i64 p.apid, .int .i64 n0, .bool o0, S x0] pre post, row b9 36 [.bool false, S [], .int .i64 m, .bool false]]) (fun M hM => ?_) ?_
  · refine CW.seq ?_
    refine CW.region ?_
    refine LW.opV (ov_move rfl) rfl rfl ?_
    refine LW.opV (ov_not rfl) rfl rfl ?_
    refine LW.nil ?_
    refine KW.thenN ?_
    refine CW.cond (by rfl) (fun hb => ?_) (fun hb => ?_)
    · have hm : (p.count - n0 + 16384) % 16384 = m := by
        rw [← hfm]
        cases q : look (stR R) p.apid with
        | none => rw [q] at hb; cases hb
        | some k =>
          rw [q] at hk0
          have : k.next = n0 := by have := congrArg Kn.next hk0; simpa [rkn] using this.symm
          simp only [feedM, this]; omega
      refine CW.draw [2,4] rfl mixed rfl (ls := #[false, false, false, false, false, false, false, false, false, false, false]) (by kernel_rfl) ?_
      refine DW.take 0 [2,4] rfl (by kernel_rfl) (by kernel_rfl) (by kernel_rfl) (fun _ _ _ h => h) (ov_fieldAddr fo34_3 rfl) rfl rfl rfl rfl rfl ?_
      refine DW.take 1 [2,4] rfl (by kernel_rfl) (by kernel_rfl) (by kernel_rfl) (fun _ _ _ h => h) (ov_loadR 0 ta3 rfl rfl rfl) rfl rfl rfl rfl rfl ?_
      refine DW.take 2 [2,4] rfl (by kernel_rfl) (by kernel_rfl) (by kernel_rfl) (fun _ _ _ h => h) (ov_move rfl) rfl rfl rfl rfl rfl ?_
      first | refine DW.take 3 [2,4] rfl (by kernel_rfl) (by kernel_rfl) (by kernel_rfl) (fun _ _ _ h => h) (ov_nilP rfl) rfl rfl rfl rfl rfl ?_ | refine DW.take 3 [2,4] rfl (by kernel_rfl) (by kernel_rfl) (by kernel_rfl) (fun _ _ _ h => h) (ov_nilF rfl) rfl rfl rfl rfl rfl ?_
      refine DW.take 4 [2,4] rfl (by kernel_rfl) (by kernel_rfl) (by kernel_rfl) (fun _ _ _ h => h) (ov_fieldAddr fo63_1 rfl) rfl rfl rfl rfl rfl ?_
      refine DW.take 5 [2,4] rfl (by kernel_rfl) (by kernel_rfl) (by kernel_rfl) (fun _ _ _ h => h) (ov_loadF 1 ta3 rfl rfl rfl) rfl rfl rfl rfl rfl ?_
      first | refine DW.take 6 [2,4] rfl (by kernel_rfl) (by kernel_rfl) (by kernel_rfl) (fun _ _ _ h => h) (ov_sub rfl rfl (by omega)) rfl rfl rfl rfl rfl ?_ | refine DW.take 6 [2,4] rfl (by kernel_rfl) (by kernel_rfl) (by kernel_rfl) (fun _ _ _ h => h) (ov_subW rfl rfl) rfl rfl rfl rfl rfl ?_
      first | refine DW.take 7 [2,4] rfl (by kernel_rfl) (by kernel_rfl) (by kernel_rfl) (fun _ _ _ h => h) (ov_add rfl rfl (by omega)) rfl rfl rfl rfl rfl ?_ | refine DW.take 7 [2,4] rfl (by kernel_rfl) (by kernel_rfl) (by kernel_rfl) (fun _ _ _ h => h) (ov_addW rfl rfl) rfl rfl rfl rfl rfl ?_
      refine DW.take 8 [2,4] rfl (by kernel_rfl) (by kernel_rfl) (by kernel_rfl) (fun _ _ _ h => h) (OpV.eq (ov_rem rfl rfl (by omega) (by omega)) (congrArg (Value.int .i64) hm)) rfl rfl rfl rfl rfl ?_
      refine DW.take 9 [2,4] rfl (by kernel_rfl) (by kernel_rfl) (by kernel_rfl) (fun _ _ _ h => h) (ov_fieldAddr fo36_2 rfl) rfl rfl rfl rfl rfl ?_
      refine DW.all1 10 (by kernel_rfl) ?_
      refine DO.opU [2,4] rfl (ou_storeW ta3 rfl rfl (.one rfl) rfl rfl (.t (.t (.h (.n)))) (.t (.t (.t (.t (.t (.h))))))) rfl rfl rfl rfl ?_
      refine DW.done (by kernel_rfl) ?_
      refine KW.thenN ?_
      exact KW.meet [0, 1, 2, 3, 4, 5] hM ⟨rfl, rfl⟩ ⟨rfl, rfl, rfl, rfl, rfl, trivial⟩ rfl rfl
    · have hm : 0 = m := by
        rw [← hfm]
        cases q : look (stR R) p.apid with
        | none => rfl
        | some k => rw [q] at hb; cases hb
      subst hm
      refine CW.skip ?_
      refine KW.thenN ?_
      exact KW.meet [0, 1, 2, 3, 4, 5] hM ⟨rfl, rfl⟩ ⟨rfl, rfl, rfl, rfl, rfl, trivial⟩ rfl rfl
  rintro _ _ ⟨rfl, rfl⟩
  refine CW.seq ?_
  refine CW.region ?_
  refine LW.opV (ov_move rfl) rfl rfl ?_
  refine LW.opV (ov_fieldAddr fo34_3 rfl) rfl rfl ?_
  refine LW.opV (ov_loadR 2 ta3 rfl rfl rfl) rfl rfl ?_
  first | refine LW.opV (ov_add rfl rfl (by omega)) rfl rfl ?_ | refine LW.opV (ov_addW rfl rfl) rfl rfl ?_
  first | refine LW.opV (ov_rem rfl rfl (by omega) (by omega)) rfl rfl ?_ | refine LW.opV (ov_remW rfl rfl (by omega)) rfl rfl ?_
  first | refine LW.opV (ov_nilP rfl) rfl rfl ?_ | refine LW.opV (ov_nilF rfl) rfl rfl ?_
  refine LW.opV (ov_fieldAddr fo63_1 rfl) rfl rfl ?_
  refine LW.opU (ou_storeF ta3 rfl rfl (.one rfl) rfl rfl (.t (.h (.n))) (.t (.t (.t (.t (.h)))))) rfl ?_
  refine LW.nil ?_
  refine KW.thenN ?_
  generalize hnx : (p.count + 1) % 16384 = nx
  -- is a message given up?
  generalize ht0 : (if o0 then some x0 else none) = t0
  have ho0 : o0 = t0.isSome := by rw [← ht0]; cases o0 <;> rfl
  have hx0 : ∀ l, t0 = some l → x0 = l := by
    intro l hl; rw [← ht0] at hl
    cases o0 with
    | true => simpa using hl
    | false => cases hl
  have htx0 : ∀ l, t0 = some l → l.length ≤ 16384 := by rw [← ht0]; exact htx
  rw [ho0]
  generalize hbr : feedB t0 m p = br
  generalize ht1 : (if br then none else t0) = t1
  refine CW.cut (fun env As => env = [(0, .pointer (some ⟨rb, 0, none⟩)), (3, .pointer (some ⟨b3, 0, none⟩)), (4, .pointer (some ⟨b4, 0, none⟩)), (8, .pointer (some ⟨b, 0 + i * 4, none⟩)), (9, .pointer (some ⟨b9, 0, none⟩))] ∧ As = [ex g0, row rb 29 [.slice (some ⟨b, 0, none⟩) R1.length c], row b3 34 [.bool p.cmd, .int .i64 p.apid, .int .i64 p.flags, .int .i64 p.count, S p.data], row b4 36 [.bool false, S [], .int .i64 0, .bool false], rowF b 63 (0 + i * 4) [.int .i64 p.apid, .int .i64 nx, .bool t1.isSome, S x0] pre post, row b9 36 [.bool false, S [], .int .i64 m, .bool br]]) (fun M hM => ?_) ?_
  · have stay : t0.isSome = false ∨ (m = 0 ∧ p.flags ≠ 1 ∧ p.flags ≠ 3) → br = false ∧ t1 = t0 := by
      intro hc
      have e : br = false := by
        rw [← hbr]; unfold feedB
        rcases hc with hc | ⟨hc, hc', hc''⟩
        · simp [hc]
        · have : p.flags % 2 = 0 := by omega
          simp [hc, this]
      exact ⟨e, by rw [← ht1, e]; rfl⟩
    have given : t0.isSome = true → (m ≠ 0 ∨ p.flags = 1 ∨ p.flags = 3) → br = true ∧ t1 = none := by
      intro hc hc'
      have e : br = true := by
        rw [← hbr]; unfold feedB; rw [hc]
        rcases hc' with hc' | hc' | hc' <;> simp [hc']
      exact ⟨e, by rw [← ht1, e]; rfl⟩
    clear hbr ht1 hfm hnx
    refine CW.seq ?_
    refine CW.region ?_
    refine LW.opV (ov_move rfl) rfl rfl ?_
    first | refine LW.opV (ov_nilP rfl) rfl rfl ?_ | refine LW.opV (ov_nilF rfl) rfl rfl ?_
    refine LW.opV (ov_fieldAddr fo63_2 rfl) rfl rfl ?_
    refine LW.opV (ov_loadF 4 ta4 rfl rfl rfl) rfl rfl ?_
    refine LW.opV (ov_move rfl) rfl rfl ?_
    refine KW.split 54 rfl (fun ho => ?_) (fun ho => ?_)
    · refine LW.opV (ov_fieldAddr fo36_2 rfl) rfl rfl ?_
      refine LW.opV (ov_loadR 5 ta3 rfl rfl rfl) rfl rfl ?_
      refine LW.opV (ov_neq rfl rfl) rfl rfl ?_
      refine LW.opV (ov_move rfl) rfl rfl ?_
      refine KW.splitD 58 rfl (fun hm => ?_) (fun hm => ?_)
      · obtain ⟨rfl, rfl⟩ := given ho (.inl hm)
        refine LW.skip rfl rfl ?_
        refine LW.skip rfl rfl ?_
        refine LW.skip rfl rfl ?_
        first | refine LW.opV (ov_pickT rfl rfl) rfl rfl ?_ | refine LW.opV (ov_pickF rfl rfl) rfl rfl ?_ | refine LW.opV (ov_pick rfl rfl rfl) rfl rfl ?_
        refine LW.opV (ov_move rfl) rfl rfl ?_
        refine LW.skip rfl rfl ?_
        refine LW.skip rfl rfl ?_
        refine LW.skip rfl rfl ?_
        first | refine LW.opV (ov_pickT rfl rfl) rfl rfl ?_ | refine LW.opV (ov_pickF rfl rfl) rfl rfl ?_ | refine LW.opV (ov_pick rfl rfl rfl) rfl rfl ?_
        first | refine LW.opV (ov_pickT rfl rfl) rfl rfl ?_ | refine LW.opV (ov_pickF rfl rfl) rfl rfl ?_ | refine LW.opV (ov_pick rfl rfl rfl) rfl rfl ?_
        refine LW.nil ?_
        refine KW.thenN ?_
        refine CW.condT rfl rfl ?_
        refine CW.seq ?_
        refine CW.region ?_
        refine LW.opV (ov_move rfl) rfl rfl ?_
        first | refine LW.opV (ov_nilP rfl) rfl rfl ?_ | refine LW.opV (ov_nilF rfl) rfl rfl ?_
        refine LW.opV (ov_fieldAddr fo63_2 rfl) rfl rfl ?_
        refine LW.opU (ou_storeF ta4 rfl rfl (.one rfl) rfl rfl (.t (.t (.h (.n)))) (.t (.t (.t (.t (.h)))))) rfl ?_
        refine LW.nil ?_
        refine KW.thenN ?_
        refine CW.region ?_
        refine LW.opV (ov_fieldAddr fo36_3 rfl) rfl rfl ?_
        refine LW.opU (ou_storeW ta4 rfl rfl (.one rfl) rfl rfl (.t (.t (.t (.h (.n))))) (.t (.t (.t (.t (.t (.h))))))) rfl ?_
        refine LW.nil ?_
        refine KW.thenN ?_
        exact KW.meet [0, 1, 2, 3, 4, 5] hM ⟨rfl, rfl⟩ ⟨rfl, rfl, rfl, rfl, rfl, trivial⟩ rfl rfl
      · refine LW.opV (ov_fieldAddr fo34_2 rfl) rfl rfl ?_
        refine LW.opV (ov_loadR 2 ta3 rfl rfl rfl) rfl rfl ?_
        refine LW.opV (ov_eql rfl rfl) rfl rfl ?_
        first | refine LW.opV (ov_pickT rfl rfl) rfl rfl ?_ | refine LW.opV (ov_pickF rfl rfl) rfl rfl ?_ | refine LW.opV (ov_pick rfl rfl rfl) rfl rfl ?_
        refine LW.opV (ov_move rfl) rfl rfl ?_
        refine KW.splitD 63 rfl (fun hf => ?_) (fun hf => ?_)
        · obtain ⟨rfl, rfl⟩ := given ho (.inr (.inl hf))
          refine LW.skip rfl rfl ?_
          refine LW.skip rfl rfl ?_
          refine LW.skip rfl rfl ?_
          first | refine LW.opV (ov_pickT rfl rfl) rfl rfl ?_ | refine LW.opV (ov_pickF rfl rfl) rfl rfl ?_ | refine LW.opV (ov_pick rfl rfl rfl) rfl rfl ?_
          first | refine LW.opV (ov_pickT rfl rfl) rfl rfl ?_ | refine LW.opV (ov_pickF rfl rfl) rfl rfl ?_ | refine LW.opV (ov_pick rfl rfl rfl) rfl rfl ?_
          refine LW.nil ?_
          refine KW.thenN ?_
          refine CW.condT rfl rfl ?_
          refine CW.seq ?_
          refine CW.region ?_
          refine LW.opV (ov_move rfl) rfl rfl ?_
          first | refine LW.opV (ov_nilP rfl) rfl rfl ?_ | refine LW.opV (ov_nilF rfl) rfl rfl ?_
          refine LW.opV (ov_fieldAddr fo63_2 rfl) rfl rfl ?_
          refine LW.opU (ou_storeF ta4 rfl rfl (.one rfl) rfl rfl (.t (.t (.h (.n)))) (.t (.t (.t (.t (.h)))))) rfl ?_
          refine LW.nil ?_
          refine KW.thenN ?_
          refine CW.region ?_
          refine LW.opV (ov_fieldAddr fo36_3 rfl) rfl rfl ?_
          refine LW.opU (ou_storeW ta4 rfl rfl (.one rfl) rfl rfl (.t (.t (.t (.h (.n))))) (.t (.t (.t (.t (.t (.h))))))) rfl ?_
          refine LW.nil ?_
          refine KW.thenN ?_
          exact KW.meet [0, 1, 2, 3, 4, 5] hM ⟨rfl, rfl⟩ ⟨rfl, rfl, rfl, rfl, rfl, trivial⟩ rfl rfl
        · refine LW.opV (ov_fieldAddr fo34_2 rfl) rfl rfl ?_
          refine LW.opV (ov_loadR 2 ta3 rfl rfl rfl) rfl rfl ?_
          refine LW.opV (ov_eql rfl rfl) rfl rfl ?_
          first | refine LW.opV (ov_pickT rfl rfl) rfl rfl ?_ | refine LW.opV (ov_pickF rfl rfl) rfl rfl ?_ | refine LW.opV (ov_pick rfl rfl rfl) rfl rfl ?_
          first | refine LW.opV (ov_pickT rfl rfl) rfl rfl ?_ | refine LW.opV (ov_pickF rfl rfl) rfl rfl ?_ | refine LW.opV (ov_pick rfl rfl rfl) rfl rfl ?_
          refine LW.nil ?_
          refine KW.thenN ?_
          refine CW.condD (by rfl) (fun hg => ?_) (fun hg => ?_)
          · obtain ⟨rfl, rfl⟩ := given ho (.inr (.inr hg))
            refine CW.seq ?_
            refine CW.region ?_
            refine LW.opV (ov_move rfl) rfl rfl ?_
            first | refine LW.opV (ov_nilP rfl) rfl rfl ?_ | refine LW.opV (ov_nilF rfl) rfl rfl ?_
            refine LW.opV (ov_fieldAddr fo63_2 rfl) rfl rfl ?_
            refine LW.opU (ou_storeF ta4 rfl rfl (.one rfl) rfl rfl (.t (.t (.h (.n)))) (.t (.t (.t (.t (.h)))))) rfl ?_
            refine LW.nil ?_
            refine KW.thenN ?_
            refine CW.region ?_
            refine LW.opV (ov_fieldAddr fo36_3 rfl) rfl rfl ?_
            refine LW.opU (ou_storeW ta4 rfl rfl (.one rfl) rfl rfl (.t (.t (.t (.h (.n))))) (.t (.t (.t (.t (.t (.h))))))) rfl ?_
            refine LW.nil ?_
            refine KW.thenN ?_
            exact KW.meet [0, 1, 2, 3, 4, 5] hM ⟨rfl, rfl⟩ ⟨rfl, rfl, rfl, rfl, rfl, trivial⟩ rfl rfl
          · obtain ⟨rfl, rfl⟩ := stay (.inr ⟨by omega, by omega, by omega⟩)
            refine CW.skip ?_
            refine KW.thenN ?_
            exact KW.meet [0, 1, 2, 3, 4, 5] hM ⟨rfl, rfl⟩ ⟨rfl, rfl, rfl, rfl, rfl, trivial⟩ rfl rfl
    · obtain ⟨rfl, rfl⟩ := stay (.inl ho)
      refine LW.skip rfl rfl ?_
      refine LW.skip rfl rfl ?_
      refine LW.skip rfl rfl ?_
      refine LW.skip rfl rfl ?_
      refine LW.skip rfl rfl ?_
      refine LW.skip rfl rfl ?_
      refine LW.skip rfl rfl ?_
      refine LW.skip rfl rfl ?_
      refine LW.skip rfl rfl ?_
      refine LW.skip rfl rfl ?_
      refine LW.skip rfl rfl ?_
      refine LW.skip rfl rfl ?_
      refine LW.skip rfl rfl ?_
      first | refine LW.opV (ov_pickT rfl rfl) rfl rfl ?_ | refine LW.opV (ov_pickF rfl rfl) rfl rfl ?_ | refine LW.opV (ov_pick rfl rfl rfl) rfl rfl ?_
      refine LW.nil ?_
      refine KW.thenN ?_
      refine CW.condF rfl rfl ?_
      refine CW.skip ?_
      refine KW.thenN ?_
      exact KW.meet [0, 1, 2, 3, 4, 5] hM ⟨rfl, rfl⟩ ⟨rfl, rfl, rfl, rfl, rfl, trivial⟩ rfl rfl
  rintro _ _ ⟨rfl, rfl⟩
  have htl : ∀ l, t1 = some l → l.length ≤ 16384 ∧ x0 = l := by
    intro l hl
    rw [← ht1] at hl
    cases br with
    | true => cases hl
    | false => exact ⟨htx0 l hl, hx0 l hl⟩
  refine CW.cut (fun env As => ∃ (pc : Pc) (t2 : Option (List UInt8)) (tx : List UInt8), feedF t1 m br p = (pc, t2) ∧ (∀ l, t2 = some l → tx = l) ∧ env = [(0, .pointer (some ⟨rb, 0, none⟩)), (3, .pointer (some ⟨b3, 0, none⟩)), (4, .pointer (some ⟨b4, 0, none⟩)), (8, .pointer (some ⟨b, 0 + i * 4, none⟩)), (9, .pointer (some ⟨b9, 0, none⟩))] ∧ As = [ex g0, row rb 29 [.slice (some ⟨b, 0, none⟩) R1.length c], row b3 34 [.bool p.cmd, .int .i64 p.apid, .int .i64 p.flags, .int .i64 p.count, S p.data], row b4 36 [.bool false, S [], .int .i64 0, .bool false], rowF b 63 (0 + i * 4) [.int .i64 p.apid, .int .i64 nx, .bool t2.isSome, S tx] pre post, row b9 36 [.bool pc.whole, S pc.msg, .int .i64 pc.missed, .bool pc.broken]]) (fun M hM => ?_) ?_
  · clear hbr ht1 hfm
    refine CW.seq ?_
    refine CW.region ?_
    refine LW.opV (ov_fieldAddr fo34_2 rfl) rfl rfl ?_
    refine LW.opV (ov_loadR 2 ta3 rfl rfl rfl) rfl rfl ?_
    refine LW.nil ?_
    refine KW.thenN ?_
    refine CW.block ?_
    refine CW.seq ?_
    refine CW.region ?_
    refine LW.opV (ov_eql rfl rfl) rfl rfl ?_
    refine LW.opV (ov_assign rfl) rfl rfl ?_
    refine LW.nil ?_
    refine KW.thenN ?_
    refine CW.condD (by rfl) (fun h3 => ?_) (fun h3 => ?_)
    · refine CW.draw [2] rfl mixed rfl (ls := #[false, false, false, false, false, false]) (by kernel_rfl) ?_
      refine DW.take 0 [2] rfl (by kernel_rfl) (by kernel_rfl) (by kernel_rfl) (fun _ _ _ h => h) (ov_fieldAddr fo34_4 rfl) rfl rfl rfl rfl rfl ?_
      refine DW.take 1 [2] rfl (by kernel_rfl) (by kernel_rfl) (by kernel_rfl) (fun _ _ _ h => h) (ov_loadR 0 ta9 rfl rfl rfl) rfl rfl rfl rfl rfl ?_
      refine DW.take 2 [2] rfl (by kernel_rfl) (by kernel_rfl) (by kernel_rfl) (fun _ _ _ h => h) (ov_fieldAddr fo36_0 rfl) rfl rfl rfl rfl rfl ?_
      refine DW.all1 3 (by kernel_rfl) ?_
      refine DO.opU [2] rfl (ou_storeW ta4 rfl rfl (.one rfl) rfl rfl (.h (.n)) (.t (.t (.t (.t (.t (.h))))))) rfl rfl rfl rfl ?_
      refine DW.take 4 [2] rfl (by kernel_rfl) (by kernel_rfl) (by kernel_rfl) (fun _ _ _ h => h) (ov_fieldAddr fo36_1 rfl) rfl rfl rfl rfl rfl ?_
      refine DW.all1 5 (by kernel_rfl) ?_
      refine DO.opU [2] rfl (ou_storeW ta9 rfl rfl (.one rfl) rfl rfl (.t (.h (.n))) (.t (.t (.t (.t (.t (.h))))))) rfl rfl rfl rfl ?_
      refine DW.done (by kernel_rfl) ?_
      refine KW.blockN ?_
      refine KW.thenN ?_
      exact KW.meet [0, 1, 2, 3, 4, 5] hM ⟨⟨true, p.data, m, br⟩, t1, x0, by simp [feedF, h3], fun l hl => (htl l hl).2, rfl, rfl⟩ ⟨rfl, rfl, rfl, rfl, rfl, trivial⟩ rfl rfl
    refine CW.seq ?_
    refine CW.region ?_
    refine LW.opV (ov_eql rfl rfl) rfl rfl ?_
    refine LW.opV (ov_assign rfl) rfl rfl ?_
    refine LW.nil ?_
    refine KW.thenN ?_
    refine CW.condD (by rfl) (fun h1 => ?_) (fun h1 => ?_)
    · refine CW.draw [2] rfl mixed rfl (ls := #[false, false, false, false, false, false, false, false, false, false]) (by kernel_rfl) ?_
      refine DW.take 0 [2] rfl (by kernel_rfl) (by kernel_rfl) (by kernel_rfl) (fun _ _ _ h => h) (ov_move rfl) rfl rfl rfl rfl rfl ?_
      refine DW.take 1 [2] rfl (by kernel_rfl) (by kernel_rfl) (by kernel_rfl) (fun _ _ _ h => h) (ov_move rfl) rfl rfl rfl rfl rfl ?_
      refine DW.take 2 [2] rfl (by kernel_rfl) (by kernel_rfl) (by kernel_rfl) (fun _ _ _ h => h) (ov_fieldAddr fo34_4 rfl) rfl rfl rfl rfl rfl ?_
      refine DW.take 3 [2] rfl (by kernel_rfl) (by kernel_rfl) (by kernel_rfl) (fun _ _ _ h => h) (ov_loadR 0 ta9 rfl rfl rfl) rfl rfl rfl rfl rfl ?_
      first | refine DW.take 4 [2] rfl (by kernel_rfl) (by kernel_rfl) (by kernel_rfl) (fun _ _ _ h => h) (ov_nilP rfl) rfl rfl rfl rfl rfl ?_ | refine DW.take 4 [2] rfl (by kernel_rfl) (by kernel_rfl) (by kernel_rfl) (fun _ _ _ h => h) (ov_nilF rfl) rfl rfl rfl rfl rfl ?_
      refine DW.take 5 [2] rfl (by kernel_rfl) (by kernel_rfl) (by kernel_rfl) (fun _ _ _ h => h) (ov_fieldAddr fo63_2 rfl) rfl rfl rfl rfl rfl ?_
      refine DW.all1 6 (by kernel_rfl) ?_
      refine DO.opU [2] rfl (ou_storeF ta4 rfl rfl (.one rfl) rfl rfl (.t (.t (.h (.n)))) (.t (.t (.t (.t (.h)))))) rfl rfl rfl rfl ?_
      first | refine DW.take 7 [2] rfl (by kernel_rfl) (by kernel_rfl) (by kernel_rfl) (fun _ _ _ h => h) (ov_nilP rfl) rfl rfl rfl rfl rfl ?_ | refine DW.take 7 [2] rfl (by kernel_rfl) (by kernel_rfl) (by kernel_rfl) (fun _ _ _ h => h) (ov_nilF rfl) rfl rfl rfl rfl rfl ?_
      refine DW.take 8 [2] rfl (by kernel_rfl) (by kernel_rfl) (by kernel_rfl) (fun _ _ _ h => h) (ov_fieldAddr fo63_3 rfl) rfl rfl rfl rfl rfl ?_
      refine DW.all1 9 (by kernel_rfl) ?_
      refine DO.opU [2] rfl (ou_storeF ta9 rfl rfl (.one rfl) rfl rfl (.t (.t (.t (.h (.n))))) (.t (.t (.t (.t (.h)))))) rfl rfl rfl rfl ?_
      refine DW.done (by kernel_rfl) ?_
      refine KW.blockN ?_
      refine KW.thenN ?_
      exact KW.meet [0, 1, 2, 3, 4, 5] hM ⟨⟨false, [], m, br⟩, some p.data, p.data, by simp [feedF, h1], (fun l hl => by cases hl; rfl), rfl, rfl⟩ ⟨rfl, rfl, rfl, rfl, rfl, trivial⟩ rfl rfl
    rcases t1 with _ | l
    · refine CW.seq ?_
      refine CW.seq ?_
      refine CW.region ?_
      refine LW.opV (ov_move rfl) rfl rfl ?_
      first | refine LW.opV (ov_nilP rfl) rfl rfl ?_ | refine LW.opV (ov_nilF rfl) rfl rfl ?_
      refine LW.opV (ov_fieldAddr fo63_2 rfl) rfl rfl ?_
      refine LW.opV (ov_loadF 4 ta4 rfl rfl rfl) rfl rfl ?_
      refine LW.opV (ov_not rfl) rfl rfl ?_
      refine LW.nil ?_
      refine KW.thenN ?_
      refine CW.condT rfl (rfl) ?_
      refine CW.exit ?_
      refine KW.thenX ?_
      refine KW.hit ?_
      refine KW.thenN ?_
      exact KW.meet [0, 1, 2, 3, 4, 5] hM ⟨⟨false, [], m, br⟩, none, x0, by simp [feedF, h3, h1], (fun l hl => by cases hl), rfl, rfl⟩ ⟨rfl, rfl, rfl, rfl, rfl, trivial⟩ rfl rfl
    obtain ⟨hl16, rfl⟩ := htl l rfl
    refine CW.seq ?_
    refine CW.seq ?_
    refine CW.region ?_
    refine LW.opV (ov_move rfl) rfl rfl ?_
    first | refine LW.opV (ov_nilP rfl) rfl rfl ?_ | refine LW.opV (ov_nilF rfl) rfl rfl ?_
    refine LW.opV (ov_fieldAddr fo63_2 rfl) rfl rfl ?_
    refine LW.opV (ov_loadF 4 ta4 rfl rfl rfl) rfl rfl ?_
    refine LW.opV (ov_not rfl) rfl rfl ?_
    refine LW.nil ?_
    refine KW.thenN ?_
    refine CW.condF rfl (rfl) ?_
    refine CW.skip ?_
    refine KW.thenN ?_
    refine CW.seq ?_
    refine CW.draw [2] rfl mixed rfl (ls := #[false, false, false, false, false, false, false, false, false, false, false]) (by kernel_rfl) ?_
    refine DW.take 0 [2] rfl (by kernel_rfl) (by kernel_rfl) (by kernel_rfl) (fun _ _ _ h => h) (ov_move rfl) rfl rfl rfl rfl rfl ?_
    refine DW.take 1 [2] rfl (by kernel_rfl) (by kernel_rfl) (by kernel_rfl) (fun _ _ _ h => h) (ov_move rfl) rfl rfl rfl rfl rfl ?_
    first | refine DW.take 2 [2] rfl (by kernel_rfl) (by kernel_rfl) (by kernel_rfl) (fun _ _ _ h => h) (ov_nilP rfl) rfl rfl rfl rfl rfl ?_ | refine DW.take 2 [2] rfl (by kernel_rfl) (by kernel_rfl) (by kernel_rfl) (fun _ _ _ h => h) (ov_nilF rfl) rfl rfl rfl rfl rfl ?_
    refine DW.take 3 [2] rfl (by kernel_rfl) (by kernel_rfl) (by kernel_rfl) (fun _ _ _ h => h) (ov_fieldAddr fo63_3 rfl) rfl rfl rfl rfl rfl ?_
    refine DW.take 5 [2] rfl (by kernel_rfl) (by kernel_rfl) (by kernel_rfl) (fun _ _ _ h => h) (ov_fieldAddr fo34_4 rfl) rfl rfl rfl rfl rfl ?_
    refine DW.take 6 [2] rfl (by kernel_rfl) (by kernel_rfl) (by kernel_rfl) (fun _ _ _ h => h) (ov_loadR 0 ta9 rfl rfl rfl) rfl rfl rfl rfl rfl ?_
    refine DW.all1 4 (by kernel_rfl) ?_
    refine DO.opV [2] rfl (ov_loadF 4 ta9 rfl rfl rfl) rfl rfl rfl rfl rfl ?_
    refine DW.take 7 [2] rfl (by kernel_rfl) (by kernel_rfl) (by kernel_rfl) (fun _ _ _ h => h) (ov_strAdd rfl rfl (by first | omega | (simp; omega))) rfl rfl rfl rfl rfl ?_
    first | refine DW.take 8 [2] rfl (by kernel_rfl) (by kernel_rfl) (by kernel_rfl) (fun _ _ _ h => h) (ov_nilP rfl) rfl rfl rfl rfl rfl ?_ | refine DW.take 8 [2] rfl (by kernel_rfl) (by kernel_rfl) (by kernel_rfl) (fun _ _ _ h => h) (ov_nilF rfl) rfl rfl rfl rfl rfl ?_
    refine DW.take 9 [2] rfl (by kernel_rfl) (by kernel_rfl) (by kernel_rfl) (fun _ _ _ h => h) (ov_fieldAddr fo63_3 rfl) rfl rfl rfl rfl rfl ?_
    refine DW.all1 10 (by kernel_rfl) ?_
    refine DO.opU [2] rfl (ou_storeF ta9 rfl rfl (.one rfl) rfl rfl (.t (.t (.t (.h (.n))))) (.t (.t (.t (.t (.h)))))) rfl rfl rfl rfl ?_
    refine DW.done (by kernel_rfl) ?_
    refine KW.thenN ?_
    refine CW.seq ?_
    refine CW.region ?_
    refine LW.opV (ov_move rfl) rfl rfl ?_
    first | refine LW.opV (ov_nilP rfl) rfl rfl ?_ | refine LW.opV (ov_nilF rfl) rfl rfl ?_
    refine LW.opV (ov_fieldAddr fo63_3 rfl) rfl rfl ?_
    refine LW.opV (ov_loadF 4 ta9 rfl rfl rfl) rfl rfl ?_
    refine LW.opV (ov_lenS un9 rfl) rfl rfl ?_
    refine LW.opV (ov_gtr rfl rfl) rfl rfl ?_
    refine LW.nil ?_
    refine KW.thenN ?_
    refine CW.condD (by rfl) (fun hbig => ?_) (fun hbig => ?_)
    · refine CW.seq ?_
      refine CW.region ?_
      refine LW.opV (ov_move rfl) rfl rfl ?_
      first | refine LW.opV (ov_nilP rfl) rfl rfl ?_ | refine LW.opV (ov_nilF rfl) rfl rfl ?_
      refine LW.opV (ov_fieldAddr fo63_2 rfl) rfl rfl ?_
      refine LW.opU (ou_storeF ta4 rfl rfl (.one rfl) rfl rfl (.t (.t (.h (.n)))) (.t (.t (.t (.t (.h)))))) rfl ?_
      refine LW.nil ?_
      refine KW.thenN ?_
      refine CW.region ?_
      refine LW.opV (ov_fieldAddr fo36_3 rfl) rfl rfl ?_
      refine LW.opU (ou_storeW ta4 rfl rfl (.one rfl) rfl rfl (.t (.t (.t (.h (.n))))) (.t (.t (.t (.t (.t (.h))))))) rfl ?_
      refine LW.nil ?_
      refine KW.blockN ?_
      refine KW.thenN ?_
      exact KW.meet [0, 1, 2, 3, 4, 5] hM ⟨⟨false, [], m, true⟩, none, x0 ++ p.data, by simp only [feedF]; rw [if_neg h3, if_neg h1, if_neg (by simp at hbig; omega), if_pos (by simp at hbig; omega)], (fun l hl => by cases hl), rfl, rfl⟩ ⟨rfl, rfl, rfl, rfl, rfl, trivial⟩ rfl rfl
    refine CW.seq ?_
    refine CW.region ?_
    refine LW.opV (ov_fieldAddr fo34_2 rfl) rfl rfl ?_
    refine LW.opV (ov_loadR 2 ta3 rfl rfl rfl) rfl rfl ?_
    refine LW.opV (ov_eql rfl rfl) rfl rfl ?_
    refine LW.nil ?_
    refine KW.thenN ?_
    refine CW.condD (by rfl) (fun h2 => ?_) (fun h2 => ?_)
    · refine CW.draw [] rfl mixed rfl (ls := #[false, false, false, false, false, false, false, false, false, false, false, false]) (by kernel_rfl) ?_
      refine DW.take 0 [] rfl (by kernel_rfl) (by kernel_rfl) (by kernel_rfl) (fun _ _ _ h => h) (ov_move rfl) rfl rfl rfl rfl rfl ?_
      refine DW.take 1 [] rfl (by kernel_rfl) (by kernel_rfl) (by kernel_rfl) (fun _ _ _ h => h) (ov_move rfl) rfl rfl rfl rfl rfl ?_
      first | refine DW.take 2 [] rfl (by kernel_rfl) (by kernel_rfl) (by kernel_rfl) (fun _ _ _ h => h) (ov_nilP rfl) rfl rfl rfl rfl rfl ?_ | refine DW.take 2 [] rfl (by kernel_rfl) (by kernel_rfl) (by kernel_rfl) (fun _ _ _ h => h) (ov_nilF rfl) rfl rfl rfl rfl rfl ?_
      refine DW.take 3 [] rfl (by kernel_rfl) (by kernel_rfl) (by kernel_rfl) (fun _ _ _ h => h) (ov_fieldAddr fo63_3 rfl) rfl rfl rfl rfl rfl ?_
      refine DW.take 5 [] rfl (by kernel_rfl) (by kernel_rfl) (by kernel_rfl) (fun _ _ _ h => h) (ov_fieldAddr fo36_0 rfl) rfl rfl rfl rfl rfl ?_
      refine DW.all2 4 6 (by kernel_rfl) ?_ ?_
      · refine DO.opV [] rfl (ov_loadF 4 ta9 rfl rfl rfl) rfl rfl rfl rfl rfl ?_
        refine DW.all1 6 (by kernel_rfl) ?_
        refine DO.opU [] rfl (ou_storeW ta4 rfl rfl (.one rfl) rfl rfl (.h (.n)) (.t (.t (.t (.t (.t (.h))))))) rfl rfl rfl rfl ?_
        refine DW.take 7 [] rfl (by kernel_rfl) (by kernel_rfl) (by kernel_rfl) (fun _ _ _ h => h) (ov_fieldAddr fo36_1 rfl) rfl rfl rfl rfl rfl ?_
        refine DW.all1 8 (by kernel_rfl) ?_
        refine DO.opU [] rfl (ou_storeW ta9 rfl rfl (.one rfl) rfl rfl (.t (.h (.n))) (.t (.t (.t (.t (.t (.h))))))) rfl rfl rfl rfl ?_
        first | refine DW.take 9 [] rfl (by kernel_rfl) (by kernel_rfl) (by kernel_rfl) (fun _ _ _ h => h) (ov_nilP rfl) rfl rfl rfl rfl rfl ?_ | refine DW.take 9 [] rfl (by kernel_rfl) (by kernel_rfl) (by kernel_rfl) (fun _ _ _ h => h) (ov_nilF rfl) rfl rfl rfl rfl rfl ?_
        refine DW.take 10 [] rfl (by kernel_rfl) (by kernel_rfl) (by kernel_rfl) (fun _ _ _ h => h) (ov_fieldAddr fo63_2 rfl) rfl rfl rfl rfl rfl ?_
        refine DW.all1 11 (by kernel_rfl) ?_
        refine DO.opU [] rfl (ou_storeF ta4 rfl rfl (.one rfl) rfl rfl (.t (.t (.h (.n)))) (.t (.t (.t (.t (.h)))))) rfl rfl rfl rfl ?_
        refine DW.done (by kernel_rfl) ?_
        refine KW.blockN ?_
        refine KW.thenN ?_
        exact KW.meet [0, 1, 2, 3, 4, 5] hM ⟨⟨true, x0 ++ p.data, m, br⟩, none, x0 ++ p.data, by simp only [feedF]; rw [if_neg h3, if_neg h1, if_pos ⟨h2, by simp at hbig; omega⟩], (fun l hl => by cases hl), rfl, rfl⟩ ⟨rfl, rfl, rfl, rfl, rfl, trivial⟩ rfl rfl
      · refine DO.opU [] rfl (ou_storeW ta4 rfl rfl (.one rfl) rfl rfl (.h (.n)) (.t (.t (.t (.t (.t (.h))))))) rfl rfl rfl rfl ?_
        refine DW.all1 4 (by kernel_rfl) ?_
        refine DO.opV [] rfl (ov_loadF 4 ta9 rfl rfl rfl) rfl rfl rfl rfl rfl ?_
        refine DW.take 7 [] rfl (by kernel_rfl) (by kernel_rfl) (by kernel_rfl) (fun _ _ _ h => h) (ov_fieldAddr fo36_1 rfl) rfl rfl rfl rfl rfl ?_
        refine DW.all1 8 (by kernel_rfl) ?_
        refine DO.opU [] rfl (ou_storeW ta9 rfl rfl (.one rfl) rfl rfl (.t (.h (.n))) (.t (.t (.t (.t (.t (.h))))))) rfl rfl rfl rfl ?_
        first | refine DW.take 9 [] rfl (by kernel_rfl) (by kernel_rfl) (by kernel_rfl) (fun _ _ _ h => h) (ov_nilP rfl) rfl rfl rfl rfl rfl ?_ | refine DW.take 9 [] rfl (by kernel_rfl) (by kernel_rfl) (by kernel_rfl) (fun _ _ _ h => h) (ov_nilF rfl) rfl rfl rfl rfl rfl ?_
        refine DW.take 10 [] rfl (by kernel_rfl) (by kernel_rfl) (by kernel_rfl) (fun _ _ _ h => h) (ov_fieldAddr fo63_2 rfl) rfl rfl rfl rfl rfl ?_
        refine DW.all1 11 (by kernel_rfl) ?_
        refine DO.opU [] rfl (ou_storeF ta4 rfl rfl (.one rfl) rfl rfl (.t (.t (.h (.n)))) (.t (.t (.t (.t (.h)))))) rfl rfl rfl rfl ?_
        refine DW.done (by kernel_rfl) ?_
        refine KW.blockN ?_
        refine KW.thenN ?_
        exact KW.meet [0, 1, 2, 3, 4, 5] hM ⟨⟨true, x0 ++ p.data, m, br⟩, none, x0 ++ p.data, by simp only [feedF]; rw [if_neg h3, if_neg h1, if_pos ⟨h2, by simp at hbig; omega⟩], (fun l hl => by cases hl), rfl, rfl⟩ ⟨rfl, rfl, rfl, rfl, rfl, trivial⟩ rfl rfl
    · refine CW.skip ?_
      refine KW.blockN ?_
      refine KW.thenN ?_
      exact KW.meet [0, 1, 2, 3, 4, 5] hM ⟨⟨false, [], m, br⟩, some (x0 ++ p.data), x0 ++ p.data, by simp only [feedF]; rw [if_neg h3, if_neg h1, if_neg (by omega), if_neg (by simp at hbig; omega)], (fun l hl => by cases hl; rfl), rfl, rfl⟩ ⟨rfl, rfl, rfl, rfl, rfl, trivial⟩ rfl rfl
  rintro _ _ ⟨pc, t2, tx, hF, htx2, rfl, rfl⟩
  refine CW.seq ?_
  refine CW.region ?_
  refine LW.opV (ov_loadAR 5 ta36 rfl rfl (.h (.h (.h (.h (.n)))))) rfl rfl ?_
  refine LW.opU (ou_storeW ta36 rfl rfl .agg rfl rfl (.h (.h (.h (.h (.n))))) (.t (.t (.t (.h))))) rfl ?_
  refine LW.opV (ov_assign rfl) rfl rfl ?_
  refine LW.nil ?_
  refine KW.thenN ?_
  refine CW.ret ?_
  have hK : feedK (look (stR R) p.apid) p = (pc, ⟨nx, t2⟩) := by
    have e : ((look (stR R) p.apid).getD ⟨0, none⟩).txt = t0 := by rw [← hk0, ← ht0]; rfl
    simp only [feedK, hfm, e, hbr, ht1, hF, hnx]
  rw [hK]
  have hr : rkn (p.apid, nx, t2.isSome, tx) = ⟨nx, t2⟩ := by
    cases t2 with
    | none => rfl
    | some l => simp [rkn, htx2 l rfl]
  refine KW.retE (.cons (ResV.cellA 3 ta36 rfl rfl (.h (.h (.h (.h .n))))) (.cons (.tmp rfl) .nil)) fun w hs hw => ⟨_, ⟨R1.set i (p.apid, nx, t2.isSome, tx), rfl, by rw [hput _ rfl, hr], by simpa using hlen, rfl⟩, RA.mk' (Bs := [ex g0]) (ad := some ⟨b, 0, none⟩) (c := c) ?_, hw⟩
  subst hpre; subst hpost
  have h1 := (hs.imp 4 rfl (foc_out (b := b) (es := R1.map rcells) (i := i) (e := rcells (p.apid, nx, t2.isSome, tx)) (by simpa using hil))).picks [0, 1, 4] rfl
  have e1 : (R1.map rcells).set i (rcells (p.apid, nx, t2.isSome, tx)) = (R1.set i (p.apid, nx, t2.isSome, tx)).map rcells := by rw [List.map_set]
  have e2 : (rflat (R1.set i (p.apid, nx, t2.isSome, tx))).length = R1.length * 4 := by have := flat_len (rcells_len (R1.set i (p.apid, nx, t2.isSome, tx))); simpa [rflat] using this
  have e3 : (rflat R1).length = R1.length * 4 := by have := flat_len (rcells_len R1); simpa [rflat] using this
  have h2 := h1.imp 2 (B := ownS 63 4 (.slice (some ⟨b, 0, none⟩) R1.length c) R1.length (rflat (R1.set i (p.apid, nx, t2.isSome, tx)))) rfl (by
    rw [e1]; exact own_row hnc e2 (by rw [List.length_append] at hcl ⊢; rw [e3] at hcl; simp only [rflat] at e2; rw [e2]; exact hcl))
  simpa [picks, nth] using h2
end Sx
end Go.Proofs.Ytkofbanncacamaa
