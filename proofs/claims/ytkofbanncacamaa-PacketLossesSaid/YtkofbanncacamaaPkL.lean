/- PacketJoins: the law's walk. -/
import Derived.Test.YtkofbanncacamaaPkK
import Derived.Test.YtkofbanncacamaaSxH
namespace Go.Proofs.Ytkofbanncacamaa
namespace Sx
set_option maxRecDepth 20000

/-- packets in the old memory -/
def RdPk (W : World) (ad : Option Addr) (L : List Pk) : Prop := ∀ i (h : i < L.length), ∃ b off, ad = some ⟨b, off, none⟩ ∧ ∀ (j : Nat) (v : Value), (pcells L[i])[j]? = some v → W.cell? ⟨b, off + i * 5 + j, none⟩ = some v

theorem PacketJoins_ok {W : World} {ad : Option Addr} {c : Nat} {L : List Pk} (hL : RdPk W ad L) : Fn Try.prog 3 #[.slice ad L.length c] [ex (hall W)] (Ret fun v Q => v = .bool true ∧ Q = [ex (hall W)]) := by
  refine Fn.of (args := _) Try.func3 rfl Try.ntmps3 rfl ?_
  intro w0 g0
  refine CW.seq ?_
  refine CW.region ?_
  refine LW.opV (ov_assign rfl) rfl rfl ?_
  refine LW.nil ?_
  refine KW.thenN ?_
  refine CW.seq ?_
  refine CW.seq ?_
  refine CW.region ?_
  refine LW.call [] (oc_fn cf5 rfl) rfl rfl rfl rfl (shown_ok) ?_
  rintro _ _ ⟨rfl, rfl⟩
  simp only [putBack, List.set_cons_succ, List.set_cons_zero, List.cons_append, List.nil_append, List.append_nil]
  refine LW.opV (ov_not rfl) rfl rfl ?_
  refine LW.nil ?_
  refine KW.thenN ?_
  refine CW.condF rfl rfl ?_
  refine CW.skip ?_
  refine KW.thenN ?_
  refine CW.seq ?_
  refine CW.seq ?_
  refine CW.region ?_
  refine LW.opV (ov_move rfl) rfl rfl ?_
  refine LW.opV (ov_lenL so22 rfl) rfl rfl ?_
  refine LW.opV (ov_gtr rfl rfl) rfl rfl ?_
  refine LW.nil ?_
  refine KW.thenN ?_
  refine CW.condD (by rfl) (fun h3 => ?_) (fun h3 => ?_)
  · refine CW.seq ?_
    refine CW.region ?_
    refine LW.opV (ov_assign rfl) rfl rfl ?_
    refine LW.nil ?_
    refine KW.thenN ?_
    refine CW.ret ?_
    refine KW.thenR ?_
    exact KW.retF (.cons (.tmp rfl) .nil) [1] rfl rfl ⟨rfl, rfl⟩
  refine CW.skip ?_
  refine KW.thenN ?_
  refine CW.seq ?_
  refine CW.region ?_
  refine LW.call [] (oc_fn cf6 rfl) rfl rfl rfl rfl (New_ok) ?_
  rintro _ _ ⟨jb, rfl, rfl⟩
  simp only [putBack, List.set_cons_succ, List.set_cons_zero, List.cons_append, List.nil_append, List.append_nil]
  refine LW.opV (ov_build zc29 pl29 rfl (.n)) rfl rfl ?_
  refine LW.opBA (ob_box rfl .agg (fun _ => .c (.c (.c (.n))))) rfl rfl (fun b23 => ?_)
  refine LW.opV (ov_assign rfl) rfl rfl ?_
  refine LW.opV (ov_assign rfl) rfl rfl ?_
  refine LW.nil ?_
  refine KW.thenN ?_
  refine CW.seq ?_
  refine CW.region ?_
  refine LW.opV (ov_assign rfl) rfl rfl ?_
  refine LW.nil ?_
  refine KW.thenN ?_
  refine CW.seq ?_
  refine CW.region ?_
  refine LW.opV (ov_build zc32 pl32 rfl (.n)) rfl rfl ?_
  refine LW.opBA (ob_box rfl .agg (fun _ => .c (.c (.c (.c (.n)))))) rfl rfl (fun b25 => ?_)
  refine LW.opV (ov_assign rfl) rfl rfl ?_
  refine LW.nil ?_
  refine KW.thenN ?_
  refine CW.seq ?_
  refine CW.seq ?_
  refine CW.region ?_
  refine LW.opV (ov_assign rfl) rfl rfl ?_
  refine LW.nil ?_
  refine KW.thenN ?_
  refine CW.block ?_
  refine KW.newS 63 4 ?_
  refine KW.turn (As' := [ex g0, ex (hall W), JA jb (stR []), row b25 32 [.map none], RA b23 []]) (fun w hs => RA.mk' (Bs := [_, _, _, _]) (hs.picks [0, 1, 2, 4, 3, 5] rfl)) ?_
  refine CW.loopW (fun n env As => ∃ (k : Nat) (R : List Re), k + n = L.length ∧ StOk (stR R) ∧ R.length ≤ k ∧ env = [(0, .slice ad L.length c), (3, .pointer (some ⟨jb, 0, none⟩)), (4, .pointer (some ⟨b23, 0, none⟩)), (5, .pointer none), (6, .pointer (some ⟨b25, 0, none⟩)), (7, .int .i64 k)] ∧ As = [ex g0, ex (hall W), JA jb (stR R), row b25 32 [.map none], RA b23 R]) L.length [0, 1, 2, 3, 4] ⟨0, [], by simp, (fun e he => by cases he), by simp, rfl, rfl⟩ ⟨rfl, rfl, rfl, rfl, rfl, rfl, trivial⟩ rfl rfl ?_
  rintro n _ _ ⟨k, R, hkn, hst, hRk, rfl, rfl⟩
  refine CW.seq ?_
  refine CW.seq ?_
  refine CW.region ?_
  refine LW.opV (ov_move rfl) rfl rfl ?_
  refine LW.opV (ov_move rfl) rfl rfl ?_
  refine LW.opV (ov_lenL so22 rfl) rfl rfl ?_
  refine LW.opV (ov_lss rfl rfl) rfl rfl ?_
  refine LW.nil ?_
  refine KW.thenN ?_
  refine CW.condD (by rfl) (fun h => ?_) (fun h => ?_)
  · have hk : k < L.length := by omega
    obtain ⟨b, off, rfl, hcell⟩ := hL k hk
    generalize L[k] = p at hcell
    refine CW.skip ?_
    refine KW.thenN ?_
    refine CW.seq ?_
    refine CW.block ?_
    refine CW.seq ?_
    refine CW.seq ?_
    refine CW.region ?_
    refine LW.opV (ov_move rfl) rfl rfl ?_
    refine LW.opV (ov_move rfl) rfl rfl ?_
    refine LW.opV (ov_idxL so22 rfl rfl rfl (by omega)) rfl rfl ?_
    refine LW.opV (ov_fieldAddr fo34_4 rfl) rfl rfl ?_
    refine LW.opV (ov_load ta9 rfl (fun w hs => hs.oldCell 1 rfl (hcell 4 _ rfl))) rfl rfl ?_
    refine LW.opV (ov_lenS un9 rfl) rfl rfl ?_
    refine LW.opV (ov_gtr rfl rfl) rfl rfl ?_
    refine LW.nil ?_
    refine KW.thenN ?_
    refine CW.condD (by rfl) (fun h2 => ?_) (fun h2 => ?_)
    · refine CW.seq ?_
      refine CW.region ?_
      refine LW.opV (ov_assign rfl) rfl rfl ?_
      refine LW.nil ?_
      refine KW.thenN ?_
      refine CW.ret ?_
      refine KW.thenR ?_
      refine KW.blockR ?_
      refine KW.thenR ?_
      refine KW.thenR ?_
      refine KW.blockR ?_
      refine KW.thenR ?_
      exact KW.retF (.cons (.tmp rfl) .nil) [1] rfl rfl ⟨rfl, rfl⟩
    have hst2 : StOk (feedJ (stR R) p).2 := StOk_feedJ hst
    have hfl := feedJ_len (stR R) p
    refine CW.skip ?_
    refine KW.thenN ?_
    refine CW.seq ?_
    refine CW.region ?_
    refine LW.opV (ov_move rfl) rfl rfl ?_
    refine LW.opV (ov_move rfl) rfl rfl ?_
    refine LW.opV (ov_move rfl) rfl rfl ?_
    refine LW.opV (ov_idxL so22 rfl rfl rfl (by omega)) rfl rfl ?_
    refine LW.opV (ov_loadA (vs := pcells p) ta34 rfl rfl (fun w hs j v hj => hs.oldCell 1 rfl (hcell j v hj))) rfl rfl ?_
    refine LW.call [2] (oc_fn cf7 rfl) rfl rfl rfl rfl (Feed_ok (p := p) hst) ?_
    rintro _ _ ⟨rfl, rfl⟩
    simp only [putBack, List.set_cons_succ, List.set_cons_zero, List.cons_append, List.nil_append, List.append_nil]
    refine LW.opV (ov_move rfl) rfl rfl ?_
    refine LW.opV (ov_extract rfl rfl) rfl rfl ?_
    refine LW.opV (ov_extract rfl rfl) rfl rfl ?_
    refine LW.opBA (ob_alloc zc36 (fun _ => .c (.c (.c (.c (.c (.n))))))) rfl rfl (fun b8 => ?_)
    refine LW.opU (ou_storeW ta36 rfl rfl .agg rfl rfl (.h (.h (.h (.h (.n))))) (.t (.t (.t (.t (.t (.h))))))) rfl ?_
    refine LW.opV (ov_assign rfl) rfl rfl ?_
    refine LW.nil ?_
    refine KW.thenN ?_
    refine CW.seq ?_
    refine CW.region ?_
    refine LW.opV (ov_move rfl) rfl rfl ?_
    refine LW.opV (ov_move rfl) rfl rfl ?_
    refine LW.opV (ov_move rfl) rfl rfl ?_
    refine LW.opV (ov_idxL so22 rfl rfl rfl (by omega)) rfl rfl ?_
    refine LW.opV (ov_loadA (vs := pcells p) ta34 rfl rfl (fun w hs j v hj => hs.oldCell 1 rfl (hcell j v hj))) rfl rfl ?_
    refine LW.call [4] (oc_fn cf8 rfl) rfl rfl rfl rfl (RFeed_ok (p := p) (by omega) hst) ?_
    rintro _ _ ⟨R', rfl, hR', rfl⟩
    simp only [putBack, List.set_cons_succ, List.set_cons_zero, List.cons_append, List.nil_append, List.append_nil]
    refine LW.opV (ov_move rfl) rfl rfl ?_
    refine LW.opV (ov_extract rfl rfl) rfl rfl ?_
    refine LW.opV (ov_extract rfl rfl) rfl rfl ?_
    refine LW.opBA (ob_alloc zc36 (fun _ => .c (.c (.c (.c (.c (.c (.n)))))))) rfl rfl (fun b10 => ?_)
    refine LW.opU (ou_storeW ta36 rfl rfl .agg rfl rfl (.h (.h (.h (.h (.n))))) (.t (.t (.t (.t (.t (.t (.h)))))))) rfl ?_
    refine LW.opV (ov_assign rfl) rfl rfl ?_
    refine LW.nil ?_
    refine KW.thenN ?_
    refine CW.seq ?_
    refine CW.region ?_
    refine LW.opV (ov_move rfl) rfl rfl ?_
    refine LW.opV (ov_move rfl) rfl rfl ?_
    refine LW.opV (ov_move rfl) rfl rfl ?_
    refine LW.opV (ov_idxL so22 rfl rfl rfl (by omega)) rfl rfl ?_
    refine LW.opV (ov_loadA (vs := pcells p) ta34 rfl rfl (fun w hs j v hj => hs.oldCell 1 rfl (hcell j v hj))) rfl rfl ?_
    refine LW.call [] (oc_fn cf7 rfl) rfl rfl rfl rfl (Feed_nil p) ?_
    rintro _ _ ⟨rfl, rfl⟩
    simp only [putBack, List.set_cons_succ, List.set_cons_zero, List.cons_append, List.nil_append, List.append_nil]
    refine LW.opV (ov_move rfl) rfl rfl ?_
    refine LW.opV (ov_extract rfl rfl) rfl rfl ?_
    refine LW.opV (ov_extract rfl rfl) rfl rfl ?_
    refine LW.opBA (ob_alloc zc36 (fun _ => .c (.c (.c (.c (.c (.c (.c (.n))))))))) rfl rfl (fun b12 => ?_)
    refine LW.opU (ou_storeW ta36 rfl rfl .agg rfl rfl (.h (.h (.h (.h (.n))))) (.t (.t (.t (.t (.t (.t (.t (.h))))))))) rfl ?_
    refine LW.opV (ov_assign rfl) rfl rfl ?_
    refine LW.nil ?_
    refine KW.thenN ?_
    refine CW.seq ?_
    refine CW.region ?_
    refine LW.opV (ov_move rfl) rfl rfl ?_
    refine LW.opV (ov_move rfl) rfl rfl ?_
    refine LW.opV (ov_move rfl) rfl rfl ?_
    refine LW.opV (ov_idxL so22 rfl rfl rfl (by omega)) rfl rfl ?_
    refine LW.opV (ov_loadA (vs := pcells p) ta34 rfl rfl (fun w hs j v hj => hs.oldCell 1 rfl (hcell j v hj))) rfl rfl ?_
    refine LW.call [3] (oc_fn cf7 rfl) rfl rfl rfl rfl (Feed_zero b25 p) ?_
    rintro _ _ ⟨rfl, rfl⟩
    simp only [putBack, List.set_cons_succ, List.set_cons_zero, List.cons_append, List.nil_append, List.append_nil]
    refine LW.opV (ov_move rfl) rfl rfl ?_
    refine LW.opV (ov_extract rfl rfl) rfl rfl ?_
    refine LW.opV (ov_extract rfl rfl) rfl rfl ?_
    refine LW.opBA (ob_alloc zc36 (fun _ => .c (.c (.c (.c (.c (.c (.c (.c (.n)))))))))) rfl rfl (fun b14 => ?_)
    refine LW.opU (ou_storeW ta36 rfl rfl .agg rfl rfl (.h (.h (.h (.h (.n))))) (.t (.t (.t (.t (.t (.t (.t (.t (.h)))))))))) rfl ?_
    refine LW.opV (ov_assign rfl) rfl rfl ?_
    refine LW.nil ?_
    refine KW.thenN ?_
    generalize hfj : feedJ (stR R) p = fj at hst2 hfl hR' ⊢
    obtain ⟨⟨pc, er⟩, st'⟩ := fj
    simp only at hst2 hfl hR'
    subst hR'
    have hR'l : R'.length ≤ k + 1 := by simp [stR] at hfl; omega
    refine CW.seq ?_
    refine CW.region ?_
    refine LW.opV (ov_loadAR 5 ta36 rfl rfl (.h (.h (.h (.h (.n)))))) rfl rfl ?_
    refine LW.opV (ov_loadAR 6 ta36 rfl rfl (.h (.h (.h (.h (.n)))))) rfl rfl ?_
    refine LW.opV (ov_aggNeR fk36 rfl rfl (.b (.s (.i (.b .n)))) rfl) rfl rfl ?_
    refine LW.opV (ov_move rfl) rfl rfl ?_
    refine LW.opV (ov_move rfl) rfl rfl ?_
    refine LW.opV (ov_move rfl) rfl rfl ?_
    refine LW.opV (OpV.eq (ov_neq rfl rfl) (congrArg Value.bool (decide_eq_false (by simp)))) rfl rfl ?_
    first | refine LW.opV (ov_pickT rfl rfl) rfl rfl ?_ | refine LW.opV (ov_pickF rfl rfl) rfl rfl ?_ | refine LW.opV (ov_pick rfl rfl rfl) rfl rfl ?_
    refine LW.opV (ov_move rfl) rfl rfl ?_
    refine LW.opV (ov_move rfl) rfl rfl ?_
    refine LW.call [2] (oc_fn cf9 rfl) rfl rfl rfl rfl (Open_ok (by simp [stR]; omega)) ?_
    rintro _ _ ⟨rfl, rfl⟩
    simp only [putBack, List.set_cons_succ, List.set_cons_zero, List.cons_append, List.nil_append, List.append_nil]
    refine LW.opV (ov_move rfl) rfl rfl ?_
    refine LW.call [4] (oc_fn cf10 rfl) rfl rfl rfl rfl (ROpen_ok (by omega)) ?_
    rintro _ _ ⟨rfl, rfl⟩
    simp only [putBack, List.set_cons_succ, List.set_cons_zero, List.cons_append, List.nil_append, List.append_nil]
    refine LW.opV (OpV.eq (ov_neq rfl rfl) (congrArg Value.bool (decide_eq_false (by simp)))) rfl rfl ?_
    first | refine LW.opV (ov_pickT rfl rfl) rfl rfl ?_ | refine LW.opV (ov_pickF rfl rfl) rfl rfl ?_ | refine LW.opV (ov_pick rfl rfl rfl) rfl rfl ?_
    refine LW.opV (ov_move rfl) rfl rfl ?_
    refine LW.opV (ov_loadAR 7 ta36 rfl rfl (.h (.h (.h (.h (.n)))))) rfl rfl ?_
    refine LW.opV (ov_build zc36 pl36 rfl (.n)) rfl rfl ?_
    refine LW.opV (ov_aggNeR fk36 rfl rfl (.b (.s (.i (.b .n)))) rfl) rfl rfl ?_
    first | refine LW.opV (ov_pickT rfl rfl) rfl rfl ?_ | refine LW.opV (ov_pickF rfl rfl) rfl rfl ?_ | refine LW.opV (ov_pick rfl rfl rfl) rfl rfl ?_
    refine LW.opV (ov_move rfl) rfl rfl ?_
    refine LW.opV (ov_move rfl) rfl rfl ?_
    refine LW.opV (ov_neq rfl rfl) rfl rfl ?_
    first | refine LW.opV (ov_pickT rfl rfl) rfl rfl ?_ | refine LW.opV (ov_pickF rfl rfl) rfl rfl ?_ | refine LW.opV (ov_pick rfl rfl rfl) rfl rfl ?_
    refine LW.opV (ov_move rfl) rfl rfl ?_
    refine LW.opV (ov_loadAR 8 ta36 rfl rfl (.h (.h (.h (.h (.n)))))) rfl rfl ?_
    refine LW.opV (ov_build zc36 pl36 rfl (.n)) rfl rfl ?_
    refine LW.opV (ov_aggNeR fk36 rfl rfl (.b (.s (.i (.b .n)))) rfl) rfl rfl ?_
    first | refine LW.opV (ov_pickT rfl rfl) rfl rfl ?_ | refine LW.opV (ov_pickF rfl rfl) rfl rfl ?_ | refine LW.opV (ov_pick rfl rfl rfl) rfl rfl ?_
    refine LW.opV (ov_move rfl) rfl rfl ?_
    refine LW.opV (ov_move rfl) rfl rfl ?_
    refine LW.opV (ov_neq rfl rfl) rfl rfl ?_
    first | refine LW.opV (ov_pickT rfl rfl) rfl rfl ?_ | refine LW.opV (ov_pickF rfl rfl) rfl rfl ?_ | refine LW.opV (ov_pick rfl rfl rfl) rfl rfl ?_
    refine LW.nil ?_
    refine KW.thenN ?_
    refine CW.condF rfl rfl ?_
    refine CW.skip ?_
    refine KW.blockN ?_
    refine KW.thenN ?_
    refine CW.region ?_
    refine LW.opV (ov_move rfl) rfl rfl ?_
    first | refine LW.opV (ov_add rfl rfl (by omega)) rfl rfl ?_ | refine LW.opV (ov_addW rfl rfl) rfl rfl ?_
    refine LW.opV (ov_assign rfl) rfl rfl ?_
    refine LW.nil ?_
    exact KW.again (n - 1) [0, 1, 2, 3, 4] (by omega) ⟨k + 1, R', by omega, hst2, hR'l, rfl, rfl⟩ ⟨rfl, rfl, rfl, rfl, rfl, rfl, trivial⟩ rfl rfl
  · refine CW.exit ?_
    refine KW.thenX ?_
    refine KW.thenX ?_
    refine KW.hit ?_
    refine KW.thenN ?_
    refine CW.seq ?_
    refine CW.region ?_
    refine LW.opV (ov_move rfl) rfl rfl ?_
    refine LW.call [] (oc_fn cf9 rfl) rfl rfl rfl rfl (Open_nil) ?_
    rintro _ _ ⟨rfl, rfl⟩
    simp only [putBack, List.set_cons_succ, List.set_cons_zero, List.cons_append, List.nil_append, List.append_nil]
    refine LW.opV (ov_eql rfl rfl) rfl rfl ?_
    refine LW.opV (ov_move rfl) rfl rfl ?_
    refine LW.opV (ov_move rfl) rfl rfl ?_
    refine LW.call [3] (oc_fn cf9 rfl) rfl rfl rfl rfl (Open_zero b25) ?_
    rintro _ _ ⟨rfl, rfl⟩
    simp only [putBack, List.set_cons_succ, List.set_cons_zero, List.cons_append, List.nil_append, List.append_nil]
    refine LW.opV (ov_eql rfl rfl) rfl rfl ?_
    first | refine LW.opV (ov_pickT rfl rfl) rfl rfl ?_ | refine LW.opV (ov_pickF rfl rfl) rfl rfl ?_ | refine LW.opV (ov_pick rfl rfl rfl) rfl rfl ?_
    refine LW.opV (ov_assign rfl) rfl rfl ?_
    refine LW.nil ?_
    refine KW.thenN ?_
    refine CW.ret ?_
    exact KW.retF (.cons (.tmp rfl) .nil) [1] rfl rfl ⟨rfl, rfl⟩
end Sx
end Go.Proofs.Ytkofbanncacamaa
