/- The law's first calls: shown. -/
import Derived.Test.YtkofbanncacamaaPkJ
namespace Go.Proofs.Ytkofbanncacamaa
namespace Sx
set_option maxRecDepth 20000

abbrev st1 : List (Int × Kn) := [(5, ⟨0, some [97, 98]⟩)]
abbrev st2 : List (Int × Kn) := [(5, ⟨1, some [97, 98, 99, 100]⟩)]
theorem ok0 : StOk [] := fun e he => by cases he
theorem ok1 : StOk st1 := by have := StOk_feedJ (p := ⟨false, 5, 1, 16383, [97, 98]⟩) ok0; rw [fd1] at this; exact this
theorem ok2 : StOk st2 := by have := StOk_feedJ (p := ⟨false, 5, 0, 0, [99, 100]⟩) ok1; rw [fd2] at this; exact this
theorem feed1 (jb : Nat) : Fn Try.prog 7 #[.pointer (some ⟨jb, 0, none⟩), pkv ⟨false, 5, 1, 16383, [97, 98]⟩] [JA jb []] (Ret fun v Q => v = .tuple #[pcv ⟨false, [], 0, false⟩, .int .i64 0] ∧ Q = [JA jb st1]) := by
  have := Feed_ok (jb := jb) (p := ⟨false, 5, 1, 16383, [97, 98]⟩) ok0; rw [fd1] at this; exact this
theorem feed2 (jb : Nat) : Fn Try.prog 7 #[.pointer (some ⟨jb, 0, none⟩), pkv ⟨false, 5, 0, 0, [99, 100]⟩] [JA jb st1] (Ret fun v Q => v = .tuple #[pcv ⟨false, [], 0, false⟩, .int .i64 0] ∧ Q = [JA jb st2]) := by
  have := Feed_ok (jb := jb) (p := ⟨false, 5, 0, 0, [99, 100]⟩) ok1; rw [fd2] at this; exact this
theorem feed3 (jb : Nat) : Fn Try.prog 7 #[.pointer (some ⟨jb, 0, none⟩), pkv ⟨false, 5, 2, 1, [101]⟩] [JA jb st2] (Ret fun v Q => v = .tuple #[pcv ⟨true, [97, 98, 99, 100, 101], 0, false⟩, .int .i64 0] ∧ Q = [JA jb [(5, ⟨2, none⟩)]]) := by
  have := Feed_ok (jb := jb) (p := ⟨false, 5, 2, 1, [101]⟩) ok2; rw [fd3] at this; exact this
theorem open3 (jb : Nat) : Fn Try.prog 9 #[.pointer (some ⟨jb, 0, none⟩)] [JA jb [(5, ⟨2, none⟩)]] (Ret fun v Q => v = .int .i64 0 ∧ Q = [JA jb [(5, ⟨2, none⟩)]]) := Open_ok (by decide)
theorem shown_ok : Fn Try.prog 5 #[] [] (Ret fun v Q => v = .bool true ∧ Q = []) := by
  refine Fn.of (args := _) Try.func5 rfl Try.ntmps5 rfl ?_
  intro w0 g0
  refine CW.seq ?_
  refine CW.region ?_
  refine LW.opV (ov_assign rfl) rfl rfl ?_
  refine LW.nil ?_
  refine KW.thenN ?_
  refine CW.seq ?_
  refine CW.region ?_
  refine LW.opV (ov_build zc34 pl34 rfl (.c rfl (.one rfl) rfl (.t (.h (.n))) (.c rfl (.one rfl) rfl (.t (.t (.h (.n)))) (.c rfl (.one rfl) rfl (.t (.t (.t (.h (.n))))) (.c rfl (.one rfl) rfl (.t (.t (.t (.t (.h (.n)))))) (.n)))))) rfl rfl ?_
  refine LW.call [] (oc_fn cf15 rfl) rfl rfl rfl rfl (put1) ?_
  rintro _ _ ⟨rfl, rfl⟩
  simp only [putBack, List.set_cons_succ, List.set_cons_zero, List.cons_append, List.nil_append, List.append_nil]
  refine LW.opV (ov_move rfl) rfl rfl ?_
  refine LW.opV (ov_extract rfl rfl) rfl rfl ?_
  refine LW.opV (ov_extract rfl rfl) rfl rfl ?_
  refine LW.opV (ov_assign rfl) rfl rfl ?_
  refine LW.opV (ov_assign rfl) rfl rfl ?_
  refine LW.nil ?_
  refine KW.thenN ?_
  refine CW.seq ?_
  refine CW.region ?_
  refine LW.call [] (oc_fn cf16 rfl) rfl rfl rfl rfl (take1) ?_
  rintro _ _ ⟨rfl, rfl⟩
  simp only [putBack, List.set_cons_succ, List.set_cons_zero, List.cons_append, List.nil_append, List.append_nil]
  refine LW.opV (ov_move rfl) rfl rfl ?_
  refine LW.opV (ov_extract rfl rfl) rfl rfl ?_
  refine LW.opV (ov_extract rfl rfl) rfl rfl ?_
  refine LW.opV (ov_extract rfl rfl) rfl rfl ?_
  refine LW.opBA (ob_alloc zc34 (fun _ => .c (.n))) rfl rfl (fun b3 => ?_)
  refine LW.opU (ou_storeW ta34 rfl rfl .agg rfl rfl (.h (.h (.h (.h (.h (.n)))))) (.t (.h))) rfl ?_
  refine LW.opV (ov_assign rfl) rfl rfl ?_
  refine LW.opV (ov_assign rfl) rfl rfl ?_
  refine LW.nil ?_
  refine KW.thenN ?_
  refine CW.seq ?_
  refine CW.region ?_
  refine LW.call [] (oc_fn cf16 rfl) rfl rfl rfl rfl (take2) ?_
  rintro _ _ ⟨rfl, rfl⟩
  simp only [putBack, List.set_cons_succ, List.set_cons_zero, List.cons_append, List.nil_append, List.append_nil]
  refine LW.opV (ov_move rfl) rfl rfl ?_
  refine LW.opV (ov_extract rfl rfl) rfl rfl ?_
  refine LW.opV (ov_extract rfl rfl) rfl rfl ?_
  refine LW.opV (ov_extract rfl rfl) rfl rfl ?_
  refine LW.opBA (ob_alloc zc34 (fun _ => .c (.c (.n)))) rfl rfl (fun b6 => ?_)
  refine LW.opU (ou_storeW ta34 rfl rfl .agg rfl rfl (.h (.h (.h (.h (.h (.n)))))) (.t (.t (.h)))) rfl ?_
  refine LW.opV (ov_assign rfl) rfl rfl ?_
  refine LW.opV (ov_assign rfl) rfl rfl ?_
  refine LW.nil ?_
  refine KW.thenN ?_
  refine CW.seq ?_
  refine CW.region ?_
  refine LW.call [] (oc_fn cf16 rfl) rfl rfl rfl rfl (take3) ?_
  rintro _ _ ⟨rfl, rfl⟩
  simp only [putBack, List.set_cons_succ, List.set_cons_zero, List.cons_append, List.nil_append, List.append_nil]
  refine LW.opV (ov_move rfl) rfl rfl ?_
  refine LW.opV (ov_extract rfl rfl) rfl rfl ?_
  refine LW.opV (ov_extract rfl rfl) rfl rfl ?_
  refine LW.opV (ov_extract rfl rfl) rfl rfl ?_
  refine LW.opBA (ob_alloc zc34 (fun _ => .c (.c (.c (.n))))) rfl rfl (fun b9 => ?_)
  refine LW.opU (ou_storeW ta34 rfl rfl .agg rfl rfl (.h (.h (.h (.h (.h (.n)))))) (.t (.t (.t (.h))))) rfl ?_
  refine LW.opV (ov_assign rfl) rfl rfl ?_
  refine LW.opV (ov_assign rfl) rfl rfl ?_
  refine LW.nil ?_
  refine KW.thenN ?_
  refine CW.seq ?_
  refine CW.region ?_
  refine LW.call [] (oc_fn cf12 rfl) rfl rfl rfl rfl (split1) ?_
  rintro _ _ ⟨ad, c, rfl, rfl⟩
  simp only [putBack, List.set_cons_succ, List.set_cons_zero, List.cons_append, List.nil_append, List.append_nil]
  refine LW.opV (ov_move rfl) rfl rfl ?_
  refine LW.opV (ov_extract rfl rfl) rfl rfl ?_
  refine LW.opV (ov_extract rfl rfl) rfl rfl ?_
  refine LW.opV (ov_assign rfl) rfl rfl ?_
  refine LW.opV (ov_assign rfl) rfl rfl ?_
  refine LW.nil ?_
  refine KW.thenN ?_
  refine KW.own 4 rfl (fun _ h0 => by omega) fun b c' extra hv hnc hxl hcl => ?_
  obtain ⟨rfl, rfl⟩ : ad = some ⟨b, 0, none⟩ ∧ c = c' := by simpa using hv
  refine KW.turn (As' := [_, _, _, _, row b 34 (.bool false :: .int .i64 5 :: .int .i64 1 :: .int .i64 16383 :: S [97, 98] :: .bool false :: .int .i64 5 :: .int .i64 0 :: .int .i64 0 :: S [99, 100] :: .bool false :: .int .i64 5 :: .int .i64 2 :: .int .i64 1 :: S [101] :: extra)]) (fun w hs => hs) ?_
  refine CW.seq ?_
  refine CW.seq ?_
  refine CW.region ?_
  refine LW.opV (ov_move rfl) rfl rfl ?_
  refine LW.opV (ov_strNeq rfl rfl) rfl rfl ?_
  refine LW.opV (ov_move rfl) rfl rfl ?_
  refine LW.opV (ov_move rfl) rfl rfl ?_
  refine LW.opV (ov_neq rfl rfl) rfl rfl ?_
  first | refine LW.opV (ov_pickT rfl rfl) rfl rfl ?_ | refine LW.opV (ov_pickF rfl rfl) rfl rfl ?_ | refine LW.opV (ov_pick rfl rfl rfl) rfl rfl ?_
  refine LW.opV (ov_move rfl) rfl rfl ?_
  refine LW.opV (ov_fieldAddr fo34_1 rfl) rfl rfl ?_
  refine LW.opV (ov_loadR 1 ta3 rfl rfl rfl) rfl rfl ?_
  refine LW.opV (ov_neq rfl rfl) rfl rfl ?_
  first | refine LW.opV (ov_pickT rfl rfl) rfl rfl ?_ | refine LW.opV (ov_pickF rfl rfl) rfl rfl ?_ | refine LW.opV (ov_pick rfl rfl rfl) rfl rfl ?_
  refine LW.opV (ov_move rfl) rfl rfl ?_
  refine LW.opV (ov_fieldAddr fo34_4 rfl) rfl rfl ?_
  refine LW.opV (ov_loadR 1 ta9 rfl rfl rfl) rfl rfl ?_
  refine LW.opV (ov_strNeq rfl rfl) rfl rfl ?_
  first | refine LW.opV (ov_pickT rfl rfl) rfl rfl ?_ | refine LW.opV (ov_pickF rfl rfl) rfl rfl ?_ | refine LW.opV (ov_pick rfl rfl rfl) rfl rfl ?_
  refine LW.opV (ov_move rfl) rfl rfl ?_
  refine LW.opV (ov_move rfl) rfl rfl ?_
  refine LW.opV (ov_neq rfl rfl) rfl rfl ?_
  first | refine LW.opV (ov_pickT rfl rfl) rfl rfl ?_ | refine LW.opV (ov_pickF rfl rfl) rfl rfl ?_ | refine LW.opV (ov_pick rfl rfl rfl) rfl rfl ?_
  refine LW.opV (ov_move rfl) rfl rfl ?_
  refine LW.opV (ov_move rfl) rfl rfl ?_
  refine LW.opV (ov_neq rfl rfl) rfl rfl ?_
  first | refine LW.opV (ov_pickT rfl rfl) rfl rfl ?_ | refine LW.opV (ov_pickF rfl rfl) rfl rfl ?_ | refine LW.opV (ov_pick rfl rfl rfl) rfl rfl ?_
  refine LW.opV (ov_move rfl) rfl rfl ?_
  refine LW.opV (ov_move rfl) rfl rfl ?_
  refine LW.opV (ov_neq rfl rfl) rfl rfl ?_
  first | refine LW.opV (ov_pickT rfl rfl) rfl rfl ?_ | refine LW.opV (ov_pickF rfl rfl) rfl rfl ?_ | refine LW.opV (ov_pick rfl rfl rfl) rfl rfl ?_
  refine LW.opV (ov_move rfl) rfl rfl ?_
  refine LW.opV (ov_move rfl) rfl rfl ?_
  refine LW.opV (ov_neq rfl rfl) rfl rfl ?_
  first | refine LW.opV (ov_pickT rfl rfl) rfl rfl ?_ | refine LW.opV (ov_pickF rfl rfl) rfl rfl ?_ | refine LW.opV (ov_pick rfl rfl rfl) rfl rfl ?_
  refine LW.opV (ov_move rfl) rfl rfl ?_
  refine LW.opV (ov_move rfl) rfl rfl ?_
  refine LW.opV (ov_neq rfl rfl) rfl rfl ?_
  first | refine LW.opV (ov_pickT rfl rfl) rfl rfl ?_ | refine LW.opV (ov_pickF rfl rfl) rfl rfl ?_ | refine LW.opV (ov_pick rfl rfl rfl) rfl rfl ?_
  refine LW.opV (ov_move rfl) rfl rfl ?_
  refine LW.opV (ov_move rfl) rfl rfl ?_
  refine LW.opV (ov_lenL so22 rfl) rfl rfl ?_
  refine LW.opV (ov_neq rfl rfl) rfl rfl ?_
  first | refine LW.opV (ov_pickT rfl rfl) rfl rfl ?_ | refine LW.opV (ov_pickF rfl rfl) rfl rfl ?_ | refine LW.opV (ov_pick rfl rfl rfl) rfl rfl ?_
  refine LW.opV (ov_move rfl) rfl rfl ?_
  refine LW.opV (ov_move rfl) rfl rfl ?_
  refine LW.opV (ov_idxL (i := 1) so22 rfl rfl rfl (by omega)) rfl rfl ?_
  refine LW.opV (ov_fieldAddr fo34_3 rfl) rfl rfl ?_
  refine LW.opV (ov_loadR 4 ta3 rfl rfl rfl) rfl rfl ?_
  refine LW.opV (ov_neq rfl rfl) rfl rfl ?_
  first | refine LW.opV (ov_pickT rfl rfl) rfl rfl ?_ | refine LW.opV (ov_pickF rfl rfl) rfl rfl ?_ | refine LW.opV (ov_pick rfl rfl rfl) rfl rfl ?_
  refine LW.nil ?_
  refine KW.thenN ?_
  refine CW.condF rfl rfl ?_
  refine CW.skip ?_
  refine KW.thenN ?_
  refine CW.seq ?_
  refine CW.region ?_
  refine LW.call [] (oc_fn cf6 rfl) rfl rfl rfl rfl (New_ok) ?_
  rintro _ _ ⟨jb, rfl, rfl⟩
  simp only [putBack, List.set_cons_succ, List.set_cons_zero, List.cons_append, List.nil_append, List.append_nil]
  refine LW.opV (ov_assign rfl) rfl rfl ?_
  refine LW.nil ?_
  refine KW.thenN ?_
  refine CW.seq ?_
  refine CW.seq ?_
  refine CW.region ?_
  refine LW.opV (ov_move rfl) rfl rfl ?_
  refine LW.opV (ov_ptreql un24 rfl rfl (by simp)) rfl rfl ?_
  refine LW.nil ?_
  refine KW.thenN ?_
  refine CW.condF rfl (rfl) ?_
  refine CW.skip ?_
  refine KW.thenN ?_
  refine CW.seq ?_
  refine CW.region ?_
  refine LW.opV (ov_move rfl) rfl rfl ?_
  refine LW.opV (ov_move rfl) rfl rfl ?_
  refine LW.opV (ov_idxL (i := 0) so22 rfl rfl rfl (by omega)) rfl rfl ?_
  refine LW.opV (ov_loadAR 4 ta34 rfl rfl (.h (.h (.h (.h (.h (.n))))))) rfl rfl ?_
  refine LW.call [5] (oc_fn cf7 rfl) rfl rfl rfl rfl (feed1 jb) ?_
  rintro _ _ ⟨rfl, rfl⟩
  simp only [putBack, List.set_cons_succ, List.set_cons_zero, List.cons_append, List.nil_append, List.append_nil]
  refine LW.opV (ov_move rfl) rfl rfl ?_
  refine LW.opV (ov_extract rfl rfl) rfl rfl ?_
  refine LW.opV (ov_extract rfl rfl) rfl rfl ?_
  refine LW.opBA (ob_alloc zc36 (fun _ => .c (.c (.c (.c (.c (.c (.n)))))))) rfl rfl (fun b15 => ?_)
  refine LW.opU (ou_storeW ta36 rfl rfl .agg rfl rfl (.h (.h (.h (.h (.n))))) (.t (.t (.t (.t (.t (.t (.h)))))))) rfl ?_
  refine LW.opV (ov_assign rfl) rfl rfl ?_
  refine LW.nil ?_
  refine KW.thenN ?_
  refine CW.seq ?_
  refine CW.region ?_
  refine LW.opV (ov_move rfl) rfl rfl ?_
  refine LW.opV (ov_move rfl) rfl rfl ?_
  refine LW.opV (ov_idxL (i := 1) so22 rfl rfl rfl (by omega)) rfl rfl ?_
  refine LW.opV (ov_loadAR 4 ta34 rfl rfl (.t (.t (.t (.t (.t (.h (.h (.h (.h (.h (.n)))))))))))) rfl rfl ?_
  refine LW.call [5] (oc_fn cf7 rfl) rfl rfl rfl rfl (feed2 jb) ?_
  rintro _ _ ⟨rfl, rfl⟩
  simp only [putBack, List.set_cons_succ, List.set_cons_zero, List.cons_append, List.nil_append, List.append_nil]
  refine LW.opV (ov_move rfl) rfl rfl ?_
  refine LW.opV (ov_extract rfl rfl) rfl rfl ?_
  refine LW.opV (ov_extract rfl rfl) rfl rfl ?_
  refine LW.opBA (ob_alloc zc36 (fun _ => .c (.c (.c (.c (.c (.c (.c (.n))))))))) rfl rfl (fun b17 => ?_)
  refine LW.opU (ou_storeW ta36 rfl rfl .agg rfl rfl (.h (.h (.h (.h (.n))))) (.t (.t (.t (.t (.t (.t (.t (.h))))))))) rfl ?_
  refine LW.opV (ov_assign rfl) rfl rfl ?_
  refine LW.nil ?_
  refine KW.thenN ?_
  refine CW.seq ?_
  refine CW.region ?_
  refine LW.opV (ov_move rfl) rfl rfl ?_
  refine LW.opV (ov_move rfl) rfl rfl ?_
  refine LW.opV (ov_idxL (i := 2) so22 rfl rfl rfl (by omega)) rfl rfl ?_
  refine LW.opV (ov_loadAR 4 ta34 rfl rfl (.t (.t (.t (.t (.t (.t (.t (.t (.t (.t (.h (.h (.h (.h (.h (.n))))))))))))))))) rfl rfl ?_
  refine LW.call [5] (oc_fn cf7 rfl) rfl rfl rfl rfl (feed3 jb) ?_
  rintro _ _ ⟨rfl, rfl⟩
  simp only [putBack, List.set_cons_succ, List.set_cons_zero, List.cons_append, List.nil_append, List.append_nil]
  refine LW.opV (ov_move rfl) rfl rfl ?_
  refine LW.opV (ov_extract rfl rfl) rfl rfl ?_
  refine LW.opV (ov_extract rfl rfl) rfl rfl ?_
  refine LW.opBA (ob_alloc zc36 (fun _ => .c (.c (.c (.c (.c (.c (.c (.c (.n)))))))))) rfl rfl (fun b19 => ?_)
  refine LW.opU (ou_storeW ta36 rfl rfl .agg rfl rfl (.h (.h (.h (.h (.n))))) (.t (.t (.t (.t (.t (.t (.t (.t (.h)))))))))) rfl ?_
  refine LW.opV (ov_assign rfl) rfl rfl ?_
  refine LW.nil ?_
  refine KW.thenN ?_
  refine CW.seq ?_
  refine CW.region ?_
  refine LW.opV (ov_fieldAddr fo36_0 rfl) rfl rfl ?_
  refine LW.opV (ov_loadR 6 ta4 rfl rfl rfl) rfl rfl ?_
  refine LW.opV (ov_not rfl) rfl rfl ?_
  refine LW.opV (ov_move rfl) rfl rfl ?_
  refine LW.opV (ov_fieldAddr fo36_0 rfl) rfl rfl ?_
  refine LW.opV (ov_loadR 7 ta4 rfl rfl rfl) rfl rfl ?_
  refine LW.opV (ov_not rfl) rfl rfl ?_
  first | refine LW.opV (ov_pickT rfl rfl) rfl rfl ?_ | refine LW.opV (ov_pickF rfl rfl) rfl rfl ?_ | refine LW.opV (ov_pick rfl rfl rfl) rfl rfl ?_
  refine LW.opV (ov_move rfl) rfl rfl ?_
  refine LW.opV (ov_fieldAddr fo36_0 rfl) rfl rfl ?_
  refine LW.opV (ov_loadR 8 ta4 rfl rfl rfl) rfl rfl ?_
  first | refine LW.opV (ov_pickT rfl rfl) rfl rfl ?_ | refine LW.opV (ov_pickF rfl rfl) rfl rfl ?_ | refine LW.opV (ov_pick rfl rfl rfl) rfl rfl ?_
  refine LW.opV (ov_move rfl) rfl rfl ?_
  refine LW.opV (ov_fieldAddr fo36_1 rfl) rfl rfl ?_
  refine LW.opV (ov_loadR 8 ta9 rfl rfl rfl) rfl rfl ?_
  refine LW.opV (ov_strEql rfl rfl) rfl rfl ?_
  first | refine LW.opV (ov_pickT rfl rfl) rfl rfl ?_ | refine LW.opV (ov_pickF rfl rfl) rfl rfl ?_ | refine LW.opV (ov_pick rfl rfl rfl) rfl rfl ?_
  refine LW.opV (ov_move rfl) rfl rfl ?_
  refine LW.opV (ov_move rfl) rfl rfl ?_
  refine LW.call [5] (oc_fn cf9 rfl) rfl rfl rfl rfl (open3 jb) ?_
  rintro _ _ ⟨rfl, rfl⟩
  simp only [putBack, List.set_cons_succ, List.set_cons_zero, List.cons_append, List.nil_append, List.append_nil]
  refine LW.opV (ov_eql rfl rfl) rfl rfl ?_
  first | refine LW.opV (ov_pickT rfl rfl) rfl rfl ?_ | refine LW.opV (ov_pickF rfl rfl) rfl rfl ?_ | refine LW.opV (ov_pick rfl rfl rfl) rfl rfl ?_
  refine LW.opV (ov_assign rfl) rfl rfl ?_
  refine LW.nil ?_
  refine KW.thenN ?_
  refine CW.ret ?_
  exact KW.retF (.cons (.tmp rfl) .nil) [] rfl rfl ⟨rfl, rfl⟩
end Sx
end Go.Proofs.Ytkofbanncacamaa
