/- Part 4 of the texts of DmJ. -/
import Derived.Test.YtdgphamhpjnmpaaWa3
import Derived.Below
import Derived.Deep.Slices
import Derived.KernelRfl
import Derived.Laws.Append
import Derived.Laws.Build
import Derived.Laws.BytesString
import Derived.Laws.Cells
import Derived.Laws.Concat
import Derived.Laws.Entries
import Derived.Laws.MakeOwn
import Derived.Laws.Slices
import Derived.Laws.Strings
import Derived.Laws.Strings2
import Derived.Laws.StructEq
import Derived.Lib.Strings
import Derived.Lib.UnsafeStr
import Derived.Orders
import Derived.OrdersHeld
import Derived.OrdersIn
import Derived.ProofKit
import Derived.RangeFuncCalls
import Derived.RangeFuncIn
import Derived.RangeFuncLeaves
import Derived.RangeFuncRecord
import Derived.Shelf.Bits.Mul64
import Derived.Shelf.Strings.Builder1
import Derived.Shelf.Strings.Builder2
import Derived.Shelf.Strings.BuilderF
import Derived.Shelf.Strings.Prefix
import Derived.Shelf.Strings.Repeat
import Derived.Tactics
import Derived.TacticsIn
import Derived.Test.YtdgphamhpjnmpaaProg
import Derived.Test.YtdgphamhpjnmpaaRows
/- tmframe: Filler.Add, Filler.Next. -/
namespace Go.Proofs.Ytdgphamhpjnmpaa
namespace Sx

structure Fl where
  bytes : List UInt8
  starts : List Int
  size : Nat
  idle : Nat
structure Fl.ok (F : Fl) : Prop where
  size : 32 ≤ F.size ∧ F.size ≤ 200
  idle : F.idle ≤ F.bytes.length ∧ F.idle ≤ 7
  len : F.bytes.length ≤ F.idle + 65536
  nst : F.starts.length ≤ F.bytes.length
  st : ∀ a ∈ F.starts, 0 ≤ a ∧ a < F.bytes.length
abbrev fl3 (p : Nat) (ad : Option Addr) (c : Nat) (ad' : Option Addr) (c' : Nat) (F : Fl) : List HP := [frow p ad F.bytes.length c ad' F.starts.length c' F.size F.idle, fby ad F.bytes.length c F.bytes, fst ad' F.starts.length c' F.starts]
def flAdd (F : Fl) (l : List UInt8) : Fl × Int :=
  if (getK l).2 ≠ 0 ∨ (getK l).1.apid = 2047 then (F, 6) else if F.bytes.length - F.idle + l.length > 65536 then (F, 5) else
  ({ F with bytes := F.bytes ++ l, starts := F.starts ++ [(F.bytes.length : Int)] }, 0)
theorem getK_len {l : List UInt8} (h : (getK l).2 = 0) : 7 ≤ l.length ∧ l.length ≤ 1030 := by
  unfold getK at h
  split at h
  · cases h
  · rename_i q
    have q2 : (takeK l).2.2 = 0 ∧ (takeK l).2.1 = l.length := by
      constructor
      · exact Decidable.of_not_not fun x => q (.inl x)
      · exact Decidable.of_not_not fun x => q (.inr x)
    unfold takeK at q2
    split at q2
    · cases q2.1
    · rename_i hb
      split at q2
      · cases q2.1
      · rename_i h6
        simp only at q2
        split at q2
        · cases q2.1
        · simp only at q2
          refine ⟨by omega, ?_⟩
          have hb' : begB l = true := by simpa using hb
          unfold begB at hb'
          have h4 : ∃ c, l[4]? = some c := ⟨_, List.getElem?_eq_getElem (by omega)⟩
          obtain ⟨c4, h4⟩ := h4
          rw [h4] at hb'
          simp only [Bool.and_eq_true, decide_eq_true_eq] at hb'
          have h5 : ∃ c, l[5]? = some c := ⟨_, List.getElem?_eq_getElem (by omega)⟩
          obtain ⟨c5, h5⟩ := h5
          have hw : word l 4 = c4.toNat * 256 + c5.toNat := by unfold word; rw [h4, h5]
          have := c5.toNat_lt
          omega
theorem fadd_ok {p : Nat} {ad ad' : Option Addr} {c c' : Nat} {F : Fl} {l : List UInt8} (hF : F.ok) (hl : l.length ≤ 1000000000) : Fn Try.prog 39 #[P1 p 0, S l] (fl3 p ad c ad' c' F)
    (Ret fun v Q => ∃ ad1 c1 ad2 c2, v = .int .i64 (flAdd F l).2 ∧ Q = fl3 p ad1 c1 ad2 c2 (flAdd F l).1) := by
  obtain ⟨⟨hs1, hs2⟩, ⟨hi1, hi2⟩, hln, hns, _⟩ := hF
  have hs0 : (F.size : Int) ≠ 0 := by omega
  have hgl := @getK_len l
  have hfa : flAdd F l = if (getK l).2 ≠ 0 ∨ (getK l).1.apid = 2047 then (F, 6) else if F.bytes.length - F.idle + l.length > 65536 then (F, 5) else
    ({ F with bytes := F.bytes ++ l, starts := F.starts ++ [(F.bytes.length : Int)] }, 0) := rfl
  have hget := Get_ok hl
  generalize getK l = r at hgl hfa hget
  obtain ⟨pk, e⟩ := r
  simp only at hgl hfa hget
  refine Fn.of (args := _) Try.func39 rfl Try.ntmps39 rfl ?_
  intro w0 g0
  refine CW.seq ?_
  refine CW.region ?_
  refine LW.v (ov_assign rfl) ?_
  refine LW.nil ?_
  refine KW.thenN ?_
  refine CW.seq ?_
  refine CW.seq ?_
  refine CW.region ?_
  refine LW.v (ov_move rfl) ?_
  refine LW.call [1] (oc_fn cf65 rfl) rfl rfl rfl rfl (fnone_ok hs0) ?_
  rintro _ _ ⟨rfl, rfl⟩
  simp only [putBack, List.set_cons_succ, List.set_cons_zero, List.append_nil]
  refine LW.nil ?_
  refine KW.thenN ?_
  refine CW.condF rfl rfl ?_
  refine CW.skip ?_
  refine KW.thenN ?_
  refine CW.seq ?_
  refine CW.seq ?_
  refine CW.region ?_
  refine LW.v (ov_move rfl) ?_
  refine LW.call [] (oc_fn cf66 rfl) rfl rfl rfl rfl (hget) ?_
  rintro _ _ ⟨rfl, rfl⟩
  simp only [putBack, List.append_nil]
  refine LW.v (ov_move rfl) ?_
  refine LW.v (ov_extract rfl rfl) ?_
  refine LW.v (ov_extract rfl rfl) ?_
  refine LW.opBA (ob_alloc zc110 (fun _ => .c (.c (.c (.c (.n)))))) rfl rfl (fun b5 => ?_)
  refine LW.opU (ou_storeW ta110 rfl rfl .agg rfl rfl (.h (.h (.h (.h (.h (.n)))))) (.t (.t (.t (.t (.h)))))) rfl ?_
  refine LW.v (ov_assign rfl) ?_
  refine LW.nil ?_
  refine KW.thenN ?_
  refine CW.seq ?_
  refine CW.region ?_
  refine LW.v (ov_move rfl) ?_
  refine LW.v (ov_neq rfl rfl) ?_
  refine LW.v (ov_move rfl) ?_
  refine KW.splitD 16 rfl (fun h => ?_) (fun h => ?_)
  · refine LW.skip rfl rfl ?_
    refine LW.skip rfl rfl ?_
    refine LW.skip rfl rfl ?_
    first | refine LW.v (ov_pickT rfl rfl) ?_ | refine LW.v (ov_pickF rfl rfl) ?_ | refine LW.v (ov_pick rfl rfl rfl) ?_
    refine LW.nil ?_
    refine KW.thenN ?_
    refine CW.condT rfl rfl ?_
    refine CW.seq ?_
    refine CW.region ?_
    refine LW.v (ov_assign rfl) ?_
    refine LW.nil ?_
    refine KW.thenN ?_
    refine CW.ret ?_
    refine KW.thenR ?_
    rw [hfa, if_pos (.inl h)]
    exact KW.retF (.cons (.tmp rfl) (.nil)) [1, 2, 3] rfl rfl (⟨_, _, _, _, rfl, rfl⟩)
  refine LW.v (ov_fieldAddr fo110_1 rfl) ?_
  refine LW.v (ov_loadR 4 ta3 rfl rfl rfl) ?_
  refine LW.v (ov_eql rfl rfl) ?_
  first | refine LW.v (ov_pickT rfl rfl) ?_ | refine LW.v (ov_pickF rfl rfl) ?_ | refine LW.v (ov_pick rfl rfl rfl) ?_
  refine LW.nil ?_
  refine KW.thenN ?_
  have he : e = 0 := Decidable.of_not_not h
  have hll := hgl he
  refine CW.condD (by rfl) (fun h2 => ?_) (fun h2 => ?_)
  · refine CW.seq ?_
    refine CW.region ?_
    refine LW.v (ov_assign rfl) ?_
    refine LW.nil ?_
    refine KW.thenN ?_
    refine CW.ret ?_
    refine KW.thenR ?_
    rw [hfa, if_pos (.inr h2)]
    exact KW.retF (.cons (.tmp rfl) (.nil)) [1, 2, 3] rfl rfl (⟨_, _, _, _, rfl, rfl⟩)
  refine CW.skip ?_
  refine KW.thenN ?_
  refine CW.seq ?_
  refine CW.seq ?_
  refine CW.region ?_
  refine LW.v (ov_move rfl) ?_
  refine LW.call [1] (oc_fn cf38 rfl) rfl rfl rfl rfl (fwait_ok hs0 (by omega) (by omega)) ?_
  rintro _ _ ⟨rfl, rfl⟩
  simp only [putBack, List.set_cons_succ, List.set_cons_zero, List.append_nil]
  refine LW.v (ov_move rfl) ?_
  refine LW.v (ov_lenS un9 rfl) ?_
  first | refine LW.v (ov_add rfl rfl (by omega)) ?_ | refine LW.v (ov_addW rfl rfl) ?_
  refine LW.v (ov_gtr rfl rfl) ?_
  refine LW.nil ?_
  refine KW.thenN ?_
  refine CW.condD (by rfl) (fun h3 => ?_) (fun h3 => ?_)
  · refine CW.seq ?_
    refine CW.region ?_
    refine LW.v (ov_assign rfl) ?_
    refine LW.nil ?_
    refine KW.thenN ?_
    refine CW.ret ?_
    refine KW.thenR ?_
    rw [hfa, if_neg (by rintro (q | q); exact h q; exact h2 q), if_pos (by omega)]
    exact KW.retF (.cons (.tmp rfl) (.nil)) [1, 2, 3] rfl rfl (⟨_, _, _, _, rfl, rfl⟩)
  refine CW.skip ?_
  refine KW.thenN ?_
  refine CW.seq ?_
  refine CW.region ?_
  refine LW.v (ov_move rfl) ?_
  refine LW.v (ov_nilP rfl) ?_
  refine LW.v (ov_fieldAddr fo142_0 rfl) ?_
  refine LW.v (ov_move rfl) ?_
  refine LW.call [1, 2, 3] (oc_fn cf67 rfl) rfl rfl rfl rfl (qadd_ok (l := l) rfl rfl (by omega) (by omega)) ?_
  rintro _ _ ⟨ad1, c1, ad2, c2, rfl⟩
  simp only [putBack, List.set_cons_succ, List.set_cons_zero, List.append_nil]
  refine LW.nil ?_
  refine KW.thenN ?_
  refine CW.seq ?_
  refine CW.region ?_
  refine LW.v (ov_assign rfl) ?_
  refine LW.nil ?_
  refine KW.thenN ?_
  refine CW.ret ?_
  rw [hfa, if_neg (by rintro (q | q); exact h q; exact h2 q), if_neg (by omega)]
  exact KW.retF (.cons (.tmp rfl) (.nil)) [1, 2, 3] rfl rfl (⟨ad1, c1, ad2, c2, rfl, rfl⟩)

/-- what a field is taken from -/
def flFill (F : Fl) : List UInt8 × List Int × Nat := if F.bytes.length < F.size then (F.bytes ++ enc (idleP (max (F.size - F.bytes.length) 7)), F.starts ++ [(F.bytes.length : Int)], max (F.size - F.bytes.length) 7 - (F.size - F.bytes.length)) else (F.bytes, F.starts, 0)
def firstIn (st : List Int) (n : Int) : Int := match st with
  | a :: _ => if a < n then a else 2047
  | [] => 2047
def flNext (F : Fl) : List UInt8 × Int × Bool × Fl :=
  if F.bytes.length = F.idle then ([], 0, false, F) else
  let r := flFill F
  (r.1.take F.size, firstIn r.2.1 F.size, true, ⟨r.1.drop F.size, dropB F.size r.2.1, F.size, r.2.2⟩)
theorem enc_len (p : Pk) : (enc p).length = 6 + p.data.length := by simp [enc, wb]; omega
theorem idle_len {n : Nat} (h : 7 ≤ n) : (enc (idleP n)).length = n := by rw [enc_len]; simp [idleP]; omega
theorem fnext_ok {p : Nat} {ad ad' : Option Addr} {c c' : Nat} {F : Fl} (hF : F.ok) : Fn Try.prog 43 #[P1 p 0] (fl3 p ad c ad' c' F)
    (Ret fun v Q => ∃ ad1 c1 ad2 c2, v = .tuple #[S (flNext F).1, .int .i64 (flNext F).2.1, .bool (flNext F).2.2.1] ∧ Q = fl3 p ad1 c1 ad2 c2 (flNext F).2.2.2) := by
  obtain ⟨⟨hs1, hs2⟩, ⟨hi1, hi2⟩, hln, hns, hst⟩ := hF
  have hs0 : (F.size : Int) ≠ 0 := by omega
  refine Fn.ofP (args := _) Try.func43 rfl Try.ntmps43 rfl ?_
  intro w0 g0
  refine CW.seq ?_
  refine CW.region ?_
  refine LW.v (ov_assign rfl) ?_
  refine LW.opBA (ob_alloc zc3 (fun _ => .c (.c (.c (.c (.n)))))) rfl rfl (fun b3 => ?_)
  refine LW.v (ov_assign rfl) ?_
  refine LW.nil ?_
  refine KW.thenN ?_
  refine CW.seq ?_
  refine CW.seq ?_
  refine CW.region ?_
  refine LW.v (ov_move rfl) ?_
  refine LW.call [1] (oc_fn cf38 rfl) rfl rfl rfl rfl (fwait_ok hs0 (by omega) (by omega)) ?_
  rintro _ _ ⟨rfl, rfl⟩
  simp only [putBack, List.set_cons_succ, List.set_cons_zero, List.append_nil]
  refine LW.v (ov_eql rfl rfl) ?_
  refine LW.nil ?_
  refine KW.thenN ?_
  refine CW.condD (by rfl) (fun h => ?_) (fun h => ?_)
  · refine CW.seq ?_
    refine CW.region ?_
    refine LW.v (ov_assign rfl) ?_
    refine LW.opU (ou_storeW ta3 rfl rfl (.one rfl) rfl rfl (.h (.n)) (.t (.t (.t (.t (.h)))))) rfl ?_
    refine LW.v (ov_assign rfl) ?_
    refine LW.nil ?_
    refine KW.thenN ?_
    refine CW.ret ?_
    refine KW.thenR ?_
    have hf : flNext F = ([], 0, false, F) := by rw [flNext, if_pos (by omega)]
    rw [hf]
    exact KW.retP0 (.cons (.tmp rfl) (.cons (ResV.cell 4 ta3 rfl rfl rfl) (.cons (.tmp rfl) (.nil)))) [1, 2, 3] rfl rfl (⟨_, _, _, _, rfl, rfl⟩)
  refine CW.skip ?_
  refine KW.thenN ?_
  refine CW.seq ?_
  refine CW.region ?_
  refine LW.v (ov_assign rfl) ?_
  refine LW.nil ?_
  refine KW.thenN ?_
  refine CW.cut (fun env As => ∃ ad1 c1 ad2 c2, env = [(0, P1 p 0), (3, P1 b3 0), (5, .int .i64 (flFill F).2.2)] ∧ As = [ex g0, frow p ad1 (flFill F).1.length c1 ad2 (flFill F).2.1.length c2 F.size F.idle, fby ad1 (flFill F).1.length c1 (flFill F).1, fst ad2 (flFill F).2.1.length c2 (flFill F).2.1, row b3 3 [.int .i64 0]]) (fun M hM => ?_) ?_
  · refine CW.seq ?_
    refine CW.draw [1] rfl mixed rfl (ls := #[false, false, false, false, false, false, false, false, false, false, false, false]) (by kernel_rfl) ?_
    refine DW.tk 0 [1] rfl (ov_move rfl) ?_
    first | refine DW.tk 1 [1] rfl (ov_nilP rfl) ?_ | refine DW.tk 1 [1] rfl (ov_nilF rfl) ?_
    refine DW.tk 2 [1] rfl (ov_fieldAddr fo142_1 rfl) ?_
    refine DW.tk 3 [1] rfl (ov_loadR 0 ta3 rfl rfl rfl) ?_
    refine DW.tk 4 [1] rfl (ov_move rfl) ?_
    first | refine DW.tk 5 [1] rfl (ov_nilP rfl) ?_ | refine DW.tk 5 [1] rfl (ov_nilF rfl) ?_
    refine DW.tk 6 [1] rfl (ov_fieldAddr fo142_0 rfl) ?_
    refine DW.tk 7 [1] rfl (ov_fieldAddr fo140_0 rfl) ?_
    refine DW.tk 8 [1] rfl (ov_loadR 0 ta107 rfl rfl rfl) ?_
    refine DW.tk 9 [1] rfl (ov_lenL so107 rfl) ?_
    first | refine DW.tk 10 [1] rfl (ov_sub rfl rfl (by omega)) ?_ | refine DW.tk 10 [1] rfl (ov_subW rfl rfl) ?_
    refine DW.tk 11 [1] rfl (ov_assign rfl) ?_
    refine DW.done (by kernel_rfl) ?_
    refine KW.thenN ?_
    refine CW.seq ?_
    refine CW.region ?_
    refine LW.v (ov_move rfl) ?_
    refine LW.v (ov_gtr rfl rfl) ?_
    refine LW.nil ?_
    refine KW.thenN ?_
    refine CW.condD (by rfl) (fun h2 => ?_) (fun h2 => ?_)
    · obtain ⟨m, hm⟩ : ∃ m, m = max (F.size - F.bytes.length) 7 := ⟨_, rfl⟩
      have em : (max ((F.size : Int) - (F.bytes.length : Int)) 7) = (m : Int) := by omega
      have hfl : flFill F = (F.bytes ++ enc (idleP m), F.starts ++ [(F.bytes.length : Int)], m - (F.size - F.bytes.length)) := by rw [flFill, if_pos (by omega), hm]
      have hel := idle_len (n := m) (by omega)
      refine CW.seq ?_
      refine CW.region ?_
      refine LW.v (ov_move rfl) ?_
      refine LW.v (OpV.eq (ov_max rfl rfl) (congrArg (Value.int .i64) em)) ?_
      refine LW.v (ov_assign rfl) ?_
      refine LW.nil ?_
      refine KW.thenN ?_
      refine CW.seq ?_
      refine CW.region ?_
      refine LW.v (ov_move rfl) ?_
      refine LW.call [] (oc_fn cf80 rfl) rfl rfl rfl rfl (Idle_ok (n := m) (by omega) (by omega)) ?_
      rintro _ _ ⟨rfl, rfl⟩
      simp only [putBack, List.append_nil]
      refine LW.v (ov_move rfl) ?_
      refine LW.v (ov_extract rfl rfl) ?_
      refine LW.v (ov_extract rfl rfl) ?_
      refine LW.v (ov_assign rfl) ?_
      refine LW.v (ov_assign rfl) ?_
      refine LW.nil ?_
      refine KW.thenN ?_
      refine CW.seq ?_
      refine CW.region ?_
      refine LW.v (ov_move rfl) ?_
      refine LW.v (ov_nilP rfl) ?_
      refine LW.v (ov_fieldAddr fo142_0 rfl) ?_
      refine LW.v (ov_move rfl) ?_
      refine LW.call [1, 2, 3] (oc_fn cf67 rfl) rfl rfl rfl rfl (qadd_ok (l := enc (idleP m)) rfl rfl (by omega) (by omega)) ?_
      rintro _ _ ⟨ad1, c1, ad2, c2, rfl⟩
      simp only [putBack, List.set_cons_succ, List.set_cons_zero, List.append_nil]
      refine LW.nil ?_
      refine KW.thenN ?_
      refine CW.region ?_
      refine LW.v (ov_move rfl) ?_
      refine LW.v (ov_move rfl) ?_
      refine LW.v (OpV.eq (ov_sub rfl rfl (by omega)) (congrArg (Value.int .i64) (show (m : Int) - ((F.size : Int) - (F.bytes.length : Int)) = ((m - (F.size - F.bytes.length) : Nat) : Int) by omega))) ?_
      refine LW.v (ov_assign rfl) ?_
      refine LW.nil ?_
      refine KW.thenN ?_
      exact KW.meet [0, 1, 2, 3, 4] hM ⟨ad1, c1, ad2, c2, rfl, rfl⟩ ⟨rfl, rfl, by rw [hfl]; rfl, trivial⟩ rfl (by rw [hfl]; rfl)
    · have hfl : flFill F = (F.bytes, F.starts, 0) := by rw [flFill, if_neg (by omega)]
      refine CW.skip ?_
      refine KW.thenN ?_
      exact KW.meet [0, 1, 2, 3, 4] hM ⟨_, _, _, _, rfl, rfl⟩ ⟨rfl, rfl, by rw [hfl]; rfl, trivial⟩ rfl (by rw [hfl]; rfl)
  rintro _ _ ⟨ad1, c1, ad2, c2, rfl, rfl⟩
  have hfn : flNext F = ((flFill F).1.take F.size, firstIn (flFill F).2.1 F.size, true, ⟨(flFill F).1.drop F.size, dropB F.size (flFill F).2.1, F.size, (flFill F).2.2⟩) := by rw [flNext, if_neg (by omega)]
  rw [hfn]
  have hl1 : F.size ≤ (flFill F).1.length ∧ (flFill F).1.length ≤ 100000 := by
    unfold flFill; split
    · simp only [List.length_append]; rw [idle_len (by omega)]; omega
    · simp only; omega
  have hl2 : (flFill F).2.1.length ≤ 100000 := by
    unfold flFill; split
    · simp only [List.length_append, List.length_cons, List.length_nil]; omega
    · simp only; omega
  have hst1 : ∀ a ∈ (flFill F).2.1, 0 ≤ a ∧ a ≤ 1000000 := by
    unfold flFill; split
    · intro a ha
      simp only [List.mem_append, List.mem_singleton] at ha
      rcases ha with ha | rfl
      · have := hst a ha; omega
      · omega
    · intro a ha; have := hst a ha; omega
  generalize flFill F = r at hl1 hl2 hst1 ⊢
  obtain ⟨bs, st, rest⟩ := r
  simp only at hl1 hl2 hst1 ⊢
  refine CW.seq ?_
  refine CW.region ?_
  refine LW.opU (ou_storeW ta3 rfl rfl (.one rfl) rfl rfl (.h (.n)) (.t (.t (.t (.t (.h)))))) rfl ?_
  refine LW.nil ?_
  refine KW.thenN ?_
  refine CW.seq ?_
  refine CW.seq ?_
  refine CW.draw [1] rfl mixed rfl (ls := #[false, false, false, false, false, false, false, false]) (by kernel_rfl) ?_
  refine DW.tk 0 [1] rfl (ov_move rfl) ?_
  first | refine DW.tk 1 [1] rfl (ov_nilP rfl) ?_ | refine DW.tk 1 [1] rfl (ov_nilF rfl) ?_
  refine DW.tk 2 [1] rfl (ov_fieldAddr fo142_0 rfl) ?_
  refine DW.tk 3 [1] rfl (ov_move rfl) ?_
  first | refine DW.tk 4 [1] rfl (ov_nilP rfl) ?_ | refine DW.tk 4 [1] rfl (ov_nilF rfl) ?_
  refine DW.tk 5 [1] rfl (ov_fieldAddr fo142_1 rfl) ?_
  refine DW.tk 6 [1] rfl (ov_loadR 0 ta3 rfl rfl rfl) ?_
  refine DW.all1 7 (by kernel_rfl) ?_
  refine DO.call [1] [] rfl (oc_fn cf81 rfl) rfl rfl rfl rfl (within_ok) (by rintro _ _ ⟨b2, b3', rfl, rfl⟩; exact ⟨rfl, rfl⟩) rfl ?_
  rintro _ _ ⟨b2, b3', rfl, rfl⟩
  simp only [putBack, List.cons_append, List.nil_append]
  refine DW.done (by kernel_rfl) ?_
  refine KW.thenN ?_
  refine CW.block ?_
  by_cases hA : ∀ a, st.head? = some a → (F.size : Int) ≤ a
  · have hfi : firstIn st F.size = 2047 := by
      unfold firstIn
      split
      · rw [if_neg]; have := hA _ rfl; omega
      · rfl
    rw [hfi]
    refine CW.rangeFuncX rfl cf100 [5, 6, 1, 3] rfl rfl (fun l fn X hX => (within0_ok rfl (by omega) hA).ret ?_)
    rintro _ _ rfl
    refine ⟨.ready, none, _, by decide, rfl, fun d => ?_⟩
    simp only [putBack, List.set_cons_succ, List.set_cons_zero, List.cons_append, List.nil_append]
    refine KW.afterN ?_
    refine KW.blockN ?_
    refine KW.thenN ?_
    refine CW.seq ?_
    refine CW.draw [] rfl mixed rfl (ls := #[false, false, false, false, false, false, false, false, false, false]) (by kernel_rfl) ?_
    refine DW.tk 0 [] rfl (ov_move rfl) ?_
    first | refine DW.tk 1 [] rfl (ov_nilP rfl) ?_ | refine DW.tk 1 [] rfl (ov_nilF rfl) ?_
    refine DW.tk 2 [] rfl (ov_fieldAddr fo142_0 rfl) ?_
    refine DW.tk 3 [] rfl (ov_move rfl) ?_
    first | refine DW.tk 4 [] rfl (ov_nilP rfl) ?_ | refine DW.tk 4 [] rfl (ov_nilF rfl) ?_
    refine DW.tk 5 [] rfl (ov_fieldAddr fo142_1 rfl) ?_
    refine DW.all1 6 (by kernel_rfl) ?_
    refine DO.opV [] rfl (ov_loadR 1 ta3 rfl rfl rfl) rfl rfl rfl rfl rfl ?_
    refine DW.all1 7 (by kernel_rfl) ?_
    refine DO.call [] [1, 2, 3] rfl (oc_fn cf82 rfl) rfl rfl rfl rfl (qcut_ok (k := F.size) rfl rfl (by omega) (by omega) (by omega) hst1) (by rintro _ _ ⟨b, o, cs, ad3, c3, ad4, c4, rfl, hcs, hown, rfl⟩; exact ⟨rfl, rfl⟩) rfl ?_
    rintro _ _ ⟨b, o, cs, ad3, c3, ad4, c4, rfl, hcs, hown, rfl⟩
    simp only [putBack, List.set_cons_succ, List.set_cons_zero, List.append_nil]
    refine DW.all1 8 (by kernel_rfl) ?_
    refine DO.opV [] rfl (ov_b2sR (l := bs.take F.size) 2 so107 un9 un5 rfl (by rw [List.length_take]; omega) rfl hcs) rfl rfl rfl rfl rfl ?_
    refine DW.tk 9 [] rfl (ov_assign rfl) ?_
    refine DW.done (by kernel_rfl) ?_
    refine KW.thenN ?_
    refine CW.seq ?_
    refine CW.region ?_
    refine LW.v (ov_move rfl) ?_
    refine LW.v (ov_move rfl) ?_
    refine LW.v (ov_nilP rfl) ?_
    refine LW.v (ov_fieldAddr fo142_2 rfl) ?_
    refine LW.opU (ou_storeW ta3 rfl rfl (.one rfl) rfl rfl (.t (.t (.t (.h (.n))))) (.t (.h))) rfl ?_
    refine LW.nil ?_
    refine KW.thenN ?_
    refine CW.seq ?_
    refine KW.turn (fun w hs => hs.imp 2 rfl hown) ?_
    simp only [List.set_cons_succ, List.set_cons_zero]
    refine CW.draw [4] rfl mixed rfl (ls := #[false, false, false, false, false]) (by kernel_rfl) ?_
    refine DW.tk 0 [4] rfl (ov_move rfl) ?_
    refine DW.tk 1 [4] rfl (ov_loadR 0 ta3 rfl rfl rfl) ?_
    refine DW.tk 2 [4] rfl (ov_assign rfl) ?_
    refine DW.all1 3 (by kernel_rfl) ?_
    refine DO.opU [4] rfl (ou_storeW ta3 rfl rfl (.one rfl) rfl rfl (.h (.n)) (.t (.t (.t (.t (.h)))))) rfl rfl rfl rfl ?_
    refine DW.tk 4 [4] rfl (ov_assign rfl) ?_
    refine DW.done (by kernel_rfl) ?_
    refine KW.thenN ?_
    refine CW.ret ?_
    have hdl : bs.length - F.size = (bs.drop F.size).length := by rw [List.length_drop]
    rw [hdl]
    exact KW.retP 7 rfl rfl (.cons (.tmp rfl) (.cons (ResV.cell 4 ta3 rfl rfl rfl) (.cons (.tmp rfl) (.nil)))) [1, 2, 3] rfl rfl (⟨ad3, c3, ad4, c4, rfl, rfl⟩)
  · obtain ⟨a, st', rfl, ha⟩ : ∃ a st', st = a :: st' ∧ a < F.size := by
      match st, hA with
      | [], h => exact absurd (fun a h => by cases h) h
      | a :: st', h => exact ⟨a, st', rfl, by refine Int.not_le.1 (fun q => h (fun b hb => by cases hb; exact q))⟩
    have hfi : firstIn (a :: st') F.size = a := by simp only [firstIn]; rw [if_pos ha]
    rw [hfi]
    refine CW.rangeFuncX rfl cf100 [4, 5, 6, 1, 3] rfl rfl (fun l fn X hX => ?_)
    refine Fn.ret (within1_ok (X1 := X .done (some (.exit 0))) (Y2 := row b3 3 [.int .i64 a]) rfl (by simp only [List.length_cons] at hl2; omega) ha ?hY) ?hn
    case hY =>
      rw [hX, hX]
      refine Yd.of (ps := [50]) rfl rfl (fun w g => ?_)
      refine CW.region ?_
      refine LW.v (ov_assign rfl) ?_
      refine LW.nil ?_
      refine KW.thenN ?_
      refine KW.begin 1 rfl rfl rfl ?_
      refine CW.block ?_
      refine CW.seq ?_
      refine CW.region ?_
      refine LW.v (ov_move rfl) ?_
      refine LW.opU (ou_storeW ta3 rfl rfl (.one rfl) rfl rfl (.h (.n)) (.t (.t (.h)))) rfl ?_
      refine LW.nil ?_
      refine KW.thenN ?_
      refine CW.exit ?_
      refine KW.miss rfl ?_
      exact KW.round (Q' := [loopA _ _ _ _ _ _ _ _ _, row b3 3 [.int .i64 a]]) (some (.exit 0)) (.inr (.inr ⟨0, rfl, rfl⟩)) 1 rfl [1, 2] rfl rfl ⟨rfl, rfl⟩
    case hn =>
    rintro _ _ rfl
    refine ⟨.done, some (.exit 0), _, by decide, rfl, fun d => ?_⟩
    simp only [putBack, List.set_cons_succ, List.set_cons_zero, List.cons_append, List.nil_append]
    refine KW.afterX ?_
    refine CW.exit ?_
    refine KW.hit ?_
    refine KW.thenN ?_
    refine CW.seq ?_
    refine CW.draw [] rfl mixed rfl (ls := #[false, false, false, false, false, false, false, false, false, false]) (by kernel_rfl) ?_
    refine DW.tk 0 [] rfl (ov_move rfl) ?_
    first | refine DW.tk 1 [] rfl (ov_nilP rfl) ?_ | refine DW.tk 1 [] rfl (ov_nilF rfl) ?_
    refine DW.tk 2 [] rfl (ov_fieldAddr fo142_0 rfl) ?_
    refine DW.tk 3 [] rfl (ov_move rfl) ?_
    first | refine DW.tk 4 [] rfl (ov_nilP rfl) ?_ | refine DW.tk 4 [] rfl (ov_nilF rfl) ?_
    refine DW.tk 5 [] rfl (ov_fieldAddr fo142_1 rfl) ?_
    refine DW.all1 6 (by kernel_rfl) ?_
    refine DO.opV [] rfl (ov_loadR 1 ta3 rfl rfl rfl) rfl rfl rfl rfl rfl ?_
    refine DW.all1 7 (by kernel_rfl) ?_
    refine DO.call [] [1, 2, 3] rfl (oc_fn cf82 rfl) rfl rfl rfl rfl (qcut_ok (k := F.size) rfl rfl (by omega) (by omega) (by omega) hst1) (by rintro _ _ ⟨b, o, cs, ad3, c3, ad4, c4, rfl, hcs, hown, rfl⟩; exact ⟨rfl, rfl⟩) rfl ?_
    rintro _ _ ⟨b, o, cs, ad3, c3, ad4, c4, rfl, hcs, hown, rfl⟩
    simp only [putBack, List.set_cons_succ, List.set_cons_zero, List.append_nil]
    refine DW.all1 8 (by kernel_rfl) ?_
    refine DO.opV [] rfl (ov_b2sR (l := bs.take F.size) 2 so107 un9 un5 rfl (by rw [List.length_take]; omega) rfl hcs) rfl rfl rfl rfl rfl ?_
    refine DW.tk 9 [] rfl (ov_assign rfl) ?_
    refine DW.done (by kernel_rfl) ?_
    refine KW.thenN ?_
    refine CW.seq ?_
    refine CW.region ?_
    refine LW.v (ov_move rfl) ?_
    refine LW.v (ov_move rfl) ?_
    refine LW.v (ov_nilP rfl) ?_
    refine LW.v (ov_fieldAddr fo142_2 rfl) ?_
    refine LW.opU (ou_storeW ta3 rfl rfl (.one rfl) rfl rfl (.t (.t (.t (.h (.n))))) (.t (.h))) rfl ?_
    refine LW.nil ?_
    refine KW.thenN ?_
    refine CW.seq ?_
    refine KW.turn (fun w hs => hs.imp 2 rfl hown) ?_
    simp only [List.set_cons_succ, List.set_cons_zero]
    refine CW.draw [4] rfl mixed rfl (ls := #[false, false, false, false, false]) (by kernel_rfl) ?_
    refine DW.tk 0 [4] rfl (ov_move rfl) ?_
    refine DW.tk 1 [4] rfl (ov_loadR 0 ta3 rfl rfl rfl) ?_
    refine DW.tk 2 [4] rfl (ov_assign rfl) ?_
    refine DW.all1 3 (by kernel_rfl) ?_
    refine DO.opU [4] rfl (ou_storeW ta3 rfl rfl (.one rfl) rfl rfl (.h (.n)) (.t (.t (.t (.t (.h)))))) rfl rfl rfl rfl ?_
    refine DW.tk 4 [4] rfl (ov_assign rfl) ?_
    refine DW.done (by kernel_rfl) ?_
    refine KW.thenN ?_
    refine CW.ret ?_
    have hdl : bs.length - F.size = (bs.drop F.size).length := by rw [List.length_drop]
    rw [hdl]
    exact KW.retP 7 rfl rfl (.cons (.tmp rfl) (.cons (ResV.cell 4 ta3 rfl rfl rfl) (.cons (.tmp rfl) (.nil)))) [1, 2, 3] rfl rfl (⟨ad3, c3, ad4, c4, rfl, rfl⟩)

end Sx
end Go.Proofs.Ytdgphamhpjnmpaa

/- The reference of packets. -/
namespace Go.Proofs.Ytdgphamhpjnmpaa
namespace Sx

theorem two9_ok {n : Int} (h : 0 ≤ n ∧ n < 9223372036854775808) : Fn Try.prog 106 #[.int .i64 n] [] (Ret fun v Q => v = S (wb n) ∧ Q = []) := by
  rw [← beB2]
  refine Fn.of (args := _) Try.func106 rfl Try.ntmps106 rfl ?_
  intro w0 g0
  refine CW.seq ?_
  refine CW.region ?_
  refine LW.v (ov_assign rfl) ?_
  refine LW.nil ?_
  refine KW.thenN ?_
  refine CW.seq ?_
  refine CW.region ?_
  refine LW.v (ov_move rfl) ?_
  first | refine LW.v (ov_quo rfl rfl (by omega) (by omega)) ?_ | refine LW.v (ov_quoW rfl rfl (by omega)) ?_
  refine LW.v (ov_toU un5 us3 rfl wrap_u8) ?_
  refine LW.v (ov_move rfl) ?_
  refine LW.v (ov_rem rfl rfl (by omega) (by omega)) ?_
  refine LW.v (OpV.eq (ov_toU un5 us3 rfl wrap_u8) (congrArg (Value.int .u8) (show n % 256 % 256 = n % 256 by omega))) ?_
  refine LW.opBA (ob_bs1 so107 zc5 (xs := [_, _]) rfl rfl rfl (by decide) rfl (fun _ => .c (.n))) rfl rfl (fun b9 => ?_)
  refine LW.v (ov_b2sR (l := beB n 2) 1 so107 un9 un5 rfl rfl rfl (by rw [beB2]; simp only [wb, List.map_cons, List.map_nil, ← bv_wrap]; intro j v hj; rw [Nat.zero_add]; exact hj)) ?_
  refine LW.v (ov_assign rfl) ?_
  refine LW.nil ?_
  refine KW.thenN ?_
  refine CW.ret ?_
  exact KW.retF (.cons (.tmp rfl) (.nil)) [] rfl rfl (⟨rfl, rfl⟩)
theorem and232 : ∀ c : Fin 256, bits2 .and .u8 (c.val : Int) 232 = 0 ↔ ¬ (32 ≤ c.val ∨ c.val / 8 % 2 = 1) := by decide +kernel
theorem begB_iff (l : List UInt8) : begB l = false ↔ (0 < l.length ∧ (32 ≤ (l.getD 0 0).toNat ∨ (l.getD 0 0).toNat / 8 % 2 = 1)) ∨ (4 < l.length ∧ 4 ≤ (l.getD 4 0).toNat) := by
  have hA : ∀ c : UInt8, decide (bits2 .and .u8 (c.toNat : Int) 232 = 0) = true ↔ ¬ (32 ≤ c.toNat ∨ c.toNat / 8 % 2 = 1) := fun c => by
    rw [decide_eq_true_iff]; exact and232 ⟨c.toNat, c.toNat_lt⟩
  rw [← Bool.not_eq_true]
  unfold begB
  rw [Bool.and_eq_true]
  by_cases h0 : 0 < l.length
  · have e0 : l[0]? = some (l.getD 0 0) := by rw [List.getD, List.getElem?_eq_getElem h0]; rfl
    rw [e0]
    simp only [hA]
    by_cases h4 : 4 < l.length
    · have e4 : l[4]? = some (l.getD 4 0) := by rw [List.getD, List.getElem?_eq_getElem h4]; rfl
      rw [e4]
      simp only [decide_eq_true_eq]
      omega
    · rw [List.getElem?_eq_none (by omega : l.length ≤ 4)]
      simp only [and_true]
      omega
  · rw [List.getElem?_eq_none (by omega : l.length ≤ 0), List.getElem?_eq_none (by omega : l.length ≤ 4)]
    simp only [and_true, not_true_eq_false, false_iff]
    omega
theorem RTake_ok {l : List UInt8} (hl : l.length ≤ 1000000000) : Fn Try.prog 63 #[S l] [] (Ret fun v Q => v = .tuple #[pkv (takeK l).1, .int .i64 (takeK l).2.1, .int .i64 (takeK l).2.2] ∧ Q = []) := by
  have hg : ∀ i, i < l.length → l[i]? = some (l.getD i 0) := fun i hi => by rw [List.getD, List.getElem?_eq_getElem hi]; rfl
  have hc0 := (l.getD 0 0).toNat_lt
  have hc4 := (l.getD 4 0).toNat_lt
  have hiff := begB_iff l
  refine Fn.of (args := _) Try.func63 rfl Try.ntmps63 rfl ?_
  intro w0 g0
  refine CW.seq ?_
  refine CW.region ?_
  refine LW.opBA (ob_alloc zc110 (fun _ => .c (.n))) rfl rfl (fun b2 => ?_)
  refine LW.v (ov_assign rfl) ?_
  refine LW.v (ov_assign rfl) ?_
  refine LW.nil ?_
  refine KW.thenN ?_
  refine CW.cut (fun env As => begB l = true ∧ env = [(0, S l), (2, P1 b2 0)] ∧ As = [ex g0, row b2 110 [.bool false, .int .i64 0, .int .i64 0, .int .i64 0, S []]]) (fun M hM => ?_) ?_
  · cases hb : begB l with
    | true =>
      have hno : ¬ _ := fun q => Bool.noConfusion (hb.symm.trans (hiff.2 q))
      refine CW.seq ?_
      refine CW.region ?_
      refine LW.v (ov_move rfl) ?_
      refine LW.v (ov_lenS un9 rfl) ?_
      refine LW.v (ov_gtr rfl rfl) ?_
      refine LW.v (ov_move rfl) ?_
      first | refine KW.splitD 11 rfl (fun h11 => ?_) (fun h11 => ?_) | refine KW.split 11 rfl (fun h11 => ?_) (fun h11 => ?_)
      · refine LW.v (ov_move rfl) ?_
        refine LW.v (ov_strIdx (i := 0) un9 rfl rfl rfl (hg 0 (by omega))) ?_
        refine LW.v (ov_geq rfl rfl) ?_
        refine LW.v (ov_move rfl) ?_
        first | refine KW.splitD 15 rfl (fun h15 => ?_) (fun h15 => ?_) | refine KW.split 15 rfl (fun h15 => ?_) (fun h15 => ?_)
        · refine LW.skip rfl rfl ?_
          refine LW.skip rfl rfl ?_
          refine LW.skip rfl rfl ?_
          refine LW.skip rfl rfl ?_
          refine LW.skip rfl rfl ?_
          first | refine LW.v (ov_pickT rfl rfl) ?_ | refine LW.v (ov_pickF rfl rfl) ?_ | refine LW.v (ov_pick rfl rfl rfl) ?_
          first | refine LW.v (ov_pickT rfl rfl) ?_ | refine LW.v (ov_pickF rfl rfl) ?_ | refine LW.v (ov_pick rfl rfl rfl) ?_
          refine LW.v (ov_move rfl) ?_
          refine LW.skip rfl rfl ?_
          refine LW.skip rfl rfl ?_
          refine LW.skip rfl rfl ?_
          refine LW.skip rfl rfl ?_
          refine LW.skip rfl rfl ?_
          refine LW.skip rfl rfl ?_
          refine LW.skip rfl rfl ?_
          refine LW.skip rfl rfl ?_
          first | refine LW.v (ov_pickT rfl rfl) ?_ | refine LW.v (ov_pickF rfl rfl) ?_ | refine LW.v (ov_pick rfl rfl rfl) ?_
          refine LW.nil ?_
          refine KW.thenN ?_
          refine CW.condT rfl rfl ?_
          refine CW.seq ?_
          refine CW.region ?_
          refine LW.v (ov_build zc110 pl110 rfl (.n)) ?_
          refine LW.opU (ou_storeW ta110 rfl rfl .agg rfl rfl (.h (.h (.h (.h (.h (.n)))))) (.t (.h))) rfl ?_
          refine LW.v (ov_assign rfl) ?_
          refine LW.v (ov_assign rfl) ?_
          refine LW.nil ?_
          refine KW.thenN ?_
          refine CW.ret ?_
          refine KW.thenR ?_
          first | (exfalso; omega) | exact KW.meet [0, 1] hM ⟨hb, rfl, rfl⟩ ⟨rfl, rfl, trivial⟩ rfl rfl
        · refine LW.v (ov_move rfl) ?_
          refine LW.v (ov_strIdx (i := 0) un9 rfl rfl rfl (hg 0 (by omega))) ?_
          refine LW.v (OpV.eq (ov_quoW rfl rfl (by omega)) (congrArg (Value.int .u8) (show IntKind.u8.wrap (((l.getD 0 0).toNat : Int).tdiv 8) = (((l.getD 0 0).toNat / 8 : Nat) : Int) by rw [wrap_u8, Int.tdiv_eq_ediv_of_nonneg (by omega)]; omega))) ?_
          refine LW.v (ov_rem rfl rfl (Int.natCast_nonneg _) (by omega)) ?_
          refine LW.v (ov_eql rfl rfl) ?_
          first | refine LW.v (ov_pickT rfl rfl) ?_ | refine LW.v (ov_pickF rfl rfl) ?_ | refine LW.v (ov_pick rfl rfl rfl) ?_
          first | refine LW.v (ov_pickT rfl rfl) ?_ | refine LW.v (ov_pickF rfl rfl) ?_ | refine LW.v (ov_pick rfl rfl rfl) ?_
          refine LW.v (ov_move rfl) ?_
          first | refine KW.splitD 23 rfl (fun h23 => ?_) (fun h23 => ?_) | refine KW.split 23 rfl (fun h23 => ?_) (fun h23 => ?_)
          · refine LW.skip rfl rfl ?_
            refine LW.skip rfl rfl ?_
            refine LW.skip rfl rfl ?_
            refine LW.skip rfl rfl ?_
            refine LW.skip rfl rfl ?_
            refine LW.skip rfl rfl ?_
            refine LW.skip rfl rfl ?_
            refine LW.skip rfl rfl ?_
            first | refine LW.v (ov_pickT rfl rfl) ?_ | refine LW.v (ov_pickF rfl rfl) ?_ | refine LW.v (ov_pick rfl rfl rfl) ?_
            refine LW.nil ?_
            refine KW.thenN ?_
            refine CW.condT rfl rfl ?_
            refine CW.seq ?_
            refine CW.region ?_
            refine LW.v (ov_build zc110 pl110 rfl (.n)) ?_
            refine LW.opU (ou_storeW ta110 rfl rfl .agg rfl rfl (.h (.h (.h (.h (.h (.n)))))) (.t (.h))) rfl ?_
            refine LW.v (ov_assign rfl) ?_
            refine LW.v (ov_assign rfl) ?_
            refine LW.nil ?_
            refine KW.thenN ?_
            refine CW.ret ?_
            refine KW.thenR ?_
            first | (exfalso; omega) | exact KW.meet [0, 1] hM ⟨hb, rfl, rfl⟩ ⟨rfl, rfl, trivial⟩ rfl rfl
          · refine LW.v (ov_move rfl) ?_
            refine LW.v (ov_lenS un9 rfl) ?_
            refine LW.v (ov_gtr rfl rfl) ?_
            refine LW.v (ov_move rfl) ?_
            first | refine KW.splitD 27 rfl (fun h27 => ?_) (fun h27 => ?_) | refine KW.split 27 rfl (fun h27 => ?_) (fun h27 => ?_)
            · refine LW.v (ov_move rfl) ?_
              refine LW.v (ov_strIdx (i := 4) un9 rfl rfl rfl (hg 4 (by omega))) ?_
              refine LW.v (ov_geq rfl rfl) ?_
              first | refine LW.v (ov_pickT rfl rfl) ?_ | refine LW.v (ov_pickF rfl rfl) ?_ | refine LW.v (ov_pick rfl rfl rfl) ?_
              first | refine LW.v (ov_pickT rfl rfl) ?_ | refine LW.v (ov_pickF rfl rfl) ?_ | refine LW.v (ov_pick rfl rfl rfl) ?_
              refine LW.nil ?_
              refine KW.thenN ?_
              first | refine KW.splitD 32 rfl (fun h32 => ?_) (fun h32 => ?_) | refine KW.split 32 rfl (fun h32 => ?_) (fun h32 => ?_)
              · refine CW.condT rfl rfl ?_
                refine CW.seq ?_
                refine CW.region ?_
                refine LW.v (ov_build zc110 pl110 rfl (.n)) ?_
                refine LW.opU (ou_storeW ta110 rfl rfl .agg rfl rfl (.h (.h (.h (.h (.h (.n)))))) (.t (.h))) rfl ?_
                refine LW.v (ov_assign rfl) ?_
                refine LW.v (ov_assign rfl) ?_
                refine LW.nil ?_
                refine KW.thenN ?_
                refine CW.ret ?_
                refine KW.thenR ?_
                first | (exfalso; omega) | exact KW.meet [0, 1] hM ⟨hb, rfl, rfl⟩ ⟨rfl, rfl, trivial⟩ rfl rfl
              · refine CW.condF rfl rfl ?_
                refine CW.skip ?_
                refine KW.thenN ?_
                first | (exfalso; omega) | exact KW.meet [0, 1] hM ⟨hb, rfl, rfl⟩ ⟨rfl, rfl, trivial⟩ rfl rfl
            · refine LW.skip rfl rfl ?_
              refine LW.skip rfl rfl ?_
              refine LW.skip rfl rfl ?_
              first | refine LW.v (ov_pickT rfl rfl) ?_ | refine LW.v (ov_pickF rfl rfl) ?_ | refine LW.v (ov_pick rfl rfl rfl) ?_
              first | refine LW.v (ov_pickT rfl rfl) ?_ | refine LW.v (ov_pickF rfl rfl) ?_ | refine LW.v (ov_pick rfl rfl rfl) ?_
              refine LW.nil ?_
              refine KW.thenN ?_
              refine CW.condF rfl rfl ?_
              refine CW.skip ?_
              refine KW.thenN ?_
              first | (exfalso; omega) | exact KW.meet [0, 1] hM ⟨hb, rfl, rfl⟩ ⟨rfl, rfl, trivial⟩ rfl rfl
      · refine LW.skip rfl rfl ?_
        refine LW.skip rfl rfl ?_
        refine LW.skip rfl rfl ?_
        refine LW.skip rfl rfl ?_
        refine LW.skip rfl rfl ?_
        refine LW.skip rfl rfl ?_
        refine LW.skip rfl rfl ?_
        refine LW.skip rfl rfl ?_
        refine LW.skip rfl rfl ?_
        refine LW.skip rfl rfl ?_
        first | refine LW.v (ov_pickT rfl rfl) ?_ | refine LW.v (ov_pickF rfl rfl) ?_ | refine LW.v (ov_pick rfl rfl rfl) ?_
        refine LW.v (ov_move rfl) ?_
        refine LW.v (ov_move rfl) ?_
        refine LW.v (ov_lenS un9 rfl) ?_
        refine LW.v (ov_gtr rfl rfl) ?_
        refine LW.v (ov_move rfl) ?_
        first | refine KW.splitD 27 rfl (fun h27 => ?_) (fun h27 => ?_) | refine KW.split 27 rfl (fun h27 => ?_) (fun h27 => ?_)
        · refine LW.v (ov_move rfl) ?_
          refine LW.v (ov_strIdx (i := 4) un9 rfl rfl rfl (hg 4 (by omega))) ?_
          refine LW.v (ov_geq rfl rfl) ?_
          first | refine LW.v (ov_pickT rfl rfl) ?_ | refine LW.v (ov_pickF rfl rfl) ?_ | refine LW.v (ov_pick rfl rfl rfl) ?_
          first | refine LW.v (ov_pickT rfl rfl) ?_ | refine LW.v (ov_pickF rfl rfl) ?_ | refine LW.v (ov_pick rfl rfl rfl) ?_
          refine LW.nil ?_
          refine KW.thenN ?_
          first | refine KW.splitD 32 rfl (fun h32 => ?_) (fun h32 => ?_) | refine KW.split 32 rfl (fun h32 => ?_) (fun h32 => ?_)
          · refine CW.condT rfl rfl ?_
            refine CW.seq ?_
            refine CW.region ?_
            refine LW.v (ov_build zc110 pl110 rfl (.n)) ?_
            refine LW.opU (ou_storeW ta110 rfl rfl .agg rfl rfl (.h (.h (.h (.h (.h (.n)))))) (.t (.h))) rfl ?_
            refine LW.v (ov_assign rfl) ?_
            refine LW.v (ov_assign rfl) ?_
            refine LW.nil ?_
            refine KW.thenN ?_
            refine CW.ret ?_
            refine KW.thenR ?_
            first | (exfalso; omega) | exact KW.meet [0, 1] hM ⟨hb, rfl, rfl⟩ ⟨rfl, rfl, trivial⟩ rfl rfl
          · refine CW.condF rfl rfl ?_
            refine CW.skip ?_
            refine KW.thenN ?_
            first | (exfalso; omega) | exact KW.meet [0, 1] hM ⟨hb, rfl, rfl⟩ ⟨rfl, rfl, trivial⟩ rfl rfl
        · refine LW.skip rfl rfl ?_
          refine LW.skip rfl rfl ?_
          refine LW.skip rfl rfl ?_
          first | refine LW.v (ov_pickT rfl rfl) ?_ | refine LW.v (ov_pickF rfl rfl) ?_ | refine LW.v (ov_pick rfl rfl rfl) ?_
          first | refine LW.v (ov_pickT rfl rfl) ?_ | refine LW.v (ov_pickF rfl rfl) ?_ | refine LW.v (ov_pick rfl rfl rfl) ?_
          refine LW.nil ?_
          refine KW.thenN ?_
          refine CW.condF rfl rfl ?_
          refine CW.skip ?_
          refine KW.thenN ?_
          first | (exfalso; omega) | exact KW.meet [0, 1] hM ⟨hb, rfl, rfl⟩ ⟨rfl, rfl, trivial⟩ rfl rfl
    | false =>
      have hyes := hiff.1 hb
      have e : takeK l = (pk0, 0, 6) := by rw [takeK, if_pos hb]
      rw [e]
      refine CW.seq ?_
      refine CW.region ?_
      refine LW.v (ov_move rfl) ?_
      refine LW.v (ov_lenS un9 rfl) ?_
      refine LW.v (ov_gtr rfl rfl) ?_
      refine LW.v (ov_move rfl) ?_
      first | refine KW.splitD 11 rfl (fun h11 => ?_) (fun h11 => ?_) | refine KW.split 11 rfl (fun h11 => ?_) (fun h11 => ?_)
      · refine LW.v (ov_move rfl) ?_
        refine LW.v (ov_strIdx (i := 0) un9 rfl rfl rfl (hg 0 (by omega))) ?_
        refine LW.v (ov_geq rfl rfl) ?_
        refine LW.v (ov_move rfl) ?_
        first | refine KW.splitD 15 rfl (fun h15 => ?_) (fun h15 => ?_) | refine KW.split 15 rfl (fun h15 => ?_) (fun h15 => ?_)
        · refine LW.skip rfl rfl ?_
          refine LW.skip rfl rfl ?_
          refine LW.skip rfl rfl ?_
          refine LW.skip rfl rfl ?_
          refine LW.skip rfl rfl ?_
          first | refine LW.v (ov_pickT rfl rfl) ?_ | refine LW.v (ov_pickF rfl rfl) ?_ | refine LW.v (ov_pick rfl rfl rfl) ?_
          first | refine LW.v (ov_pickT rfl rfl) ?_ | refine LW.v (ov_pickF rfl rfl) ?_ | refine LW.v (ov_pick rfl rfl rfl) ?_
          refine LW.v (ov_move rfl) ?_
          refine LW.skip rfl rfl ?_
          refine LW.skip rfl rfl ?_
          refine LW.skip rfl rfl ?_
          refine LW.skip rfl rfl ?_
          refine LW.skip rfl rfl ?_
          refine LW.skip rfl rfl ?_
          refine LW.skip rfl rfl ?_
          refine LW.skip rfl rfl ?_
          first | refine LW.v (ov_pickT rfl rfl) ?_ | refine LW.v (ov_pickF rfl rfl) ?_ | refine LW.v (ov_pick rfl rfl rfl) ?_
          refine LW.nil ?_
          refine KW.thenN ?_
          refine CW.condT rfl rfl ?_
          refine CW.seq ?_
          refine CW.region ?_
          refine LW.v (ov_build zc110 pl110 rfl (.n)) ?_
          refine LW.opU (ou_storeW ta110 rfl rfl .agg rfl rfl (.h (.h (.h (.h (.h (.n)))))) (.t (.h))) rfl ?_
          refine LW.v (ov_assign rfl) ?_
          refine LW.v (ov_assign rfl) ?_
          refine LW.nil ?_
          refine KW.thenN ?_
          refine CW.ret ?_
          refine KW.thenR ?_
          first | (exfalso; omega) | exact KW.retF (.cons (ResV.cellA 1 ta110 rfl rfl (.h (.h (.h (.h (.h .n)))))) (.cons (.tmp rfl) (.cons (.tmp rfl) .nil))) [] rfl rfl ⟨rfl, rfl⟩
        · refine LW.v (ov_move rfl) ?_
          refine LW.v (ov_strIdx (i := 0) un9 rfl rfl rfl (hg 0 (by omega))) ?_
          refine LW.v (OpV.eq (ov_quoW rfl rfl (by omega)) (congrArg (Value.int .u8) (show IntKind.u8.wrap (((l.getD 0 0).toNat : Int).tdiv 8) = (((l.getD 0 0).toNat / 8 : Nat) : Int) by rw [wrap_u8, Int.tdiv_eq_ediv_of_nonneg (by omega)]; omega))) ?_
          refine LW.v (ov_rem rfl rfl (Int.natCast_nonneg _) (by omega)) ?_
          refine LW.v (ov_eql rfl rfl) ?_
          first | refine LW.v (ov_pickT rfl rfl) ?_ | refine LW.v (ov_pickF rfl rfl) ?_ | refine LW.v (ov_pick rfl rfl rfl) ?_
          first | refine LW.v (ov_pickT rfl rfl) ?_ | refine LW.v (ov_pickF rfl rfl) ?_ | refine LW.v (ov_pick rfl rfl rfl) ?_
          refine LW.v (ov_move rfl) ?_
          first | refine KW.splitD 23 rfl (fun h23 => ?_) (fun h23 => ?_) | refine KW.split 23 rfl (fun h23 => ?_) (fun h23 => ?_)
          · refine LW.skip rfl rfl ?_
            refine LW.skip rfl rfl ?_
            refine LW.skip rfl rfl ?_
            refine LW.skip rfl rfl ?_
            refine LW.skip rfl rfl ?_
            refine LW.skip rfl rfl ?_
            refine LW.skip rfl rfl ?_
            refine LW.skip rfl rfl ?_
            first | refine LW.v (ov_pickT rfl rfl) ?_ | refine LW.v (ov_pickF rfl rfl) ?_ | refine LW.v (ov_pick rfl rfl rfl) ?_
            refine LW.nil ?_
            refine KW.thenN ?_
            refine CW.condT rfl rfl ?_
            refine CW.seq ?_
            refine CW.region ?_
            refine LW.v (ov_build zc110 pl110 rfl (.n)) ?_
            refine LW.opU (ou_storeW ta110 rfl rfl .agg rfl rfl (.h (.h (.h (.h (.h (.n)))))) (.t (.h))) rfl ?_
            refine LW.v (ov_assign rfl) ?_
            refine LW.v (ov_assign rfl) ?_
            refine LW.nil ?_
            refine KW.thenN ?_
            refine CW.ret ?_
            refine KW.thenR ?_
            first | (exfalso; omega) | exact KW.retF (.cons (ResV.cellA 1 ta110 rfl rfl (.h (.h (.h (.h (.h .n)))))) (.cons (.tmp rfl) (.cons (.tmp rfl) .nil))) [] rfl rfl ⟨rfl, rfl⟩
          · refine LW.v (ov_move rfl) ?_
            refine LW.v (ov_lenS un9 rfl) ?_
            refine LW.v (ov_gtr rfl rfl) ?_
            refine LW.v (ov_move rfl) ?_
            first | refine KW.splitD 27 rfl (fun h27 => ?_) (fun h27 => ?_) | refine KW.split 27 rfl (fun h27 => ?_) (fun h27 => ?_)
            · refine LW.v (ov_move rfl) ?_
              refine LW.v (ov_strIdx (i := 4) un9 rfl rfl rfl (hg 4 (by omega))) ?_
              refine LW.v (ov_geq rfl rfl) ?_
              first | refine LW.v (ov_pickT rfl rfl) ?_ | refine LW.v (ov_pickF rfl rfl) ?_ | refine LW.v (ov_pick rfl rfl rfl) ?_
              first | refine LW.v (ov_pickT rfl rfl) ?_ | refine LW.v (ov_pickF rfl rfl) ?_ | refine LW.v (ov_pick rfl rfl rfl) ?_
              refine LW.nil ?_
              refine KW.thenN ?_
              first | refine KW.splitD 32 rfl (fun h32 => ?_) (fun h32 => ?_) | refine KW.split 32 rfl (fun h32 => ?_) (fun h32 => ?_)
              · refine CW.condT rfl rfl ?_
                refine CW.seq ?_
                refine CW.region ?_
                refine LW.v (ov_build zc110 pl110 rfl (.n)) ?_
                refine LW.opU (ou_storeW ta110 rfl rfl .agg rfl rfl (.h (.h (.h (.h (.h (.n)))))) (.t (.h))) rfl ?_
                refine LW.v (ov_assign rfl) ?_
                refine LW.v (ov_assign rfl) ?_
                refine LW.nil ?_
                refine KW.thenN ?_
                refine CW.ret ?_
                refine KW.thenR ?_
                first | (exfalso; omega) | exact KW.retF (.cons (ResV.cellA 1 ta110 rfl rfl (.h (.h (.h (.h (.h .n)))))) (.cons (.tmp rfl) (.cons (.tmp rfl) .nil))) [] rfl rfl ⟨rfl, rfl⟩
              · refine CW.condF rfl rfl ?_
                refine CW.skip ?_
                refine KW.thenN ?_
                first | (exfalso; omega) | exact KW.retF (.cons (ResV.cellA 1 ta110 rfl rfl (.h (.h (.h (.h (.h .n)))))) (.cons (.tmp rfl) (.cons (.tmp rfl) .nil))) [] rfl rfl ⟨rfl, rfl⟩
            · refine LW.skip rfl rfl ?_
              refine LW.skip rfl rfl ?_
              refine LW.skip rfl rfl ?_
              first | refine LW.v (ov_pickT rfl rfl) ?_ | refine LW.v (ov_pickF rfl rfl) ?_ | refine LW.v (ov_pick rfl rfl rfl) ?_
              first | refine LW.v (ov_pickT rfl rfl) ?_ | refine LW.v (ov_pickF rfl rfl) ?_ | refine LW.v (ov_pick rfl rfl rfl) ?_
              refine LW.nil ?_
              refine KW.thenN ?_
              refine CW.condF rfl rfl ?_
              refine CW.skip ?_
              refine KW.thenN ?_
              first | (exfalso; omega) | exact KW.retF (.cons (ResV.cellA 1 ta110 rfl rfl (.h (.h (.h (.h (.h .n)))))) (.cons (.tmp rfl) (.cons (.tmp rfl) .nil))) [] rfl rfl ⟨rfl, rfl⟩
      · refine LW.skip rfl rfl ?_
        refine LW.skip rfl rfl ?_
        refine LW.skip rfl rfl ?_
        refine LW.skip rfl rfl ?_
        refine LW.skip rfl rfl ?_
        refine LW.skip rfl rfl ?_
        refine LW.skip rfl rfl ?_
        refine LW.skip rfl rfl ?_
        refine LW.skip rfl rfl ?_
        refine LW.skip rfl rfl ?_
        first | refine LW.v (ov_pickT rfl rfl) ?_ | refine LW.v (ov_pickF rfl rfl) ?_ | refine LW.v (ov_pick rfl rfl rfl) ?_
        refine LW.v (ov_move rfl) ?_
        refine LW.v (ov_move rfl) ?_
        refine LW.v (ov_lenS un9 rfl) ?_
        refine LW.v (ov_gtr rfl rfl) ?_
        refine LW.v (ov_move rfl) ?_
        first | refine KW.splitD 27 rfl (fun h27 => ?_) (fun h27 => ?_) | refine KW.split 27 rfl (fun h27 => ?_) (fun h27 => ?_)
        · refine LW.v (ov_move rfl) ?_
          refine LW.v (ov_strIdx (i := 4) un9 rfl rfl rfl (hg 4 (by omega))) ?_
          refine LW.v (ov_geq rfl rfl) ?_
          first | refine LW.v (ov_pickT rfl rfl) ?_ | refine LW.v (ov_pickF rfl rfl) ?_ | refine LW.v (ov_pick rfl rfl rfl) ?_
          first | refine LW.v (ov_pickT rfl rfl) ?_ | refine LW.v (ov_pickF rfl rfl) ?_ | refine LW.v (ov_pick rfl rfl rfl) ?_
          refine LW.nil ?_
          refine KW.thenN ?_
          first | refine KW.splitD 32 rfl (fun h32 => ?_) (fun h32 => ?_) | refine KW.split 32 rfl (fun h32 => ?_) (fun h32 => ?_)
          · refine CW.condT rfl rfl ?_
            refine CW.seq ?_
            refine CW.region ?_
            refine LW.v (ov_build zc110 pl110 rfl (.n)) ?_
            refine LW.opU (ou_storeW ta110 rfl rfl .agg rfl rfl (.h (.h (.h (.h (.h (.n)))))) (.t (.h))) rfl ?_
            refine LW.v (ov_assign rfl) ?_
            refine LW.v (ov_assign rfl) ?_
            refine LW.nil ?_
            refine KW.thenN ?_
            refine CW.ret ?_
            refine KW.thenR ?_
            first | (exfalso; omega) | exact KW.retF (.cons (ResV.cellA 1 ta110 rfl rfl (.h (.h (.h (.h (.h .n)))))) (.cons (.tmp rfl) (.cons (.tmp rfl) .nil))) [] rfl rfl ⟨rfl, rfl⟩
          · refine CW.condF rfl rfl ?_
            refine CW.skip ?_
            refine KW.thenN ?_
            first | (exfalso; omega) | exact KW.retF (.cons (ResV.cellA 1 ta110 rfl rfl (.h (.h (.h (.h (.h .n)))))) (.cons (.tmp rfl) (.cons (.tmp rfl) .nil))) [] rfl rfl ⟨rfl, rfl⟩
        · refine LW.skip rfl rfl ?_
          refine LW.skip rfl rfl ?_
          refine LW.skip rfl rfl ?_
          first | refine LW.v (ov_pickT rfl rfl) ?_ | refine LW.v (ov_pickF rfl rfl) ?_ | refine LW.v (ov_pick rfl rfl rfl) ?_
          first | refine LW.v (ov_pickT rfl rfl) ?_ | refine LW.v (ov_pickF rfl rfl) ?_ | refine LW.v (ov_pick rfl rfl rfl) ?_
          refine LW.nil ?_
          refine KW.thenN ?_
          refine CW.condF rfl rfl ?_
          refine CW.skip ?_
          refine KW.thenN ?_
          first | (exfalso; omega) | exact KW.retF (.cons (ResV.cellA 1 ta110 rfl rfl (.h (.h (.h (.h (.h .n)))))) (.cons (.tmp rfl) (.cons (.tmp rfl) .nil))) [] rfl rfl ⟨rfl, rfl⟩
  rintro _ _ ⟨hb, rfl, rfl⟩
  have hbt : ¬ begB l = false := by rw [hb]; decide
  have hno : ¬ _ := fun q => hbt (hiff.2 q)
  refine CW.seq ?_
  refine CW.seq ?_
  refine CW.region ?_
  refine LW.v (ov_move rfl) ?_
  refine LW.v (ov_lenS un9 rfl) ?_
  refine LW.v (ov_lss rfl rfl) ?_
  refine LW.nil ?_
  refine KW.thenN ?_
  refine CW.condD (by rfl) (fun h6 => ?_) (fun h6 => ?_)
  · refine CW.seq ?_
    refine CW.region ?_
    refine LW.v (ov_build zc110 pl110 rfl (.n)) ?_
    refine LW.opU (ou_storeW ta110 rfl rfl .agg rfl rfl (.h (.h (.h (.h (.h (.n)))))) (.t (.h))) rfl ?_
    refine LW.v (ov_assign rfl) ?_
    refine LW.v (ov_assign rfl) ?_
    refine LW.nil ?_
    refine KW.thenN ?_
    refine CW.ret ?_
    refine KW.thenR ?_
    have e : takeK l = (pk0, 0, 4) := by rw [takeK, if_neg hbt, if_pos (by omega)]
    rw [e]
    exact KW.retF (.cons (ResV.cellA 1 ta110 rfl rfl (.h (.h (.h (.h (.h (.n))))))) (.cons (.tmp rfl) (.cons (.tmp rfl) (.nil)))) [] rfl rfl (⟨rfl, rfl⟩)
  have hc1 := (l.getD 1 0).toNat_lt
  have hc2 := (l.getD 2 0).toNat_lt
  have hc3 := (l.getD 3 0).toNat_lt
  have hc5 := (l.getD 5 0).toNat_lt
  have hw : ∀ i, i + 1 < l.length → word l i = (l.getD i 0).toNat * 256 + (l.getD (i + 1) 0).toNat := fun i hi => by unfold word; rw [hg i (by omega), hg (i + 1) hi]
  have hw4 : word l 4 = (l.getD 4 0).toNat * 256 + (l.getD 5 0).toNat := hw 4 (by omega)
  have hw2 : word l 2 = (l.getD 2 0).toNat * 256 + (l.getD 3 0).toNat := hw 2 (by omega)
  have hw0 : word l 0 = (l.getD 0 0).toNat * 256 + (l.getD 1 0).toNat := hw 0 (by omega)
  generalize hN : 7 + (word l 4).toNat = n
  refine CW.skip ?_
  refine KW.thenN ?_
  refine CW.seq ?_
  refine CW.draw [] rfl mixed rfl (ls := #[false, false, false, false, false, false, false, false, false, false, false]) (by kernel_rfl) ?_
  refine DW.tk 0 [] rfl (ov_move rfl) ?_
  refine DW.tk 1 [] rfl (ov_strIdx (i := 4) un9 rfl rfl rfl (hg 4 (by omega))) ?_
  first | refine DW.tk 2 [] rfl (ov_toI64 un3 us5 rfl (by omega)) ?_ | refine DW.tk 2 [] rfl (ov_toInt un3 us5 rfl) ?_
  first | refine DW.tk 3 [] rfl (ov_mul rfl rfl (by omega)) ?_ | refine DW.tk 3 [] rfl (ov_mulW rfl rfl) ?_
  first | refine DW.tk 4 [] rfl (ov_add rfl rfl (by omega)) ?_ | refine DW.tk 4 [] rfl (ov_addW rfl rfl) ?_
  refine DW.tk 5 [] rfl (ov_move rfl) ?_
  refine DW.tk 6 [] rfl (ov_strIdx (i := 5) un9 rfl rfl rfl (hg 5 (by omega))) ?_
  first | refine DW.tk 7 [] rfl (ov_toI64 un3 us5 rfl (by omega)) ?_ | refine DW.tk 7 [] rfl (ov_toInt un3 us5 rfl) ?_
  first | refine DW.tk 8 [] rfl (ov_add rfl rfl (by omega)) ?_ | refine DW.tk 8 [] rfl (ov_addW rfl rfl) ?_
  refine DW.tk 9 [] rfl (OpV.eq (ov_add rfl rfl (by omega)) (congrArg (Value.int .i64) (show 6 + (((l.getD 4 0).toNat : Int) * 256) + ((l.getD 5 0).toNat : Int) + 1 = (n : Int) by omega))) ?_
  refine DW.tk 10 [] rfl (ov_assign rfl) ?_
  refine DW.done (by kernel_rfl) ?_
  refine KW.thenN ?_
  refine CW.seq ?_
  refine CW.seq ?_
  refine CW.region ?_
  refine LW.v (ov_move rfl) ?_
  refine LW.v (ov_lenS un9 rfl) ?_
  refine LW.v (ov_move rfl) ?_
  refine LW.v (ov_lss rfl rfl) ?_
  refine LW.nil ?_
  refine KW.thenN ?_
  refine CW.condD (by rfl) (fun hn => ?_) (fun hn => ?_)
  · refine CW.seq ?_
    refine CW.region ?_
    refine LW.v (ov_build zc110 pl110 rfl (.n)) ?_
    refine LW.opU (ou_storeW ta110 rfl rfl .agg rfl rfl (.h (.h (.h (.h (.h (.n)))))) (.t (.h))) rfl ?_
    refine LW.v (ov_assign rfl) ?_
    refine LW.v (ov_assign rfl) ?_
    refine LW.nil ?_
    refine KW.thenN ?_
    refine CW.ret ?_
    refine KW.thenR ?_
    have e : takeK l = (pk0, 0, 4) := by rw [takeK, if_neg hbt, if_neg (by omega)]; simp only; rw [if_pos (by omega)]
    rw [e]
    exact KW.retF (.cons (ResV.cellA 1 ta110 rfl rfl (.h (.h (.h (.h (.h (.n))))))) (.cons (.tmp rfl) (.cons (.tmp rfl) (.nil)))) [] rfl rfl (⟨rfl, rfl⟩)
  have e : takeK l = (⟨decide (word l 0 / 4096 % 2 ≠ 0), word l 0 % 2048, word l 2 / 16384, word l 2 % 16384, (l.drop 6).take (n - 6)⟩, n, 0) := by
    rw [takeK, if_neg hbt, if_neg (by omega)]; simp only; rw [hN, if_neg (by omega)]
  rw [e]
  refine CW.skip ?_
  refine KW.thenN ?_
  refine CW.seq ?_
  refine CW.draw [] rfl mixed rfl (ls := #[false, false, false, false, false, false, false, false, false]) (by kernel_rfl) ?_
  refine DW.tk 0 [] rfl (ov_move rfl) ?_
  refine DW.tk 1 [] rfl (ov_strIdx (i := 2) un9 rfl rfl rfl (hg 2 (by omega))) ?_
  first | refine DW.tk 2 [] rfl (ov_toI64 un3 us5 rfl (by omega)) ?_ | refine DW.tk 2 [] rfl (ov_toInt un3 us5 rfl) ?_
  first | refine DW.tk 3 [] rfl (ov_mul rfl rfl (by omega)) ?_ | refine DW.tk 3 [] rfl (ov_mulW rfl rfl) ?_
  refine DW.tk 4 [] rfl (ov_move rfl) ?_
  refine DW.tk 5 [] rfl (ov_strIdx (i := 3) un9 rfl rfl rfl (hg 3 (by omega))) ?_
  first | refine DW.tk 6 [] rfl (ov_toI64 un3 us5 rfl (by omega)) ?_ | refine DW.tk 6 [] rfl (ov_toInt un3 us5 rfl) ?_
  refine DW.tk 7 [] rfl (OpV.eq (ov_add rfl rfl (by omega)) (congrArg (Value.int .i64) (show ((l.getD 2 0).toNat : Int) * 256 + ((l.getD 3 0).toNat : Int) = word l 2 by omega))) ?_
  refine DW.tk 8 [] rfl (ov_assign rfl) ?_
  refine DW.done (by kernel_rfl) ?_
  refine KW.thenN ?_
  refine CW.seq ?_
  refine CW.draw [] rfl mixed rfl (ls := #[false, false, false, false, false, false, false, false, false, false, false, false, false, false, false, false, false, false, false, false, false, false]) (by kernel_rfl) ?_
  refine DW.tk 0 [] rfl (ov_move rfl) ?_
  refine DW.tk 1 [] rfl (ov_strIdx (i := 0) un9 rfl rfl rfl (hg 0 (by omega))) ?_
  refine DW.tk 2 [] rfl (OpV.eq (ov_geq rfl rfl) (congrArg Value.bool (show decide ((16 : Int) ≤ ((l.getD 0 0).toNat : Int)) = decide (word l 0 / 4096 % 2 ≠ 0) from decide_eq_decide.2 (by omega)))) ?_
  refine DW.tk 3 [] rfl (ov_move rfl) ?_
  refine DW.tk 4 [] rfl (ov_strIdx (i := 0) un9 rfl rfl rfl (hg 0 (by omega))) ?_
  first | refine DW.tk 5 [] rfl (ov_toI64 un3 us5 rfl (by omega)) ?_ | refine DW.tk 5 [] rfl (ov_toInt un3 us5 rfl) ?_
  first | refine DW.tk 6 [] rfl (ov_rem rfl rfl (by omega) (by omega)) ?_ | refine DW.tk 6 [] rfl (ov_remW rfl rfl (by omega)) ?_
  first | refine DW.tk 7 [] rfl (ov_mul rfl rfl (by omega)) ?_ | refine DW.tk 7 [] rfl (ov_mulW rfl rfl) ?_
  refine DW.tk 8 [] rfl (ov_move rfl) ?_
  refine DW.tk 9 [] rfl (ov_strIdx (i := 1) un9 rfl rfl rfl (hg 1 (by omega))) ?_
  first | refine DW.tk 10 [] rfl (ov_toI64 un3 us5 rfl (by omega)) ?_ | refine DW.tk 10 [] rfl (ov_toInt un3 us5 rfl) ?_
  refine DW.tk 11 [] rfl (OpV.eq (ov_add rfl rfl (by omega)) (congrArg (Value.int .i64) (show ((l.getD 0 0).toNat : Int) % 8 * 256 + ((l.getD 1 0).toNat : Int) = word l 0 % 2048 by omega))) ?_
  refine DW.tk 12 [] rfl (ov_move rfl) ?_
  first | refine DW.tk 13 [] rfl (ov_quo rfl rfl (by omega) (by omega)) ?_ | refine DW.tk 13 [] rfl (ov_quoW rfl rfl (by omega)) ?_
  refine DW.tk 14 [] rfl (ov_move rfl) ?_
  first | refine DW.tk 15 [] rfl (ov_rem rfl rfl (by omega) (by omega)) ?_ | refine DW.tk 15 [] rfl (ov_remW rfl rfl (by omega)) ?_
  refine DW.tk 16 [] rfl (ov_move rfl) ?_
  refine DW.tk 17 [] rfl (ov_move rfl) ?_
  refine DW.tk 18 [] rfl (ov_strSlice (i := 6) (j := n) un9 rfl ⟨_, _, rfl, rfl⟩ ⟨_, _, rfl, rfl⟩ (by omega) (by omega)) ?_
  refine DW.tk 19 [] rfl (ov_build zc110 pl110 rfl (.c rfl (.one rfl) rfl (.h (.n)) (.c rfl (.one rfl) rfl (.t (.h (.n))) (.c rfl (.one rfl) rfl (.t (.t (.h (.n)))) (.c rfl (.one rfl) rfl (.t (.t (.t (.h (.n))))) (.c rfl (.one rfl) rfl (.t (.t (.t (.t (.h (.n)))))) (.n))))))) ?_
  refine DW.all1 20 (by kernel_rfl) ?_
  refine DO.opBA [] rfl (ob_alloc zc110 (fun _ => .c (.c (.n)))) rfl rfl (fun _ => rfl) (fun _ => rfl) rfl (fun b7 => ?_)
  refine DW.all1 21 (by kernel_rfl) ?_
  refine DO.opU [] rfl (ou_storeW ta110 rfl rfl .agg rfl rfl (.h (.h (.h (.h (.h (.n)))))) (.t (.t (.h)))) rfl rfl rfl rfl ?_
  refine DW.done (by kernel_rfl) ?_
  refine KW.thenN ?_
  refine CW.seq ?_
  refine CW.region ?_
  refine LW.v (ov_loadAR 2 ta110 rfl rfl (.h (.h (.h (.h (.h (.n))))))) ?_
  refine LW.v (ov_move rfl) ?_
  refine LW.opU (ou_storeW ta110 rfl rfl .agg rfl rfl (.h (.h (.h (.h (.h (.n)))))) (.t (.h))) rfl ?_
  refine LW.v (ov_assign rfl) ?_
  refine LW.v (ov_assign rfl) ?_
  refine LW.nil ?_
  refine KW.thenN ?_
  refine CW.ret ?_
  exact KW.retF (.cons (ResV.cellA 1 ta110 rfl rfl (.h (.h (.h (.h (.h (.n))))))) (.cons (.tmp rfl) (.cons (.tmp rfl) (.nil)))) [] rfl rfl (⟨rfl, rfl⟩)
theorem RGet9_ok {l : List UInt8} (hl : l.length ≤ 1000000000) : Fn Try.prog 84 #[S l] [] (Ret fun v Q => v = .tuple #[pkv (getK l).1, .int .i64 (getK l).2] ∧ Q = []) := by
  refine Fn.of (args := _) Try.func84 rfl Try.ntmps84 rfl ?_
  intro w0 g0
  refine CW.seq ?_
  refine CW.region ?_
  refine LW.opBA (ob_alloc zc110 (fun _ => .c (.n))) rfl rfl (fun b2 => ?_)
  refine LW.v (ov_assign rfl) ?_
  refine LW.nil ?_
  refine KW.thenN ?_
  refine CW.seq ?_
  refine CW.region ?_
  refine LW.v (ov_move rfl) ?_
  refine LW.call [] (oc_fn cf63 rfl) rfl rfl rfl rfl (RTake_ok hl) ?_
  rintro _ _ ⟨rfl, rfl⟩
  simp only [putBack, List.append_nil]
  refine LW.v (ov_move rfl) ?_
  refine LW.v (ov_extract rfl rfl) ?_
  refine LW.v (ov_extract rfl rfl) ?_
  refine LW.v (ov_extract rfl rfl) ?_
  refine LW.opBA (ob_alloc zc110 (fun _ => .c (.c (.n)))) rfl rfl (fun b4 => ?_)
  refine LW.opU (ou_storeW ta110 rfl rfl .agg rfl rfl (.h (.h (.h (.h (.h (.n)))))) (.t (.t (.h)))) rfl ?_
  refine LW.v (ov_assign rfl) ?_
  refine LW.v (ov_assign rfl) ?_
  refine LW.nil ?_
  refine KW.thenN ?_
  have hg : getK l = if (takeK l).2.2 ≠ 0 ∨ (takeK l).2.1 ≠ l.length then (pk0, 6) else ((takeK l).1, 0) := rfl
  generalize takeK l = r at hg ⊢
  obtain ⟨p, n, e⟩ := r
  simp only at hg ⊢
  refine CW.seq ?_
  refine CW.seq ?_
  refine CW.region ?_
  refine LW.v (ov_move rfl) ?_
  refine LW.v (ov_neq rfl rfl) ?_
  refine LW.v (ov_move rfl) ?_
  refine KW.splitD 15 rfl (fun h => ?_) (fun h => ?_)
  · refine LW.skip rfl rfl ?_
    refine LW.skip rfl rfl ?_
    refine LW.skip rfl rfl ?_
    refine LW.skip rfl rfl ?_
    first | refine LW.v (ov_pickT rfl rfl) ?_ | refine LW.v (ov_pickF rfl rfl) ?_ | refine LW.v (ov_pick rfl rfl rfl) ?_
    refine LW.nil ?_
    refine KW.thenN ?_
    refine CW.condT rfl rfl ?_
    refine CW.seq ?_
    refine CW.region ?_
    refine LW.v (ov_build zc110 pl110 rfl (.n)) ?_
    refine LW.opU (ou_storeW ta110 rfl rfl .agg rfl rfl (.h (.h (.h (.h (.h (.n)))))) (.t (.h))) rfl ?_
    refine LW.v (ov_assign rfl) ?_
    refine LW.nil ?_
    refine KW.thenN ?_
    refine CW.ret ?_
    refine KW.thenR ?_
    rw [hg, if_pos (.inl h)]
    exact KW.retF (.cons (ResV.cellA 1 ta110 rfl rfl (.h (.h (.h (.h (.h (.n))))))) (.cons (.tmp rfl) (.nil))) [] rfl rfl (⟨rfl, rfl⟩)
  · refine LW.v (ov_move rfl) ?_
    refine LW.v (ov_move rfl) ?_
    refine LW.v (ov_lenS un9 rfl) ?_
    refine LW.v (ov_neq rfl rfl) ?_
    first | refine LW.v (ov_pickT rfl rfl) ?_ | refine LW.v (ov_pickF rfl rfl) ?_ | refine LW.v (ov_pick rfl rfl rfl) ?_
    refine LW.nil ?_
    refine KW.thenN ?_
    refine CW.condD (by rfl) (fun h2 => ?_) (fun h2 => ?_)
    · refine CW.seq ?_
      refine CW.region ?_
      refine LW.v (ov_build zc110 pl110 rfl (.n)) ?_
      refine LW.opU (ou_storeW ta110 rfl rfl .agg rfl rfl (.h (.h (.h (.h (.h (.n)))))) (.t (.h))) rfl ?_
      refine LW.v (ov_assign rfl) ?_
      refine LW.nil ?_
      refine KW.thenN ?_
      refine CW.ret ?_
      refine KW.thenR ?_
      rw [hg, if_pos (.inr (by omega))]
      exact KW.retF (.cons (ResV.cellA 1 ta110 rfl rfl (.h (.h (.h (.h (.h (.n))))))) (.cons (.tmp rfl) (.nil))) [] rfl rfl (⟨rfl, rfl⟩)
    · refine CW.skip ?_
      refine KW.thenN ?_
      refine CW.seq ?_
      refine CW.region ?_
      refine LW.v (ov_loadAR 2 ta110 rfl rfl (.h (.h (.h (.h (.h (.n))))))) ?_
      refine LW.opU (ou_storeW ta110 rfl rfl .agg rfl rfl (.h (.h (.h (.h (.h (.n)))))) (.t (.h))) rfl ?_
      refine LW.v (ov_assign rfl) ?_
      refine LW.nil ?_
      refine KW.thenN ?_
      refine CW.ret ?_
      rw [hg, if_neg (by omega)]
      exact KW.retF (.cons (ResV.cellA 1 ta110 rfl rfl (.h (.h (.h (.h (.h (.n))))))) (.cons (.tmp rfl) (.nil))) [] rfl rfl (⟨rfl, rfl⟩)
theorem RCode_ok {p : Pk} (h : p.ok) : Fn Try.prog 101 #[pkv p] [] (Ret fun v Q => v = S (enc p) ∧ Q = []) := by
  obtain ⟨hp0, hp1, hp2, hp3, hp4, hp5, hp6, hp7⟩ := id h
  generalize hfst : (p.apid + if p.cmd then 4096 else 0) = fst
  have hf : 0 ≤ fst ∧ fst < 65536 := by subst hfst; cases p.cmd <;> simp <;> omega
  refine Fn.of (args := _) Try.func101 rfl Try.ntmps101 rfl ?_
  intro w0 g0
  refine CW.seq ?_
  refine CW.region ?_
  refine LW.opBA (ob_box rfl .agg (fun _ => .c (.n))) rfl rfl (fun b1 => ?_)
  refine LW.v (ov_assign rfl) ?_
  refine LW.nil ?_
  refine KW.thenN ?_
  refine CW.seq ?_
  refine CW.region ?_
  refine LW.v (ov_fieldAddr fo110_1 rfl) ?_
  refine LW.v (ov_loadR 1 ta3 rfl rfl rfl) ?_
  refine LW.v (ov_assign rfl) ?_
  refine LW.nil ?_
  refine KW.thenN ?_
  refine CW.cut (fun env As => env = [(1, .pointer (some ⟨b1, 0, none⟩)), (3, .int .i64 fst)] ∧ As = [ex g0, row b1 110 [.bool p.cmd, .int .i64 p.apid, .int .i64 p.flags, .int .i64 p.count, S p.data]]) (fun M hM => ?_) ?_
  · refine CW.seq ?_
    refine CW.region ?_
    refine LW.v (ov_fieldAddr fo110_0 rfl) ?_
    refine LW.v (ov_loadR 1 ta4 rfl rfl rfl) ?_
    refine LW.nil ?_
    refine KW.thenN ?_
    refine CW.cond (by rfl) (fun hb => ?_) (fun hb => ?_)
    · obtain rfl : p.apid + 4096 = fst := by rw [← hfst, hb]; rfl
      refine CW.region ?_
      refine LW.v (ov_move rfl) ?_
      first | refine LW.v (ov_add rfl rfl (by omega)) ?_ | refine LW.v (ov_addW rfl rfl) ?_
      refine LW.v (ov_assign rfl) ?_
      refine LW.nil ?_
      refine KW.thenN ?_
      exact KW.meet [0, 1] hM ⟨rfl, rfl⟩ ⟨rfl, rfl, trivial⟩ rfl rfl
    · obtain rfl : p.apid = fst := by rw [← hfst, hb]; simp
      refine CW.skip ?_
      refine KW.thenN ?_
      exact KW.meet [0, 1] hM ⟨rfl, rfl⟩ ⟨rfl, rfl, trivial⟩ rfl rfl
  rintro _ _ ⟨rfl, rfl⟩
  refine CW.seq ?_
  refine CW.draw [1] rfl mixed rfl (ls := #[false, false, false, false, false, false, false, false, false, false, false, false, false, false, false, false, false, false, false, false]) (by kernel_rfl) ?_
  refine DW.tk 0 [1] rfl (ov_move rfl) ?_
  refine DW.tk 2 [1] rfl (ov_fieldAddr fo110_2 rfl) ?_
  refine DW.tk 3 [1] rfl (ov_loadR 0 ta3 rfl rfl rfl) ?_
  first | refine DW.tk 4 [1] rfl (ov_mul rfl rfl (by omega)) ?_ | refine DW.tk 4 [1] rfl (ov_mulW rfl rfl) ?_
  refine DW.tk 5 [1] rfl (ov_fieldAddr fo110_3 rfl) ?_
  refine DW.tk 6 [1] rfl (ov_loadR 0 ta3 rfl rfl rfl) ?_
  first | refine DW.tk 7 [1] rfl (ov_add rfl rfl (by omega)) ?_ | refine DW.tk 7 [1] rfl (ov_addW rfl rfl) ?_
  refine DW.tk 10 [1] rfl (ov_fieldAddr fo110_4 rfl) ?_
  refine DW.tk 11 [1] rfl (ov_loadR 0 ta9 rfl rfl rfl) ?_
  refine DW.tk 12 [1] rfl (ov_lenS un9 rfl) ?_
  first | refine DW.tk 13 [1] rfl (ov_sub rfl rfl (by omega)) ?_ | refine DW.tk 13 [1] rfl (ov_subW rfl rfl) ?_
  refine DW.tk 16 [1] rfl (ov_fieldAddr fo110_4 rfl) ?_
  refine DW.tk 17 [1] rfl (ov_loadR 0 ta9 rfl rfl rfl) ?_
  refine DW.all1 1 (by kernel_rfl) ?_
  refine DO.call [1] [] rfl (oc_fn cf106 rfl) rfl rfl rfl rfl (two9_ok (n := fst) (by omega)) (by rintro _ _ ⟨rfl, rfl⟩; exact ⟨rfl, rfl⟩) rfl ?_
  rintro _ _ ⟨rfl, rfl⟩
  simp only [putBack, List.append_nil]
  refine DW.all1 8 (by kernel_rfl) ?_
  refine DO.call [1] [] rfl (oc_fn cf106 rfl) rfl rfl rfl rfl (two9_ok (n := p.flags * 16384 + p.count) (by omega)) (by rintro _ _ ⟨rfl, rfl⟩; exact ⟨rfl, rfl⟩) rfl ?_
  rintro _ _ ⟨rfl, rfl⟩
  simp only [putBack, List.append_nil]
  refine DW.tk 9 [1] rfl (ov_strAdd rfl rfl (by simp [wb])) ?_
  refine DW.all1 14 (by kernel_rfl) ?_
  refine DO.call [1] [] rfl (oc_fn cf106 rfl) rfl rfl rfl rfl (two9_ok (n := p.data.length - 1) (by omega)) (by rintro _ _ ⟨rfl, rfl⟩; exact ⟨rfl, rfl⟩) rfl ?_
  rintro _ _ ⟨rfl, rfl⟩
  simp only [putBack, List.append_nil]
  refine DW.tk 15 [1] rfl (ov_strAdd rfl rfl (by simp [wb])) ?_
  refine DW.tk 18 [1] rfl (ov_strAdd rfl rfl (by simp [wb]; omega)) ?_
  refine DW.tk 19 [1] rfl (ov_assign rfl) ?_
  refine DW.done (by kernel_rfl) ?_
  refine KW.thenN ?_
  refine CW.ret ?_
  exact KW.retF (.cons (.tmp rfl) (.nil)) [] rfl rfl (⟨by subst hfst; rfl, rfl⟩)
theorem RIdle_ok {n : Nat} (h1 : 7 ≤ n) (h2 : n ≤ 1030) : Fn Try.prog 86 #[.int .i64 n] [] (Ret fun v Q => v = .tuple #[S (enc (idleP n)), .int .i64 0] ∧ Q = []) := by
  obtain ⟨z, hz⟩ : ∃ z, z = List.replicate (n - 6) (0 : UInt8) := ⟨_, rfl⟩
  have hzl : n - 6 = z.length := by rw [hz]; simp
  have hzb : (List.replicate (n - 6) [Value.int .u8 0]).flatten = z.map bv := by rw [repl_bv, hz]
  have hid : idleP n = ⟨false, 2047, 3, 0, z⟩ := by rw [hz]; rfl
  rw [hid]
  clear hid hz
  have hok : Pk.ok ⟨false, 2047, 3, 0, z⟩ := ⟨by simp, by simp, by simp, by simp, by simp, by simp, by simp; omega, by simp; omega⟩
  have e11 : ((n : Int) - 6) = ((n - 6 : Nat) : Int) := by omega
  refine Fn.of (args := _) Try.func86 rfl Try.ntmps86 rfl ?_
  intro w0 g0
  refine CW.seq ?_
  refine CW.region ?_
  refine LW.v (ov_assign rfl) ?_
  refine LW.v (ov_assign rfl) ?_
  refine LW.nil ?_
  refine KW.thenN ?_
  refine CW.seq ?_
  refine CW.seq ?_
  refine CW.region ?_
  refine LW.v (ov_move rfl) ?_
  refine LW.v (OpV.eq (ov_lss rfl rfl) (congrArg Value.bool (decide_eq_false (by first | omega | assumption)))) ?_
  refine LW.v (ov_move rfl) ?_
  refine LW.v (ov_move rfl) ?_
  refine LW.v (OpV.eq (ov_gtr rfl rfl) (congrArg Value.bool (decide_eq_false (by first | omega | assumption)))) ?_
  first | refine LW.v (ov_pickT rfl rfl) ?_ | refine LW.v (ov_pickF rfl rfl) ?_ | refine LW.v (ov_pick rfl rfl rfl) ?_
  refine LW.nil ?_
  refine KW.thenN ?_
  refine CW.condF rfl rfl ?_
  refine CW.skip ?_
  refine KW.thenN ?_
  refine CW.seq ?_
  refine CW.region ?_
  refine LW.v (ov_move rfl) ?_
  refine LW.v (OpV.eq (ov_sub rfl rfl (by omega)) (congrArg (Value.int .i64) e11)) ?_
  refine LW.opBA (ob_make so107 zc5 rfl rfl rfl (by omega) (by omega) (fun _ => (.c (.n)))) rfl rfl (fun b12 => ?_)
  refine LW.v (ov_b2sR (l := z) 1 so107 un9 un5 rfl hzl rfl (fun j v hj => by rw [hzb, Nat.zero_add]; exact hj)) ?_
  refine LW.v (ov_build zc110 pl110 rfl (.c rfl (.one rfl) rfl (.t (.h (.n))) (.c rfl (.one rfl) rfl (.t (.t (.h (.n)))) (.c rfl (.one rfl) rfl (.t (.t (.t (.t (.h (.n)))))) (.n))))) ?_
  refine KW.re 14 rfl (v' := pkv ⟨false, 2047, 3, 0, z⟩) (by with_reducible rfl) ?_
  refine LW.call [] (oc_fn cf101 rfl) rfl rfl rfl rfl (RCode_ok hok) ?_
  rintro _ _ ⟨rfl, rfl⟩
  simp only [putBack, List.append_nil]
  refine LW.v (ov_assign rfl) ?_
  refine LW.v (ov_assign rfl) ?_
  refine LW.nil ?_
  refine KW.thenN ?_
  refine CW.ret ?_
  exact KW.retF (.cons (.tmp rfl) (.cons (.tmp rfl) (.nil))) [] rfl rfl (⟨rfl, rfl⟩)
end Sx
end Go.Proofs.Ytdgphamhpjnmpaa

/- Slices made and grown: fresh literals that own their block; what append reads out of a row. -/
namespace Go.Proofs.Ytdgphamhpjnmpaa
namespace Sx
section
variable {C : Cx} {ds : List Deferred} {env : Env} {As : List HP} {d : Option Tmp} {ty : TypeId} {pos : String} {af : Array Edge} {gd : Option (Nat × Bool)} {K : Act → World → Prop}
theorem ob_bs0 {t e : TypeId} {sz bs : Nat} {As' : Nat → List HP} (hu : sliceOf C.P t = some (e, sz, bs)) (hA : ∀ b, App As (row b e []) (As' b)) :
    OpBA C ds env As ⟨d, .buildSlice t 0 #[], ty, pos, af, gd⟩ (fun b => .slice (some ⟨b, 0, none⟩) 0 0) As' := fun a w ha hs => by
  obtain ⟨h1, q, h2, h3, h4⟩ := sliceOf_spec hu
  refine ⟨_, _, { w with heap := w.heap.push (.cells #[] e) }, ⟨w.heap.size, rfl, rfl⟩, .inl ?_, (hA _).spec ▸ hs.rowPush (cs := []) (fr := (0, 0)) (by simp) (pushNew w _) (pushOld w _), ⟨rfl, rfl, rfl⟩⟩
  simp [execOp, Instr.buildSlice, run_underlying h1, sizeOf, typeInfo, h2, Instr.fill, newRow]
  congr 2
  simp [Array.ext_iff]
theorem ox_ofB {o : Oper} {e : TypeId} {sz n : Nat} {vs : List Value} {As1 : Nat → List HP} {As' : Value → List HP} (h : OpBA C ds env As o (fun b => .slice (some ⟨b, 0, none⟩) n n) As1) (h1 : ∀ b, As1 b = As ++ [row b e vs]) (hl : vs.length = n * sz) (hA : ∀ v, App As (ownS e sz v n vs) (As' v)) : OpX C ds env As o n As' := fun a w ha hs => by
  obtain ⟨v, B, w', ⟨b, rfl, rfl⟩, hrun, hs', hsame⟩ := h a w ha hs
  refine ⟨_, _, w', ⟨some ⟨b, 0, none⟩, n, rfl, rfl⟩, hrun, ?_, hsame⟩
  rw [← (hA _).spec]
  rw [h1] at hs'
  have h6 := hs'.imp As.length (A := row b e vs) (B := ownS e sz (.slice (some ⟨b, 0, none⟩) n n) n vs) (by simp)
    (fun g' hg' => ⟨hl, .inr ⟨b, n, [], rfl, Nat.le_refl _, by simpa using hl, by simpa using hg'⟩⟩)
  simpa using h6
/-- []e{}: owned -/
theorem ox_bs0 {t e : TypeId} {sz bs : Nat} {As' : Value → List HP} (hu : sliceOf C.P t = some (e, sz, bs)) (hA : ∀ v, App As (ownS e sz v 0 []) (As' v)) : OpX C ds env As ⟨d, .buildSlice t 0 #[], ty, pos, af, gd⟩ 0 As' :=
  ox_ofB (As1 := fun b => As ++ [row b e []]) (ob_bs0 hu fun b => by
    have : ∀ (l : List HP) (x : HP), App l x (l ++ [x]) := by
      intro l; induction l with
      | nil => intro x; exact .n
      | cons a l ih => intro x; exact .c (ih x)
    exact this _ _) (fun _ => rfl) (by simp) hA
theorem App.app {α : Type _} (l : List α) (x : α) : App l x (l ++ [x]) := by
  induction l with
  | nil => exact .n
  | cons a l ih => exact .c ih
/-- []e{x}: owned -/
theorem ox_bs1 {t e : TypeId} {sz bs : Nat} {x : Operand} {v : Value} {zs vs : List Value} {As' : Value → List HP} (hu : sliceOf C.P t = some (e, sz, bs)) (hz : zeroCells' C.P e = some zs) (hx : evo env x = some v)
    (hv : CellsOf v vs) (hl : vs.length = sz) (hzs : zs.length = sz) (hn : sz ≤ 1000 ∧ 0 < sz) (hA : ∀ v, App As (ownS e sz v 1 vs) (As' v)) : OpX C ds env As ⟨d, .buildSlice t 1 #[(0, x)], ty, pos, af, gd⟩ 1 As' :=
  ox_ofB (As1 := fun b => As ++ [row b e vs]) (ob_bsOne hu hz hx hv hl hzs hn fun b => App.app _ _) (fun _ => rfl) (by omega) hA
/-- append(xs, ys...): ys lie in a row -/
theorem ox_appCells {e : TypeId} {sz bs : Nat} {t t2 e2 : TypeId} {z : Value} {v : Value} {n m b off c : Nat} {tb : TypeId} {xs ys cs : List Value} {a1 a2 : Operand} {As' : Value → List HP} (j : Nat)
    (hu : sliceOf C.P t = some (e, sz, bs)) (hz : zeroOf C.P e = some z) (hzs : z.cells.size = sz) (ht2 : sliceOf C.P t2 = some (e2, sz, bs)) (hx1 : evo env a1 = some v) (hx2 : evo env a2 = some (.slice (some ⟨b, off, none⟩) m c))
    (hj : As[j]? = some (row b tb cs)) (hy : ys.length = m * sz) (hcs : ∀ (k : Nat) (u : Value), ys[k]? = some u → cs[off + k]? = some u) (hone : (ys.all fun u => u.oneCell') = true) (hb : (n + m) * bs ≤ 2 ^ 40) (hbs : bs ≤ 2 ^ 20) (hn : n + m ≤ 2 ^ 40)
    (hi : ∀ v', Rep As (ownS e sz v n xs) (ownS e sz v' (n + m) (xs ++ ys)) (As' v')) : OpX C ds env As ⟨d, .call ⟨.builtin .append, #[a1, a2], #[t, t2]⟩, ty, pos, af, gd⟩ (n + m) As' :=
  ox_append hu hz hzs (.inr ⟨e2, (sliceOf_spec ht2).1⟩) hx1 hx2 (fun _ hs => src_cells hy fun k u hk => by rw [hs.cell j hj]; exact hcs k u hk) hy hone hb hbs hn hi
theorem ox_appNil {e : TypeId} {sz bs : Nat} {t t2 e2 : TypeId} {z : Value} {v : Value} {n c : Nat} {xs : List Value} {a1 a2 : Operand} {As' : Value → List HP}
    (hu : sliceOf C.P t = some (e, sz, bs)) (hz : zeroOf C.P e = some z) (hzs : z.cells.size = sz) (ht2 : sliceOf C.P t2 = some (e2, sz, bs)) (hx1 : evo env a1 = some v) (hx2 : evo env a2 = some (.slice none 0 c))
    (hb : (n + 0) * bs ≤ 2 ^ 40) (hbs : bs ≤ 2 ^ 20) (hn : n + 0 ≤ 2 ^ 40)
    (hi : ∀ v', Rep As (ownS e sz v n xs) (ownS e sz v' (n + 0) (xs ++ [])) (As' v')) : OpX C ds env As ⟨d, .call ⟨.builtin .append, #[a1, a2], #[t, t2]⟩, ty, pos, af, gd⟩ (n + 0) As' :=
  ox_append hu hz hzs (.inr ⟨e2, (sliceOf_spec ht2).1⟩) hx1 hx2 (fun _ _ => src_nil sz c) (by simp) rfl hb hbs hn hi
/-- An owned slice, opened (when it is not nil). -/
theorem KW.ownC (i : Nat) {e : TypeId} {sz n c : Nat} {ad : Option Addr} {xs : List Value} (hi : As[i]? = some (ownS e sz (.slice ad n c) n xs)) (h0 : ad = none → n = 0 → c = 0 → xs = [] → KW C ds K env As)
    (h1 : ∀ b extra, ad = some ⟨b, 0, none⟩ → n ≤ c → xs.length = n * sz → (xs ++ extra).length = c * sz → KW C ds K env (As.set i (row b e (xs ++ extra)))) : KW C ds K env As :=
  KW.own i hi (fun g1 g2 g3 => by
    simp only [Value.slice.injEq] at g1
    exact h0 g1.1 g2 g1.2.2 g3) (fun b c' extra g1 g2 g3 g4 => by
    simp only [Value.slice.injEq, true_and] at g1
    obtain ⟨g0, rfl⟩ := g1
    exact h1 b extra g0 g2 g3 g4)
end
end Sx
end Go.Proofs.Ytdgphamhpjnmpaa

/- The reference of fillers. -/
namespace Go.Proofs.Ytdgphamhpjnmpaa
namespace Sx

structure Rf where
  size : Nat
  L : List (List UInt8)
  begun : Bool
  rest : List UInt8
abbrev rrow (p : Nat) (ad : Option Addr) (n c : Nat) (size : Int) (begun : Bool) (rest : List UInt8) : HP := row p 171 [.int .i64 size, .slice ad n c, .bool begun, S rest]
abbrev rls (ad : Option Addr) (n c : Nat) (L : List (List UInt8)) : HP := ownS 9 1 (.slice ad n c) n (L.map S)
abbrev rf2 (p : Nat) (ad : Option Addr) (c : Nat) (G : Rf) : List HP := [rrow p ad G.L.length c G.size G.begun G.rest, rls ad G.L.length c G.L]
theorem rnew_ok (s : Int) : Fn Try.prog 45 #[.int .i64 s] [] (Ret fun v Q => (32 ≤ s ∧ s ≤ 200 → ∃ b, v = .tuple #[P1 b 0, .int .i64 0] ∧ Q = [rrow b none 0 0 s false []]) ∧ (¬ (32 ≤ s ∧ s ≤ 200) → v = .tuple #[.pointer none, .int .i64 2] ∧ Q = [])) := by
  refine Fn.of (args := _) Try.func45 rfl Try.ntmps45 rfl ?_
  intro w0 g0
  by_cases h : 32 ≤ s ∧ s ≤ 200
  · refine CW.seq ?_
    refine CW.region ?_
    refine LW.v (ov_assign rfl) ?_
    refine LW.v (ov_assign rfl) ?_
    refine LW.nil ?_
    refine KW.thenN ?_
    refine CW.seq ?_
    refine CW.seq ?_
    refine CW.region ?_
    refine LW.v (ov_move rfl) ?_
    refine LW.v (OpV.eq (ov_lss rfl rfl) (congrArg Value.bool (decide_eq_false (by first | omega | assumption)))) ?_
    refine LW.v (ov_move rfl) ?_
    refine LW.v (ov_move rfl) ?_
    refine LW.v (OpV.eq (ov_gtr rfl rfl) (congrArg Value.bool (decide_eq_false (by first | omega | assumption)))) ?_
    first | refine LW.v (ov_pickT rfl rfl) ?_ | refine LW.v (ov_pickF rfl rfl) ?_ | refine LW.v (ov_pick rfl rfl rfl) ?_
    refine LW.nil ?_
    refine KW.thenN ?_
    refine CW.condF rfl rfl ?_
    refine CW.skip ?_
    refine KW.thenN ?_
    refine CW.seq ?_
    refine CW.region ?_
    refine LW.v (ov_move rfl) ?_
    refine LW.v (ov_build zc171 pl171 rfl (.c rfl (.one rfl) rfl (.h (.n)) (.n))) ?_
    refine LW.opBA (ob_box rfl .agg (fun _ => .c (.n))) rfl rfl (fun b12 => ?_)
    refine LW.v (ov_assign rfl) ?_
    refine LW.v (ov_assign rfl) ?_
    refine LW.nil ?_
    refine KW.thenN ?_
    refine CW.ret ?_
    exact KW.retF (.cons (.tmp rfl) (.cons (.tmp rfl) (.nil))) [1] rfl rfl (⟨fun _ => ⟨b12, rfl, rfl⟩, fun q => absurd h q⟩)
  · refine CW.seq ?_
    refine CW.region ?_
    refine LW.v (ov_assign rfl) ?_
    refine LW.v (ov_assign rfl) ?_
    refine LW.nil ?_
    refine KW.thenN ?_
    refine CW.seq ?_
    refine CW.seq ?_
    refine CW.region ?_
    refine LW.v (ov_move rfl) ?_
    refine LW.v (ov_lss rfl rfl) ?_
    refine LW.v (ov_move rfl) ?_
    first | refine KW.splitD 6 rfl (fun h6 => ?_) (fun h6 => ?_) | refine KW.split 6 rfl (fun h6 => ?_) (fun h6 => ?_)
    · refine LW.skip rfl rfl ?_
      refine LW.skip rfl rfl ?_
      first | refine LW.v (ov_pickT rfl rfl) ?_ | refine LW.v (ov_pickF rfl rfl) ?_ | refine LW.v (ov_pick rfl rfl rfl) ?_
      refine LW.nil ?_
      refine KW.thenN ?_
      refine CW.condT rfl rfl ?_
      refine CW.seq ?_
      refine CW.region ?_
      refine LW.v (ov_assign rfl) ?_
      refine LW.v (ov_assign rfl) ?_
      refine LW.nil ?_
      refine KW.thenN ?_
      refine CW.ret ?_
      refine KW.thenR ?_
      first | (exfalso; omega) | exact KW.retF (.cons (.tmp rfl) (.cons (.tmp rfl) .nil)) [] rfl rfl ⟨fun q => absurd q h, fun _ => ⟨rfl, rfl⟩⟩
    · refine LW.v (ov_move rfl) ?_
      refine LW.v (ov_gtr rfl rfl) ?_
      first | refine LW.v (ov_pickT rfl rfl) ?_ | refine LW.v (ov_pickF rfl rfl) ?_ | refine LW.v (ov_pick rfl rfl rfl) ?_
      refine LW.nil ?_
      refine KW.thenN ?_
      first | refine KW.splitD 9 rfl (fun h9 => ?_) (fun h9 => ?_) | refine KW.split 9 rfl (fun h9 => ?_) (fun h9 => ?_)
      · refine CW.condT rfl rfl ?_
        refine CW.seq ?_
        refine CW.region ?_
        refine LW.v (ov_assign rfl) ?_
        refine LW.v (ov_assign rfl) ?_
        refine LW.nil ?_
        refine KW.thenN ?_
        refine CW.ret ?_
        refine KW.thenR ?_
        first | (exfalso; omega) | exact KW.retF (.cons (.tmp rfl) (.cons (.tmp rfl) .nil)) [] rfl rfl ⟨fun q => absurd q h, fun _ => ⟨rfl, rfl⟩⟩
      · refine CW.condF rfl rfl ?_
        refine CW.skip ?_
        refine KW.thenN ?_
        refine CW.seq ?_
        refine CW.region ?_
        refine LW.v (ov_move rfl) ?_
        refine LW.v (ov_build zc171 pl171 rfl (.c rfl (.one rfl) rfl (.h (.n)) (.n))) ?_
        refine LW.opBA (ob_box rfl .agg (fun _ => .c (.n))) rfl rfl (fun b12 => ?_)
        refine LW.v (ov_assign rfl) ?_
        refine LW.v (ov_assign rfl) ?_
        refine LW.nil ?_
        refine KW.thenN ?_
        refine CW.ret ?_
        first | (exfalso; omega) | exact KW.retF (.cons (.tmp rfl) (.cons (.tmp rfl) .nil)) [] rfl rfl ⟨fun q => absurd q h, fun _ => ⟨rfl, rfl⟩⟩
def total (L : List (List UInt8)) : Nat := L.flatten.length
theorem total_take {L : List (List UInt8)} {i : Nat} {x : List UInt8} (h : L[i]? = some x) : total (L.take (i + 1)) = total (L.take i) + x.length := by
  obtain ⟨hi, rfl⟩ := List.getElem?_eq_some_iff.1 h
  rw [List.take_succ_eq_append_getElem hi, total, total, List.flatten_append, List.length_append]; simp
theorem total_le (L : List (List UInt8)) (i : Nat) : total (L.take i) ≤ total L := by
  have : L.flatten = (L.take i).flatten ++ (L.drop i).flatten := by rw [← List.flatten_append, List.take_append_drop]
  rw [total, total, this, List.length_append]; omega
theorem rwait_ok {p : Nat} {ad : Option Addr} {c : Nat} {G : Rf} (hL : G.L.length ≤ 100000) (ht : total G.L ≤ 1000000) : Fn Try.prog 52 #[P1 p 0] (rf2 p ad c G) (Ret fun v Q => v = .int .i64 (total G.L) ∧ Q = rf2 p ad c G) := by
  obtain ⟨size, L, begun, rest⟩ := G
  simp only at hL ht ⊢
  refine Fn.of (args := _) Try.func52 rfl Try.ntmps52 rfl ?_
  intro w0 g0
  refine CW.seq ?_
  refine CW.region ?_
  refine LW.v (ov_assign rfl) ?_
  refine LW.nil ?_
  refine KW.thenN ?_
  refine CW.seq ?_
  refine CW.region ?_
  refine LW.v (ov_assign rfl) ?_
  refine LW.nil ?_
  refine KW.thenN ?_
  refine CW.seq ?_
  refine CW.seq ?_
  refine CW.region ?_
  refine LW.v (ov_assign rfl) ?_
  refine LW.nil ?_
  refine KW.thenN ?_
  refine CW.block ?_
  refine CW.loopW (fun r env As => ∃ (i : Nat), i + r = L.length ∧ env = [(0, P1 p 0), (3, .int .i64 (total (L.take i))), (4, .int .i64 i)] ∧ As = [ex g0, rrow p ad L.length c size begun rest, rls ad L.length c L]) L.length [0, 1, 2] ⟨0, by simp, rfl, rfl⟩ ⟨rfl, rfl, rfl, trivial⟩ rfl rfl ?_
  rintro r _ _ ⟨i, hir, rfl, rfl⟩
  refine CW.seq ?_
  refine CW.seq ?_
  refine CW.region ?_
  refine LW.v (ov_move rfl) ?_
  refine LW.v (ov_move rfl) ?_
  refine LW.v (ov_nilP rfl) ?_
  refine LW.v (ov_fieldAddr fo171_1 rfl) ?_
  refine LW.v (ov_loadR 1 ta22 rfl rfl rfl) ?_
  refine LW.v (ov_lenL so22 rfl) ?_
  refine LW.v (ov_lss rfl rfl) ?_
  refine LW.nil ?_
  refine KW.thenN ?_
  refine CW.condD (by rfl) (fun h => ?_) (fun h => ?_)
  · have hi : i < L.length := by omega
    have hx : L[i]? = some L[i] := List.getElem?_eq_getElem hi
    have htk := total_take hx
    have htl := total_le L (i + 1)
    generalize L[i] = x at hx htk
    refine KW.ownC 2 rfl (fun h1 h2 h3 h4 => by exfalso; omega) (fun b extra h1 h2 h3 h4 => ?_)
    subst h1
    refine CW.skip ?_
    refine KW.thenN ?_
    refine CW.seq ?_
    refine CW.block ?_
    refine CW.region ?_
    refine LW.v (ov_move rfl) ?_
    refine LW.v (ov_move rfl) ?_
    refine LW.v (ov_nilP rfl) ?_
    refine LW.v (ov_fieldAddr fo171_1 rfl) ?_
    refine LW.v (ov_loadR 1 ta22 rfl rfl rfl) ?_
    refine LW.v (ov_move rfl) ?_
    refine LW.v (ov_idxL (i := i) so22 rfl rfl rfl hi) ?_
    refine LW.v (ov_loadR (v := S x) 2 ta9 rfl rfl (by rw [Nat.zero_add, Nat.mul_one, List.getElem?_append_left (by simpa using hi), List.getElem?_map, hx]; rfl)) ?_
    refine LW.v (ov_lenS un9 rfl) ?_
    first | refine LW.v (ov_add rfl rfl (by omega)) ?_ | refine LW.v (ov_addW rfl rfl) ?_
    refine LW.v (ov_assign rfl) ?_
    refine LW.nil ?_
    refine KW.blockN ?_
    refine KW.thenN ?_
    refine CW.region ?_
    refine LW.v (ov_move rfl) ?_
    first | refine LW.v (ov_add rfl rfl (by omega)) ?_ | refine LW.v (ov_addW rfl rfl) ?_
    refine LW.v (ov_assign rfl) ?_
    refine LW.nil ?_
    refine KW.turn (fun w hs => hs.imp 2 rfl (own_row h2 h3 h4)) ?_
    exact KW.again (r - 1) [0, 1, 2] (by omega) ⟨i + 1, by omega, rfl, rfl⟩ ⟨rfl, by rw [htk]; rfl, rfl, trivial⟩ rfl rfl
  · obtain rfl : i = L.length := by omega
    refine CW.exit ?_
    refine KW.thenX ?_
    refine KW.thenX ?_
    refine KW.hit ?_
    refine KW.thenN ?_
    refine CW.seq ?_
    refine CW.region ?_
    refine LW.v (ov_move rfl) ?_
    refine LW.v (ov_assign rfl) ?_
    refine LW.nil ?_
    refine KW.thenN ?_
    refine CW.ret ?_
    exact KW.retF (.cons (.tmp rfl) (.nil)) [1, 2] rfl rfl (⟨by rw [List.take_length]; rfl, rfl⟩)
def rfClear (G : Rf) : Rf := ⟨G.size, [], false, []⟩
theorem rclear_ok {p : Nat} {ad : Option Addr} {c : Nat} {G : Rf} : Fn Try.prog 48 #[P1 p 0] (rf2 p ad c G) (Ret fun _ Q => Q = [rrow p none 0 0 G.size false []]) := by
  refine Fn.of (args := _) Try.func48 rfl Try.ntmps48 rfl ?_
  intro w0 g0
  refine CW.region ?_
  refine LW.v (ov_move rfl) ?_
  refine LW.v (ov_move rfl) ?_
  refine LW.v (ov_move rfl) ?_
  refine LW.v (ov_nilP rfl) ?_
  refine LW.v (ov_fieldAddr fo171_1 rfl) ?_
  refine LW.opU (ou_storeW ta22 rfl rfl (.one rfl) rfl rfl (.t (.h (.n))) (.t (.h))) rfl ?_
  refine LW.v (ov_nilP rfl) ?_
  refine LW.v (ov_fieldAddr fo171_2 rfl) ?_
  refine LW.opU (ou_storeW ta4 rfl rfl (.one rfl) rfl rfl (.t (.t (.h (.n)))) (.t (.h))) rfl ?_
  refine LW.v (ov_nilP rfl) ?_
  refine LW.v (ov_fieldAddr fo171_3 rfl) ?_
  refine LW.opU (ou_storeW ta9 rfl rfl (.one rfl) rfl rfl (.t (.t (.t (.h (.n))))) (.t (.h))) rfl ?_
  refine LW.nil ?_
  exact KW.endF (.nil) [1] rfl rfl (rfl)
def rfAdd (G : Rf) (l : List UInt8) : Rf × Int :=
  if (getK l).2 ≠ 0 ∨ (getK l).1.apid = 2047 then (G, 6) else if total G.L + l.length > 65536 then (G, 5) else ({ G with L := G.L ++ [l] }, 0)
theorem radd_ok {p : Nat} {ad : Option Addr} {c : Nat} {G : Rf} {l : List UInt8} (hL : G.L.length ≤ 100000) (ht : total G.L ≤ 1000000) (hl : l.length ≤ 1000000000) : Fn Try.prog 46 #[P1 p 0, S l] (rf2 p ad c G)
    (Ret fun v Q => ∃ ad1 c1, v = .int .i64 (rfAdd G l).2 ∧ Q = rf2 p ad1 c1 (rfAdd G l).1) := by
  have hgl := @getK_len l
  have hfa : rfAdd G l = if (getK l).2 ≠ 0 ∨ (getK l).1.apid = 2047 then (G, 6) else if total G.L + l.length > 65536 then (G, 5) else ({ G with L := G.L ++ [l] }, 0) := rfl
  have hget := RGet9_ok hl
  generalize getK l = r at hgl hfa hget
  obtain ⟨pk, e⟩ := r
  simp only at hgl hfa hget
  refine Fn.of (args := _) Try.func46 rfl Try.ntmps46 rfl ?_
  intro w0 g0
  refine CW.seq ?_
  refine CW.region ?_
  refine LW.v (ov_assign rfl) ?_
  refine LW.nil ?_
  refine KW.thenN ?_
  refine CW.seq ?_
  refine CW.region ?_
  refine LW.v (ov_move rfl) ?_
  refine LW.call [] (oc_fn cf84 rfl) rfl rfl rfl rfl (hget) ?_
  rintro _ _ ⟨rfl, rfl⟩
  simp only [putBack, List.append_nil]
  refine LW.v (ov_move rfl) ?_
  refine LW.v (ov_extract rfl rfl) ?_
  refine LW.v (ov_extract rfl rfl) ?_
  refine LW.opBA (ob_alloc zc110 (fun _ => .c (.c (.c (.n))))) rfl rfl (fun b5 => ?_)
  refine LW.opU (ou_storeW ta110 rfl rfl .agg rfl rfl (.h (.h (.h (.h (.h (.n)))))) (.t (.t (.t (.h))))) rfl ?_
  refine LW.v (ov_assign rfl) ?_
  refine LW.nil ?_
  refine KW.thenN ?_
  refine CW.seq ?_
  refine CW.seq ?_
  refine CW.region ?_
  refine LW.v (ov_move rfl) ?_
  refine LW.v (ov_neq rfl rfl) ?_
  refine LW.v (ov_move rfl) ?_
  refine KW.splitD 14 rfl (fun h => ?_) (fun h => ?_)
  · refine LW.skip rfl rfl ?_
    refine LW.skip rfl rfl ?_
    refine LW.skip rfl rfl ?_
    first | refine LW.v (ov_pickT rfl rfl) ?_ | refine LW.v (ov_pickF rfl rfl) ?_ | refine LW.v (ov_pick rfl rfl rfl) ?_
    refine LW.nil ?_
    refine KW.thenN ?_
    refine CW.condT rfl rfl ?_
    refine CW.seq ?_
    refine CW.region ?_
    refine LW.v (ov_assign rfl) ?_
    refine LW.nil ?_
    refine KW.thenN ?_
    refine CW.ret ?_
    refine KW.thenR ?_
    rw [hfa, if_pos (.inl h)]
    exact KW.retF (.cons (.tmp rfl) (.nil)) [1, 2] rfl rfl (⟨_, _, rfl, rfl⟩)
  refine LW.v (ov_fieldAddr fo110_1 rfl) ?_
  refine LW.v (ov_loadR 3 ta3 rfl rfl rfl) ?_
  refine LW.v (ov_eql rfl rfl) ?_
  first | refine LW.v (ov_pickT rfl rfl) ?_ | refine LW.v (ov_pickF rfl rfl) ?_ | refine LW.v (ov_pick rfl rfl rfl) ?_
  refine LW.nil ?_
  refine KW.thenN ?_
  have he : e = 0 := Decidable.of_not_not h
  have hll := hgl he
  refine CW.condD (by rfl) (fun h2 => ?_) (fun h2 => ?_)
  · refine CW.seq ?_
    refine CW.region ?_
    refine LW.v (ov_assign rfl) ?_
    refine LW.nil ?_
    refine KW.thenN ?_
    refine CW.ret ?_
    refine KW.thenR ?_
    rw [hfa, if_pos (.inr h2)]
    exact KW.retF (.cons (.tmp rfl) (.nil)) [1, 2] rfl rfl (⟨_, _, rfl, rfl⟩)
  refine CW.skip ?_
  refine KW.thenN ?_
  refine CW.seq ?_
  refine CW.seq ?_
  refine CW.region ?_
  refine LW.v (ov_move rfl) ?_
  refine LW.call [1, 2] (oc_fn cf52 rfl) rfl rfl rfl rfl (rwait_ok hL ht) ?_
  rintro _ _ ⟨rfl, rfl⟩
  simp only [putBack, List.set_cons_succ, List.set_cons_zero, List.append_nil]
  refine LW.v (ov_move rfl) ?_
  refine LW.v (ov_lenS un9 rfl) ?_
  first | refine LW.v (ov_add rfl rfl (by omega)) ?_ | refine LW.v (ov_addW rfl rfl) ?_
  refine LW.v (ov_gtr rfl rfl) ?_
  refine LW.nil ?_
  refine KW.thenN ?_
  refine CW.condD (by rfl) (fun h3 => ?_) (fun h3 => ?_)
  · refine CW.seq ?_
    refine CW.region ?_
    refine LW.v (ov_assign rfl) ?_
    refine LW.nil ?_
    refine KW.thenN ?_
    refine CW.ret ?_
    refine KW.thenR ?_
    rw [hfa, if_neg (by rintro (q | q); exact h q; exact h2 q), if_pos (by omega)]
    exact KW.retF (.cons (.tmp rfl) (.nil)) [1, 2] rfl rfl (⟨_, _, rfl, rfl⟩)
  rw [hfa, if_neg (by rintro (q | q); exact h q; exact h2 q), if_neg (by omega)]
  clear hfa
  obtain ⟨size, L, begun, rest⟩ := G
  simp only at hL ht h3 ⊢
  refine CW.skip ?_
  refine KW.thenN ?_
  have hone : ((L.map S).all fun u => u.oneCell') = true := by simp [S, Value.oneCell']
  refine KW.ownC 2 rfl (fun q1 q2 q3 q4 => ?_) (fun b extra q1 q2 q3 q4 => ?_)
  · obtain rfl : L = [] := by simpa using q4
    subst q1; subst q3
    refine CW.seq ?_
    refine CW.region ?_
    refine LW.v (ov_move rfl) ?_
    refine LW.opX (ox_bs0 so22 (fun _ => (.c (.c (.c (.c (.n))))))) rfl rfl (fun a26 c26 => ?_)
    refine LW.v (ov_move rfl) ?_
    refine LW.v (ov_nilP rfl) ?_
    refine LW.v (ov_fieldAddr fo171_1 rfl) ?_
    refine LW.v (ov_loadR 1 ta22 rfl rfl rfl) ?_
    refine LW.opX (ox_appNil so22 zo9 rfl so22 rfl rfl (by omega) (by omega) (by omega) (fun _ => (.t (.t (.t (.t (.h))))))) rfl rfl (fun a31 c31 => ?_)
    refine LW.v (ov_move rfl) ?_
    refine LW.opBA (ob_bs1 so22 zc9 (xs := [_]) rfl rfl rfl (by decide) rfl (fun _ => .c (.c (.c (.c (.c (.n))))))) rfl rfl (fun b33 => ?_)
    refine LW.opX (ox_appR 5 so22 zo9 rfl so22 rfl rfl rfl rfl rfl (by omega) (by omega) (by omega) (fun _ => .t (.t (.t (.t (.h)))))) rfl rfl (fun a34 c34 => ?_)
    refine LW.v (ov_nilP rfl) ?_
    refine LW.v (ov_fieldAddr fo171_1 rfl) ?_
    refine LW.opU (ou_storeW ta22 rfl rfl (.one rfl) rfl rfl (.t (.h (.n))) (.t (.h))) rfl ?_
    refine LW.nil ?_
    refine KW.thenN ?_
    refine CW.seq ?_
    refine CW.region ?_
    refine LW.v (ov_assign rfl) ?_
    refine LW.nil ?_
    refine KW.thenN ?_
    refine CW.ret ?_
    exact KW.retF (.cons (.tmp rfl) (.nil)) [1, 4] rfl rfl (⟨_, _, rfl, rfl⟩)
  · subst q1
    refine CW.seq ?_
    refine CW.region ?_
    refine LW.v (ov_move rfl) ?_
    refine LW.opX (ox_bs0 so22 (fun _ => (.c (.c (.c (.c (.n))))))) rfl rfl (fun a26 c26 => ?_)
    refine LW.v (ov_move rfl) ?_
    refine LW.v (ov_nilP rfl) ?_
    refine LW.v (ov_fieldAddr fo171_1 rfl) ?_
    refine LW.v (ov_loadR 1 ta22 rfl rfl rfl) ?_
    refine LW.opX (ox_appCells (ys := L.map S) 2 so22 zo9 rfl so22 rfl rfl rfl (by simp) (fun k u hk => by rw [Nat.zero_add, List.getElem?_append_left (lt_of_get hk)]; exact hk) hone (by omega) (by omega) (by omega) (fun _ => (.t (.t (.t (.t (.h))))))) rfl rfl (fun a31 c31 => ?_)
    refine LW.v (ov_move rfl) ?_
    refine LW.opBA (ob_bs1 so22 zc9 (xs := [_]) rfl rfl rfl (by decide) rfl (fun _ => .c (.c (.c (.c (.c (.n))))))) rfl rfl (fun b33 => ?_)
    refine LW.opX (ox_appR 5 so22 zo9 rfl so22 rfl rfl rfl rfl rfl (by omega) (by omega) (by omega) (fun _ => .t (.t (.t (.t (.h)))))) rfl rfl (fun a34 c34 => ?_)
    refine LW.v (ov_nilP rfl) ?_
    refine LW.v (ov_fieldAddr fo171_1 rfl) ?_
    refine LW.opU (ou_storeW ta22 rfl rfl (.one rfl) rfl rfl (.t (.h (.n))) (.t (.h))) rfl ?_
    refine LW.nil ?_
    refine KW.thenN ?_
    refine CW.seq ?_
    refine CW.region ?_
    refine LW.v (ov_assign rfl) ?_
    refine LW.nil ?_
    refine KW.thenN ?_
    refine CW.ret ?_
    exact KW.retF (.cons (.tmp rfl) (.nil)) [1, 4] rfl rfl (⟨a34, c34, rfl, by show _ = [rrow p a34 (L ++ [l]).length c34 size begun rest, ownS 9 1 (.slice a34 (L ++ [l]).length c34) (L ++ [l]).length ((L ++ [l]).map S)]; rw [List.length_append, List.map_append, Nat.zero_add]; rfl⟩)
end Sx
end Go.Proofs.Ytdgphamhpjnmpaa

/- The reference's next field. -/
namespace Go.Proofs.Ytdgphamhpjnmpaa
namespace Sx

/-- the packets that go into a field: the field, where the first one begins, what is left, whether some of its bytes are gone -/
def rfGo (size : Nat) : List (List UInt8) → Bool → List UInt8 → Int → List UInt8 × Int × List (List UInt8) × Bool
  | [], b, f, fi => (f, fi, [], b)
  | x :: l, b, f, fi => if f.length < size then
      let fi' := if b = false ∧ fi = 2047 then (f.length : Int) else fi
      let n := min x.length (size - f.length)
      if n < x.length then (f ++ x.take n, fi', x.drop n :: l, true) else rfGo size l false (f ++ x.take n) fi'
    else (f, fi, x :: l, b)
def rfNext (G : Rf) : List UInt8 × Int × Bool × Rf :=
  if total G.L = 0 then ([], 0, false, G) else
  let q := rfGo G.size G.L G.begun G.rest 2047
  let r := G.size - q.1.length
  if 0 < r then
    let i := enc (idleP (max r 7))
    (q.1 ++ i.take r, if q.2.1 = 2047 then (q.1.length : Int) else q.2.1, true, ⟨G.size, q.2.2.1, q.2.2.2, i.drop r⟩)
  else (q.1, q.2.1, true, ⟨G.size, q.2.2.1, q.2.2.2, []⟩)
theorem mem_total {x : List UInt8} {L : List (List UInt8)} (h : x ∈ L) : x.length ≤ total L := by
  obtain ⟨i, hi⟩ := List.mem_iff_getElem?.1 h
  have := total_take hi
  have := total_le L (i + 1)
  omega
theorem rfGo_full {size : Nat} {L : List (List UInt8)} {b : Bool} {f : List UInt8} {fi : Int} (h : size ≤ f.length) : rfGo size L b f fi = (f, fi, L, b) := by
  cases L with
  | nil => rfl
  | cons x l => rw [rfGo, if_neg (by omega)]
theorem rfGo_len {size : Nat} : ∀ (L : List (List UInt8)) (b : Bool) (f : List UInt8) (fi : Int), f.length ≤ size → (rfGo size L b f fi).1.length ≤ size := by
  intro L; induction L with
  | nil => intro b f fi h; exact h
  | cons x l ih =>
    intro b f fi h
    rw [rfGo]
    split
    · simp only
      split
      · simp only [List.length_append, List.length_take]; omega
      · apply ih; simp only [List.length_append, List.length_take]; omega
    · exact h
theorem rnext_ok {p : Nat} {ad : Option Addr} {c : Nat} {G : Rf} (hs : 32 ≤ G.size ∧ G.size ≤ 200) (hL : G.L.length ≤ 100000) (ht : total G.L ≤ 1000000) (hr : G.rest.length ≤ 7) : Fn Try.prog 50 #[P1 p 0] (rf2 p ad c G)
    (Ret fun v Q => ∃ ad1 c1, v = .tuple #[S (rfNext G).1, .int .i64 (rfNext G).2.1, .bool (rfNext G).2.2.1] ∧ Q = rf2 p ad1 c1 (rfNext G).2.2.2) := by
  have hwait := @rwait_ok p ad c G hL ht
  refine Fn.of (args := _) Try.func50 rfl Try.ntmps50 rfl ?_
  intro w0 g0
  refine CW.seq ?_
  refine CW.region ?_
  refine LW.v (ov_assign rfl) ?_
  refine LW.v (ov_assign rfl) ?_
  refine LW.v (ov_assign rfl) ?_
  refine LW.nil ?_
  refine KW.thenN ?_
  refine CW.seq ?_
  refine CW.seq ?_
  refine CW.region ?_
  refine LW.v (ov_move rfl) ?_
  refine LW.call [1, 2] (oc_fn cf52 rfl) rfl rfl rfl rfl (hwait) ?_
  rintro _ _ ⟨rfl, rfl⟩
  simp only [putBack, List.set_cons_succ, List.set_cons_zero, List.append_nil]
  refine LW.v (ov_eql rfl rfl) ?_
  refine LW.nil ?_
  refine KW.thenN ?_
  refine CW.condD (by rfl) (fun h => ?_) (fun h => ?_)
  · refine CW.seq ?_
    refine CW.region ?_
    refine LW.v (ov_assign rfl) ?_
    refine LW.v (ov_assign rfl) ?_
    refine LW.v (ov_assign rfl) ?_
    refine LW.nil ?_
    refine KW.thenN ?_
    refine CW.ret ?_
    refine KW.thenR ?_
    have hf : rfNext G = ([], 0, false, G) := by rw [rfNext, if_pos (by omega)]
    rw [hf]
    exact KW.retF (.cons (.tmp rfl) (.cons (.tmp rfl) (.cons (.tmp rfl) (.nil)))) [1, 2] rfl rfl (⟨_, _, rfl, rfl⟩)
  have hf : rfNext G = (if 0 < G.size - (rfGo G.size G.L G.begun G.rest 2047).1.length then
    ((rfGo G.size G.L G.begun G.rest 2047).1 ++ (enc (idleP (max (G.size - (rfGo G.size G.L G.begun G.rest 2047).1.length) 7))).take (G.size - (rfGo G.size G.L G.begun G.rest 2047).1.length), if (rfGo G.size G.L G.begun G.rest 2047).2.1 = 2047 then ((rfGo G.size G.L G.begun G.rest 2047).1.length : Int) else (rfGo G.size G.L G.begun G.rest 2047).2.1, true, ⟨G.size, (rfGo G.size G.L G.begun G.rest 2047).2.2.1, (rfGo G.size G.L G.begun G.rest 2047).2.2.2, (enc (idleP (max (G.size - (rfGo G.size G.L G.begun G.rest 2047).1.length) 7))).drop (G.size - (rfGo G.size G.L G.begun G.rest 2047).1.length)⟩)
  else ((rfGo G.size G.L G.begun G.rest 2047).1, (rfGo G.size G.L G.begun G.rest 2047).2.1, true, ⟨G.size, (rfGo G.size G.L G.begun G.rest 2047).2.2.1, (rfGo G.size G.L G.begun G.rest 2047).2.2.2, []⟩)) := by rw [rfNext, if_neg (by omega)]
  rw [hf]
  clear hf hwait h
  obtain ⟨size, L, begun, rest⟩ := G
  simp only at hs hL ht hr ⊢
  have hql := rfGo_len L begun rest 2047 (size := size) (by omega)
  generalize hq : rfGo size L begun rest 2047 = q at hql ⊢
  refine CW.skip ?_
  refine KW.thenN ?_
  refine CW.seq ?_
  refine CW.region ?_
  refine LW.v (ov_move rfl) ?_
  refine LW.v (ov_nilP rfl) ?_
  refine LW.v (ov_fieldAddr fo171_3 rfl) ?_
  refine LW.v (ov_loadR 1 ta9 rfl rfl rfl) ?_
  refine LW.v (ov_assign rfl) ?_
  refine LW.v (ov_assign rfl) ?_
  refine LW.nil ?_
  refine KW.thenN ?_
  refine CW.seq ?_
  refine CW.region ?_
  refine LW.v (ov_move rfl) ?_
  refine LW.v (ov_nilP rfl) ?_
  refine LW.v (ov_fieldAddr fo171_3 rfl) ?_
  refine LW.opU (ou_storeW ta9 rfl rfl (.one rfl) rfl rfl (.t (.t (.t (.h (.n))))) (.t (.h))) rfl ?_
  refine LW.nil ?_
  refine KW.thenN ?_
  refine CW.cut (fun env As => ∃ ad1 c1, env = [(0, P1 p 0), (5, S q.1), (6, .int .i64 q.2.1)] ∧ As = [ex g0, rrow p ad1 q.2.2.1.length c1 size q.2.2.2 [], rls ad1 q.2.2.1.length c1 q.2.2.1]) (fun M hM => ?_) ?_
  · refine CW.block ?_
    refine CW.loopW (fun r env As => ∃ (ad1 : Option Addr) (c1 : Nat) (L1 : List (List UInt8)) (b1 : Bool) (f1 : List UInt8) (fi1 : Int), (size - f1.length) + L1.length = r ∧ f1.length ≤ size ∧ L1.length ≤ 100000 ∧ (∀ x ∈ L1, x.length ≤ 1000000) ∧ rfGo size L1 b1 f1 fi1 = q ∧ env = [(0, P1 p 0), (5, S f1), (6, .int .i64 fi1)] ∧
      As = [ex g0, rrow p ad1 L1.length c1 size b1 [], rls ad1 L1.length c1 L1]) _ [0, 1, 2] ⟨ad, c, L, begun, rest, 2047, rfl, by omega, hL, fun x hx => Nat.le_trans (mem_total hx) ht, hq, rfl, rfl⟩ ⟨rfl, rfl, rfl, trivial⟩ rfl rfl ?_
    rintro r _ _ ⟨ad1, c1, L1, b1, f1, fi1, hm, hfl, hL1, hLx, hq1, rfl, rfl⟩
    clear hq hL ht hr
    refine CW.seq ?_
    refine CW.seq ?_
    refine CW.region ?_
    refine LW.v (ov_move rfl) ?_
    refine LW.v (ov_nilP rfl) ?_
    refine LW.v (ov_fieldAddr fo171_1 rfl) ?_
    refine LW.v (ov_loadR 1 ta22 rfl rfl rfl) ?_
    refine LW.v (ov_lenL so22 rfl) ?_
    refine LW.v (ov_gtr rfl rfl) ?_
    refine LW.v (ov_move rfl) ?_
    refine KW.splitD 27 rfl (fun g1 => ?_) (fun g1 => ?_)
    · obtain ⟨x, l, rfl⟩ : ∃ x l, L1 = x :: l := by
        cases L1 with
        | nil => simp at g1
        | cons x l => exact ⟨x, l, rfl⟩
      have hxl := hLx x (List.mem_cons_self ..)
      simp only [List.length_cons] at hm hL1
      refine LW.v (ov_move rfl) ?_
      refine LW.v (ov_lenS un9 rfl) ?_
      refine LW.v (ov_move rfl) ?_
      refine LW.v (ov_nilP rfl) ?_
      refine LW.v (ov_fieldAddr fo171_0 rfl) ?_
      refine LW.v (ov_loadR 1 ta3 rfl rfl rfl) ?_
      refine LW.v (ov_lss rfl rfl) ?_
      first | refine LW.v (ov_pickT rfl rfl) ?_ | refine LW.v (ov_pickF rfl rfl) ?_ | refine LW.v (ov_pick rfl rfl rfl) ?_
      refine LW.nil ?_
      refine KW.thenN ?_
      refine CW.condD (by rfl) (fun g2 => ?_) (fun g2 => ?_)
      · have hlt : f1.length < size := by omega
        rw [rfGo, if_pos hlt] at hq1
        simp only at hq1
        refine CW.skip ?_
        refine KW.thenN ?_
        refine CW.block ?_
        refine CW.cut (fun env As => env = [(0, P1 p 0), (5, S f1), (6, .int .i64 (if b1 = false ∧ fi1 = 2047 then (f1.length : Int) else fi1))] ∧ As = [ex g0, rrow p ad1 (l.length + 1) c1 size b1 [], rls ad1 (l.length + 1) c1 (x :: l)]) (fun M hM => ?_) ?_
        · cases b1 with
          | true =>
            refine CW.seq ?_
            refine CW.region ?_
            refine LW.v (ov_move rfl) ?_
            refine LW.v (ov_nilP rfl) ?_
            refine LW.v (ov_fieldAddr fo171_2 rfl) ?_
            refine LW.v (ov_loadR 1 ta4 rfl rfl rfl) ?_
            refine LW.v (ov_not rfl) ?_
            refine LW.v (ov_move rfl) ?_
            refine LW.skip rfl rfl ?_
            refine LW.skip rfl rfl ?_
            first | refine LW.v (ov_pickT rfl rfl) ?_ | refine LW.v (ov_pickF rfl rfl) ?_ | refine LW.v (ov_pick rfl rfl rfl) ?_
            refine LW.nil ?_
            refine KW.thenN ?_
            refine CW.condF rfl rfl ?_
            refine CW.skip ?_
            refine KW.thenN ?_
            exact KW.meet [0, 1, 2] hM ⟨rfl, rfl⟩ ⟨rfl, rfl, (by rw [if_neg (by simp)]; rfl), trivial⟩ rfl rfl
          | false =>
            refine CW.seq ?_
            refine CW.region ?_
            refine LW.v (ov_move rfl) ?_
            refine LW.v (ov_nilP rfl) ?_
            refine LW.v (ov_fieldAddr fo171_2 rfl) ?_
            refine LW.v (ov_loadR 1 ta4 rfl rfl rfl) ?_
            refine LW.v (ov_not rfl) ?_
            refine LW.v (ov_move rfl) ?_
            refine LW.v (ov_move rfl) ?_
            refine LW.v (ov_eql rfl rfl) ?_
            first | refine LW.v (ov_pickT rfl rfl) ?_ | refine LW.v (ov_pickF rfl rfl) ?_ | refine LW.v (ov_pick rfl rfl rfl) ?_
            refine LW.nil ?_
            refine KW.thenN ?_
            refine CW.condD (by rfl) (fun g3 => ?_) (fun g3 => ?_)
            · refine CW.region ?_
              refine LW.v (ov_move rfl) ?_
              refine LW.v (ov_lenS un9 rfl) ?_
              refine LW.v (ov_assign rfl) ?_
              refine LW.nil ?_
              refine KW.thenN ?_
              exact KW.meet [0, 1, 2] hM ⟨rfl, rfl⟩ ⟨rfl, rfl, (by rw [if_pos ⟨rfl, g3⟩]; rfl), trivial⟩ rfl rfl
            · refine CW.skip ?_
              refine KW.thenN ?_
              exact KW.meet [0, 1, 2] hM ⟨rfl, rfl⟩ ⟨rfl, rfl, (by rw [if_neg (fun q => g3 q.2)]; rfl), trivial⟩ rfl rfl
        rintro _ _ ⟨rfl, rfl⟩
        refine KW.ownC 2 rfl (fun q1 q2 q3 q4 => by cases q4) (fun b extra q1 q2 q3 q4 => ?_)
        subst q1
        generalize (if b1 = false ∧ fi1 = 2047 then (f1.length : Int) else fi1) = fi2 at hq1
        obtain ⟨n, hn⟩ : ∃ n, n = min x.length (size - f1.length) := ⟨_, rfl⟩
        rw [← hn] at hq1
        obtain ⟨off, ho⟩ : ∃ off, off = if c1 = 1 then 0 else 1 := ⟨_, rfl⟩
        have hlx : ((x :: l).map S ++ extra).length = c1 := by rw [q4, Nat.mul_one]
        have hcs : ∀ (k : Nat) (u : Value), (l.map S)[k]? = some u → ((x :: l).map S ++ extra)[off + k]? = some u := by
          intro k u hk
          have hkl := lt_of_get hk
          rw [List.length_map] at hkl
          rw [ho, if_neg (by omega)]
          rw [Nat.add_comm, List.map_cons, List.cons_append, List.getElem?_cons_succ, List.getElem?_append_left (by simpa using hkl)]; exact hk
        have hsl : (Value.slice (if c1 = 1 then some ⟨b, 0, none⟩ else (some (⟨b, 0, none⟩ : Addr)).map fun a => a.add (1 * 1)) (l.length + 1 - 1) (c1 - 1)) = Value.slice (some ⟨b, off, none⟩) l.length (c1 - 1) := by
          rw [ho]; split
          · rfl
          · simp only [Option.map_some, addr_add]; rfl
        have hone : ((l.map S).all fun u => u.oneCell') = true := by simp [S, Value.oneCell']
        have hLd : ∀ y ∈ x.drop n :: l, y.length ≤ 1000000 := by
          intro y hy
          rcases List.mem_cons.1 hy with rfl | hy
          · rw [List.length_drop]; omega
          · exact hLx y (List.mem_cons_of_mem _ hy)
        have htl : (x.take n).length = n := by rw [List.length_take]; omega
        refine CW.seq ?_
        refine CW.draw [1,2] rfl mixed rfl (ls := #[false, false, false, false, false, false, false, false, false, false, false, false, false, false, false, false]) (by kernel_rfl) ?_
        refine DW.tk 0 [1,2] rfl (ov_move rfl) ?_
        first | refine DW.tk 1 [1,2] rfl (ov_nilP rfl) ?_ | refine DW.tk 1 [1,2] rfl (ov_nilF rfl) ?_
        refine DW.tk 2 [1,2] rfl (ov_fieldAddr fo171_1 rfl) ?_
        refine DW.tk 3 [1,2] rfl (ov_loadR 0 ta22 rfl rfl rfl) ?_
        refine DW.tk 4 [1,2] rfl (ov_idxL (i := 0) so22 rfl rfl rfl (Nat.succ_pos _)) ?_
        refine DW.tk 5 [1,2] rfl (ov_loadR (v := S x) 1 ta9 rfl rfl rfl) ?_
        refine DW.tk 6 [1,2] rfl (ov_lenS un9 rfl) ?_
        refine DW.tk 7 [1,2] rfl (ov_move rfl) ?_
        first | refine DW.tk 8 [1,2] rfl (ov_nilP rfl) ?_ | refine DW.tk 8 [1,2] rfl (ov_nilF rfl) ?_
        refine DW.tk 9 [1,2] rfl (ov_fieldAddr fo171_0 rfl) ?_
        refine DW.tk 10 [1,2] rfl (ov_loadR 0 ta3 rfl rfl rfl) ?_
        refine DW.tk 11 [1,2] rfl (ov_move rfl) ?_
        refine DW.tk 12 [1,2] rfl (ov_lenS un9 rfl) ?_
        first | refine DW.tk 13 [1,2] rfl (ov_sub rfl rfl (by omega)) ?_ | refine DW.tk 13 [1,2] rfl (ov_subW rfl rfl) ?_
        refine DW.tk 14 [1,2] rfl (OpV.eq (ov_min rfl rfl) (congrArg (Value.int .i64) (show min (x.length : Int) ((size : Int) - (f1.length : Int)) = (n : Int) by omega))) ?_
        refine DW.tk 15 [1,2] rfl (ov_assign rfl) ?_
        refine DW.done (by kernel_rfl) ?_
        refine KW.thenN ?_
        refine CW.seq ?_
        refine CW.region ?_
        refine LW.v (ov_move rfl) ?_
        refine LW.v (ov_move rfl) ?_
        refine LW.v (ov_nilP rfl) ?_
        refine LW.v (ov_fieldAddr fo171_1 rfl) ?_
        refine LW.v (ov_loadR 1 ta22 rfl rfl rfl) ?_
        refine LW.v (ov_idxL (i := 0) so22 rfl rfl rfl (Nat.succ_pos _)) ?_
        refine LW.v (ov_loadR (v := S x) 2 ta9 rfl rfl rfl) ?_
        refine LW.v (ov_move rfl) ?_
        refine LW.v (OpV.eq (ov_ssHi un9 rfl rfl (by omega)) (congrArg S (show _ = x.take n by rw [Int.toNat_natCast]))) ?_
        refine LW.v (ov_strAdd rfl rfl (by omega)) ?_
        refine LW.v (ov_assign rfl) ?_
        refine LW.nil ?_
        refine KW.thenN ?_
        refine CW.seq ?_
        refine CW.region ?_
        refine LW.v (ov_move rfl) ?_
        refine LW.v (ov_move rfl) ?_
        refine LW.v (ov_nilP rfl) ?_
        refine LW.v (ov_fieldAddr fo171_1 rfl) ?_
        refine LW.v (ov_loadR 1 ta22 rfl rfl rfl) ?_
        refine LW.v (ov_idxL (i := 0) so22 rfl rfl rfl (Nat.succ_pos _)) ?_
        refine LW.v (ov_loadR (v := S x) 2 ta9 rfl rfl rfl) ?_
        refine LW.v (ov_lenS un9 rfl) ?_
        refine LW.v (ov_lss rfl rfl) ?_
        refine LW.nil ?_
        refine KW.thenN ?_
        refine CW.condD (by rfl) (fun g4 => ?_) (fun g4 => ?_)
        · rw [if_pos (by omega)] at hq1
          refine CW.seq ?_
          refine CW.draw [] rfl mixed rfl (ls := #[false, false, false, false, false, false, false, false, false, false, false, false, false, false, false, false, false, false, false]) (by kernel_rfl) ?_
          refine DW.tk 0 [] rfl (ov_move rfl) ?_
          refine DW.tk 1 [] rfl (ov_move rfl) ?_
          first | refine DW.tk 2 [] rfl (ov_nilP rfl) ?_ | refine DW.tk 2 [] rfl (ov_nilF rfl) ?_
          refine DW.tk 3 [] rfl (ov_fieldAddr fo171_1 rfl) ?_
          refine DW.tk 7 [] rfl (ov_move rfl) ?_
          refine DW.tk 10 [] rfl (ov_move rfl) ?_
          first | refine DW.tk 11 [] rfl (ov_nilP rfl) ?_ | refine DW.tk 11 [] rfl (ov_nilF rfl) ?_
          refine DW.tk 12 [] rfl (ov_fieldAddr fo171_1 rfl) ?_
          refine DW.all2 4 13 (by kernel_rfl) ?_ ?_
          · refine DO.opV [] rfl (ov_loadR 1 ta22 rfl rfl rfl) rfl rfl rfl rfl rfl ?_
            refine DW.tk 5 [] rfl (ov_idxL (i := 0) so22 rfl rfl rfl (Nat.succ_pos _)) ?_
            refine DW.all2 6 13 (by kernel_rfl) ?_ ?_
            · refine DO.opV [] rfl (ov_loadR (v := S x) 2 ta9 rfl rfl rfl) rfl rfl rfl rfl rfl ?_
              refine DW.tk 8 [] rfl (OpV.eq (ov_ssLo un9 rfl rfl (by omega)) (congrArg S (show _ = x.drop n by rw [Int.toNat_natCast]))) ?_
              refine DW.all2 9 13 (by kernel_rfl) ?_ ?_
              · refine DO.opX [] rfl (ox_bs1 so22 zc9 rfl (.one rfl) rfl rfl (by decide) (fun _ => (.c (.c (.c (.n)))))) rfl rfl (fun _ => rfl) (fun _ => rfl) rfl (fun a90 c90 => ?_)
                refine DW.all1 13 (by kernel_rfl) ?_
                refine DO.opV [] rfl (ov_loadR 1 ta22 rfl rfl rfl) rfl rfl rfl rfl rfl ?_
                refine DW.tk 14 [] rfl (OpV.eq (ov_slSlice (i := 1) (j := l.length + 1) so22 rfl ⟨_, _, rfl, rfl⟩ rfl (by omega) (by omega)) hsl) ?_
                refine DW.all1 15 (by kernel_rfl) ?_
                refine DO.opX [] rfl (ox_appCells (ys := l.map S) 2 so22 zo9 rfl so22 rfl rfl rfl (by simp) hcs hone (by omega) (by omega) (by omega) (fun _ => (.t (.t (.t (.h)))))) rfl rfl (fun _ => rfl) (fun _ => rfl) rfl (fun a96 c96 => ?_)
                first | refine DW.tk 16 [] rfl (ov_nilP rfl) ?_ | refine DW.tk 16 [] rfl (ov_nilF rfl) ?_
                refine DW.tk 17 [] rfl (ov_fieldAddr fo171_1 rfl) ?_
                refine DW.all1 18 (by kernel_rfl) ?_
                refine DO.opU [] rfl (ou_storeW ta22 rfl rfl (.one rfl) rfl rfl (.t (.h (.n))) (.t (.h))) rfl rfl rfl rfl ?_
                refine DW.done (by kernel_rfl) ?_
                refine KW.thenN ?_
                refine CW.region ?_
                refine LW.v (ov_move rfl) ?_
                refine LW.v (ov_nilP rfl) ?_
                refine LW.v (ov_fieldAddr fo171_2 rfl) ?_
                refine LW.opU (ou_storeW ta4 rfl rfl (.one rfl) rfl rfl (.t (.t (.h (.n)))) (.t (.h))) rfl ?_
                refine LW.nil ?_
                refine KW.blockN ?_
                exact KW.again _ [0, 1, 3] (by simp only [List.length_append, List.length_cons, htl]; omega) ⟨_, _, x.drop n :: l, true, f1 ++ x.take n, fi2, rfl, by rw [List.length_append, htl]; omega, by simpa using hL1, hLd, by rw [rfGo_full (by rw [List.length_append, htl]; omega)]; exact hq1, rfl, rfl⟩ ⟨rfl, rfl, rfl, trivial⟩ rfl (by rw [Nat.add_comm 1 l.length]; rfl)
              · refine DO.opV [] rfl (ov_loadR 1 ta22 rfl rfl rfl) rfl rfl rfl rfl rfl ?_
                refine DW.tk 14 [] rfl (OpV.eq (ov_slSlice (i := 1) (j := l.length + 1) so22 rfl ⟨_, _, rfl, rfl⟩ rfl (by omega) (by omega)) hsl) ?_
                refine DW.all1 9 (by kernel_rfl) ?_
                refine DO.opX [] rfl (ox_bs1 so22 zc9 rfl (.one rfl) rfl rfl (by decide) (fun _ => (.c (.c (.c (.n)))))) rfl rfl (fun _ => rfl) (fun _ => rfl) rfl (fun a90 c90 => ?_)
                refine DW.all1 15 (by kernel_rfl) ?_
                refine DO.opX [] rfl (ox_appCells (ys := l.map S) 2 so22 zo9 rfl so22 rfl rfl rfl (by simp) hcs hone (by omega) (by omega) (by omega) (fun _ => (.t (.t (.t (.h)))))) rfl rfl (fun _ => rfl) (fun _ => rfl) rfl (fun a96 c96 => ?_)
                first | refine DW.tk 16 [] rfl (ov_nilP rfl) ?_ | refine DW.tk 16 [] rfl (ov_nilF rfl) ?_
                refine DW.tk 17 [] rfl (ov_fieldAddr fo171_1 rfl) ?_
                refine DW.all1 18 (by kernel_rfl) ?_
                refine DO.opU [] rfl (ou_storeW ta22 rfl rfl (.one rfl) rfl rfl (.t (.h (.n))) (.t (.h))) rfl rfl rfl rfl ?_
                refine DW.done (by kernel_rfl) ?_
                refine KW.thenN ?_
                refine CW.region ?_
                refine LW.v (ov_move rfl) ?_
                refine LW.v (ov_nilP rfl) ?_
                refine LW.v (ov_fieldAddr fo171_2 rfl) ?_
                refine LW.opU (ou_storeW ta4 rfl rfl (.one rfl) rfl rfl (.t (.t (.h (.n)))) (.t (.h))) rfl ?_
                refine LW.nil ?_
                refine KW.blockN ?_
                exact KW.again _ [0, 1, 3] (by simp only [List.length_append, List.length_cons, htl]; omega) ⟨_, _, x.drop n :: l, true, f1 ++ x.take n, fi2, rfl, by rw [List.length_append, htl]; omega, by simpa using hL1, hLd, by rw [rfGo_full (by rw [List.length_append, htl]; omega)]; exact hq1, rfl, rfl⟩ ⟨rfl, rfl, rfl, trivial⟩ rfl (by rw [Nat.add_comm 1 l.length]; rfl)
            · refine DO.opV [] rfl (ov_loadR 1 ta22 rfl rfl rfl) rfl rfl rfl rfl rfl ?_
              refine DW.tk 14 [] rfl (OpV.eq (ov_slSlice (i := 1) (j := l.length + 1) so22 rfl ⟨_, _, rfl, rfl⟩ rfl (by omega) (by omega)) hsl) ?_
              refine DW.all1 6 (by kernel_rfl) ?_
              refine DO.opV [] rfl (ov_loadR (v := S x) 2 ta9 rfl rfl rfl) rfl rfl rfl rfl rfl ?_
              refine DW.tk 8 [] rfl (OpV.eq (ov_ssLo un9 rfl rfl (by omega)) (congrArg S (show _ = x.drop n by rw [Int.toNat_natCast]))) ?_
              refine DW.all1 9 (by kernel_rfl) ?_
              refine DO.opX [] rfl (ox_bs1 so22 zc9 rfl (.one rfl) rfl rfl (by decide) (fun _ => (.c (.c (.c (.n)))))) rfl rfl (fun _ => rfl) (fun _ => rfl) rfl (fun a90 c90 => ?_)
              refine DW.all1 15 (by kernel_rfl) ?_
              refine DO.opX [] rfl (ox_appCells (ys := l.map S) 2 so22 zo9 rfl so22 rfl rfl rfl (by simp) hcs hone (by omega) (by omega) (by omega) (fun _ => (.t (.t (.t (.h)))))) rfl rfl (fun _ => rfl) (fun _ => rfl) rfl (fun a96 c96 => ?_)
              first | refine DW.tk 16 [] rfl (ov_nilP rfl) ?_ | refine DW.tk 16 [] rfl (ov_nilF rfl) ?_
              refine DW.tk 17 [] rfl (ov_fieldAddr fo171_1 rfl) ?_
              refine DW.all1 18 (by kernel_rfl) ?_
              refine DO.opU [] rfl (ou_storeW ta22 rfl rfl (.one rfl) rfl rfl (.t (.h (.n))) (.t (.h))) rfl rfl rfl rfl ?_
              refine DW.done (by kernel_rfl) ?_
              refine KW.thenN ?_
              refine CW.region ?_
              refine LW.v (ov_move rfl) ?_
              refine LW.v (ov_nilP rfl) ?_
              refine LW.v (ov_fieldAddr fo171_2 rfl) ?_
              refine LW.opU (ou_storeW ta4 rfl rfl (.one rfl) rfl rfl (.t (.t (.h (.n)))) (.t (.h))) rfl ?_
              refine LW.nil ?_
              refine KW.blockN ?_
              exact KW.again _ [0, 1, 3] (by simp only [List.length_append, List.length_cons, htl]; omega) ⟨_, _, x.drop n :: l, true, f1 ++ x.take n, fi2, rfl, by rw [List.length_append, htl]; omega, by simpa using hL1, hLd, by rw [rfGo_full (by rw [List.length_append, htl]; omega)]; exact hq1, rfl, rfl⟩ ⟨rfl, rfl, rfl, trivial⟩ rfl (by rw [Nat.add_comm 1 l.length]; rfl)
          · refine DO.opV [] rfl (ov_loadR 1 ta22 rfl rfl rfl) rfl rfl rfl rfl rfl ?_
            refine DW.tk 14 [] rfl (OpV.eq (ov_slSlice (i := 1) (j := l.length + 1) so22 rfl ⟨_, _, rfl, rfl⟩ rfl (by omega) (by omega)) hsl) ?_
            refine DW.all1 4 (by kernel_rfl) ?_
            refine DO.opV [] rfl (ov_loadR 1 ta22 rfl rfl rfl) rfl rfl rfl rfl rfl ?_
            refine DW.tk 5 [] rfl (ov_idxL (i := 0) so22 rfl rfl rfl (Nat.succ_pos _)) ?_
            refine DW.all1 6 (by kernel_rfl) ?_
            refine DO.opV [] rfl (ov_loadR (v := S x) 2 ta9 rfl rfl rfl) rfl rfl rfl rfl rfl ?_
            refine DW.tk 8 [] rfl (OpV.eq (ov_ssLo un9 rfl rfl (by omega)) (congrArg S (show _ = x.drop n by rw [Int.toNat_natCast]))) ?_
            refine DW.all1 9 (by kernel_rfl) ?_
            refine DO.opX [] rfl (ox_bs1 so22 zc9 rfl (.one rfl) rfl rfl (by decide) (fun _ => (.c (.c (.c (.n)))))) rfl rfl (fun _ => rfl) (fun _ => rfl) rfl (fun a90 c90 => ?_)
            refine DW.all1 15 (by kernel_rfl) ?_
            refine DO.opX [] rfl (ox_appCells (ys := l.map S) 2 so22 zo9 rfl so22 rfl rfl rfl (by simp) hcs hone (by omega) (by omega) (by omega) (fun _ => (.t (.t (.t (.h)))))) rfl rfl (fun _ => rfl) (fun _ => rfl) rfl (fun a96 c96 => ?_)
            first | refine DW.tk 16 [] rfl (ov_nilP rfl) ?_ | refine DW.tk 16 [] rfl (ov_nilF rfl) ?_
            refine DW.tk 17 [] rfl (ov_fieldAddr fo171_1 rfl) ?_
            refine DW.all1 18 (by kernel_rfl) ?_
            refine DO.opU [] rfl (ou_storeW ta22 rfl rfl (.one rfl) rfl rfl (.t (.h (.n))) (.t (.h))) rfl rfl rfl rfl ?_
            refine DW.done (by kernel_rfl) ?_
            refine KW.thenN ?_
            refine CW.region ?_
            refine LW.v (ov_move rfl) ?_
            refine LW.v (ov_nilP rfl) ?_
            refine LW.v (ov_fieldAddr fo171_2 rfl) ?_
            refine LW.opU (ou_storeW ta4 rfl rfl (.one rfl) rfl rfl (.t (.t (.h (.n)))) (.t (.h))) rfl ?_
            refine LW.nil ?_
            refine KW.blockN ?_
            exact KW.again _ [0, 1, 3] (by simp only [List.length_append, List.length_cons, htl]; omega) ⟨_, _, x.drop n :: l, true, f1 ++ x.take n, fi2, rfl, by rw [List.length_append, htl]; omega, by simpa using hL1, hLd, by rw [rfGo_full (by rw [List.length_append, htl]; omega)]; exact hq1, rfl, rfl⟩ ⟨rfl, rfl, rfl, trivial⟩ rfl (by rw [Nat.add_comm 1 l.length]; rfl)
        · rw [if_neg (by omega)] at hq1
          refine CW.seq ?_
          refine CW.region ?_
          refine LW.v (ov_move rfl) ?_
          refine LW.opX (ox_bs0 so22 (fun _ => (.c (.c (.c (.n)))))) rfl rfl (fun a103 c103 => ?_)
          refine LW.v (ov_move rfl) ?_
          refine LW.v (ov_nilP rfl) ?_
          refine LW.v (ov_fieldAddr fo171_1 rfl) ?_
          refine LW.v (ov_loadR 1 ta22 rfl rfl rfl) ?_
          refine LW.v (OpV.eq (ov_slSlice (i := 1) (j := l.length + 1) so22 rfl ⟨_, _, rfl, rfl⟩ rfl (by omega) (by omega)) hsl) ?_
          refine LW.opX (ox_appCells (ys := l.map S) 2 so22 zo9 rfl so22 rfl rfl rfl (by simp) hcs hone (by omega) (by omega) (by omega) (fun _ => (.t (.t (.t (.h)))))) rfl rfl (fun a109 c109 => ?_)
          refine LW.v (ov_nilP rfl) ?_
          refine LW.v (ov_fieldAddr fo171_1 rfl) ?_
          refine LW.opU (ou_storeW ta22 rfl rfl (.one rfl) rfl rfl (.t (.h (.n))) (.t (.h))) rfl ?_
          refine LW.nil ?_
          refine KW.thenN ?_
          refine CW.region ?_
          refine LW.v (ov_move rfl) ?_
          refine LW.v (ov_nilP rfl) ?_
          refine LW.v (ov_fieldAddr fo171_2 rfl) ?_
          refine LW.opU (ou_storeW ta4 rfl rfl (.one rfl) rfl rfl (.t (.t (.h (.n)))) (.t (.h))) rfl ?_
          refine LW.nil ?_
          refine KW.blockN ?_
          exact KW.again _ [0, 1, 3] (by simp only [List.length_append, htl]; omega) ⟨_, _, l, false, f1 ++ x.take n, fi2, rfl, by rw [List.length_append, htl]; omega, by omega, fun y hy => hLx y (List.mem_cons_of_mem _ hy), hq1, rfl, rfl⟩ ⟨rfl, rfl, rfl, trivial⟩ rfl (by rw [Nat.zero_add]; rfl)
      · rw [rfGo_full (by omega)] at hq1
        subst hq1
        refine CW.exit ?_
        refine KW.thenX ?_
        refine KW.thenX ?_
        refine KW.hit ?_
        refine KW.thenN ?_
        exact KW.meet [0, 1, 2] hM ⟨_, _, rfl, rfl⟩ ⟨rfl, rfl, rfl, trivial⟩ rfl rfl
    · obtain rfl : L1 = [] := List.eq_nil_of_length_eq_zero (by omega)
      change (f1, fi1, [], b1) = q at hq1
      subst hq1
      refine LW.skip rfl rfl ?_
      refine LW.skip rfl rfl ?_
      refine LW.skip rfl rfl ?_
      refine LW.skip rfl rfl ?_
      refine LW.skip rfl rfl ?_
      refine LW.skip rfl rfl ?_
      refine LW.skip rfl rfl ?_
      first | refine LW.v (ov_pickT rfl rfl) ?_ | refine LW.v (ov_pickF rfl rfl) ?_ | refine LW.v (ov_pick rfl rfl rfl) ?_
      refine LW.nil ?_
      refine KW.thenN ?_
      refine CW.condF rfl rfl ?_
      refine CW.exit ?_
      refine KW.thenX ?_
      refine KW.thenX ?_
      refine KW.hit ?_
      refine KW.thenN ?_
      exact KW.meet [0, 1, 2] hM ⟨_, _, rfl, rfl⟩ ⟨rfl, rfl, rfl, trivial⟩ rfl rfl
  rintro _ _ ⟨ad1, c1, rfl, rfl⟩
  clear hq
  obtain ⟨qf, qi, qL, qb⟩ := q
  simp only at hql ⊢
  refine CW.seq ?_
  refine CW.region ?_
  refine LW.v (ov_move rfl) ?_
  refine LW.v (ov_nilP rfl) ?_
  refine LW.v (ov_fieldAddr fo171_0 rfl) ?_
  refine LW.v (ov_loadR 1 ta3 rfl rfl rfl) ?_
  refine LW.v (ov_move rfl) ?_
  refine LW.v (ov_lenS un9 rfl) ?_
  first | refine LW.v (ov_sub rfl rfl (by omega)) ?_ | refine LW.v (ov_subW rfl rfl) ?_
  refine LW.v (ov_assign rfl) ?_
  refine LW.nil ?_
  refine KW.thenN ?_
  refine CW.seq ?_
  refine CW.seq ?_
  refine CW.region ?_
  refine LW.v (ov_move rfl) ?_
  refine LW.v (ov_gtr rfl rfl) ?_
  refine LW.nil ?_
  refine KW.thenN ?_
  refine CW.condD (by rfl) (fun g => ?_) (fun g => ?_)
  · rw [if_pos (by omega)]
    obtain ⟨r, hr⟩ : ∃ r, r = size - qf.length := ⟨_, rfl⟩
    obtain ⟨m, hm⟩ : ∃ m, m = max r 7 := ⟨_, rfl⟩
    rw [← hr, ← hm]
    have er : ((size : Int) - (qf.length : Int)) = (r : Int) := by omega
    have em : max ((size : Int) - (qf.length : Int)) 7 = (m : Int) := by omega
    have hil := idle_len (n := m) (by omega)
    refine CW.seq ?_
    refine CW.seq ?_
    refine CW.region ?_
    refine LW.v (ov_move rfl) ?_
    refine LW.v (ov_eql rfl rfl) ?_
    refine LW.nil ?_
    refine KW.thenN ?_
    by_cases hfi : qi = 2047
    · rw [if_pos hfi]
      refine CW.condT rfl (decide_eq_true hfi) ?_
      refine CW.region ?_
      refine LW.v (ov_move rfl) ?_
      refine LW.v (ov_lenS un9 rfl) ?_
      refine LW.v (ov_assign rfl) ?_
      refine LW.nil ?_
      refine KW.thenN ?_
      refine CW.seq ?_
      refine CW.region ?_
      refine LW.v (ov_move rfl) ?_
      refine LW.v (OpV.eq (ov_max rfl rfl) (congrArg (Value.int .i64) em)) ?_
      refine LW.call [] (oc_fn cf86 rfl) rfl rfl rfl rfl (RIdle_ok (n := m) (by omega) (by omega)) ?_
      rintro _ _ ⟨rfl, rfl⟩
      simp only [putBack, List.append_nil]
      refine LW.v (ov_move rfl) ?_
      refine LW.v (ov_extract rfl rfl) ?_
      refine LW.v (ov_extract rfl rfl) ?_
      refine LW.v (ov_assign rfl) ?_
      refine LW.v (ov_assign rfl) ?_
      refine LW.nil ?_
      refine KW.thenN ?_
      refine CW.seq ?_
      refine CW.region ?_
      refine LW.v (ov_move rfl) ?_
      refine LW.v (ov_move rfl) ?_
      refine LW.v (ov_move rfl) ?_
      refine LW.v (OpV.eq (ov_ssHi un9 rfl rfl (by omega)) (congrArg S (show _ = (enc (idleP m)).take r by rw [er, Int.toNat_natCast]))) ?_
      refine LW.v (ov_strAdd rfl rfl (by rw [List.length_take]; omega)) ?_
      refine LW.v (ov_assign rfl) ?_
      refine LW.nil ?_
      refine KW.thenN ?_
      refine CW.region ?_
      refine LW.v (ov_move rfl) ?_
      refine LW.v (ov_move rfl) ?_
      refine LW.v (ov_move rfl) ?_
      refine LW.v (OpV.eq (ov_ssLo un9 rfl rfl (by omega)) (congrArg S (show _ = (enc (idleP m)).drop r by rw [er, Int.toNat_natCast]))) ?_
      refine LW.v (ov_nilP rfl) ?_
      refine LW.v (ov_fieldAddr fo171_3 rfl) ?_
      refine LW.opU (ou_storeW ta9 rfl rfl (.one rfl) rfl rfl (.t (.t (.t (.h (.n))))) (.t (.h))) rfl ?_
      refine LW.nil ?_
      refine KW.thenN ?_
      refine CW.seq ?_
      refine CW.region ?_
      refine LW.v (ov_move rfl) ?_
      refine LW.v (ov_move rfl) ?_
      refine LW.v (ov_assign rfl) ?_
      refine LW.v (ov_assign rfl) ?_
      refine LW.v (ov_assign rfl) ?_
      refine LW.nil ?_
      refine KW.thenN ?_
      refine CW.ret ?_
      exact KW.retF (.cons (.tmp rfl) (.cons (.tmp rfl) (.cons (.tmp rfl) (.nil)))) [1, 2] rfl rfl (⟨_, _, rfl, rfl⟩)
    · rw [if_neg hfi]
      refine CW.condF rfl (decide_eq_false hfi) ?_
      refine CW.skip ?_
      refine KW.thenN ?_
      refine CW.seq ?_
      refine CW.region ?_
      refine LW.v (ov_move rfl) ?_
      refine LW.v (OpV.eq (ov_max rfl rfl) (congrArg (Value.int .i64) em)) ?_
      refine LW.call [] (oc_fn cf86 rfl) rfl rfl rfl rfl (RIdle_ok (n := m) (by omega) (by omega)) ?_
      rintro _ _ ⟨rfl, rfl⟩
      simp only [putBack, List.append_nil]
      refine LW.v (ov_move rfl) ?_
      refine LW.v (ov_extract rfl rfl) ?_
      refine LW.v (ov_extract rfl rfl) ?_
      refine LW.v (ov_assign rfl) ?_
      refine LW.v (ov_assign rfl) ?_
      refine LW.nil ?_
      refine KW.thenN ?_
      refine CW.seq ?_
      refine CW.region ?_
      refine LW.v (ov_move rfl) ?_
      refine LW.v (ov_move rfl) ?_
      refine LW.v (ov_move rfl) ?_
      refine LW.v (OpV.eq (ov_ssHi un9 rfl rfl (by omega)) (congrArg S (show _ = (enc (idleP m)).take r by rw [er, Int.toNat_natCast]))) ?_
      refine LW.v (ov_strAdd rfl rfl (by rw [List.length_take]; omega)) ?_
      refine LW.v (ov_assign rfl) ?_
      refine LW.nil ?_
      refine KW.thenN ?_
      refine CW.region ?_
      refine LW.v (ov_move rfl) ?_
      refine LW.v (ov_move rfl) ?_
      refine LW.v (ov_move rfl) ?_
      refine LW.v (OpV.eq (ov_ssLo un9 rfl rfl (by omega)) (congrArg S (show _ = (enc (idleP m)).drop r by rw [er, Int.toNat_natCast]))) ?_
      refine LW.v (ov_nilP rfl) ?_
      refine LW.v (ov_fieldAddr fo171_3 rfl) ?_
      refine LW.opU (ou_storeW ta9 rfl rfl (.one rfl) rfl rfl (.t (.t (.t (.h (.n))))) (.t (.h))) rfl ?_
      refine LW.nil ?_
      refine KW.thenN ?_
      refine CW.seq ?_
      refine CW.region ?_
      refine LW.v (ov_move rfl) ?_
      refine LW.v (ov_move rfl) ?_
      refine LW.v (ov_assign rfl) ?_
      refine LW.v (ov_assign rfl) ?_
      refine LW.v (ov_assign rfl) ?_
      refine LW.nil ?_
      refine KW.thenN ?_
      refine CW.ret ?_
      exact KW.retF (.cons (.tmp rfl) (.cons (.tmp rfl) (.cons (.tmp rfl) (.nil)))) [1, 2] rfl rfl (⟨_, _, rfl, rfl⟩)
  · rw [if_neg (by omega)]
    refine CW.skip ?_
    refine KW.thenN ?_
    refine CW.seq ?_
    refine CW.region ?_
    refine LW.v (ov_move rfl) ?_
    refine LW.v (ov_move rfl) ?_
    refine LW.v (ov_assign rfl) ?_
    refine LW.v (ov_assign rfl) ?_
    refine LW.v (ov_assign rfl) ?_
    refine LW.nil ?_
    refine KW.thenN ?_
    refine CW.ret ?_
    exact KW.retF (.cons (.tmp rfl) (.cons (.tmp rfl) (.cons (.tmp rfl) (.nil)))) [1, 2] rfl rfl (⟨_, _, rfl, rfl⟩)
end Sx
end Go.Proofs.Ytdgphamhpjnmpaa

/- Plain: fillers and their reference agree. -/
namespace Go.Proofs.Ytdgphamhpjnmpaa
namespace Sx

def posL : Nat → List (List UInt8) → List Int
  | _, [] => []
  | o, x :: l => (o : Int) :: posL (o + x.length) l
def stL (o : Nat) (L : List (List UInt8)) (b : Bool) : List Int := if b = true then (posL o L).tail else posL o L
theorem total_cons (x : List UInt8) (l : List (List UInt8)) : total (x :: l) = x.length + total l := by simp [total]
theorem total_snoc (L : List (List UInt8)) (x : List UInt8) : total (L ++ [x]) = total L + x.length := by
  rw [total, total, List.flatten_append, List.length_append]; simp
theorem posL_len : ∀ (L : List (List UInt8)) (o : Nat), (posL o L).length = L.length := by
  intro L; induction L with
  | nil => intro o; rfl
  | cons x l ih => intro o; simp [posL, ih]
theorem posL_app : ∀ (L : List (List UInt8)) (o : Nat) (x : List UInt8), posL o (L ++ [x]) = posL o L ++ [((o + total L : Nat) : Int)] := by
  intro L; induction L with
  | nil => intro o x; simp [posL, total]
  | cons y l ih => intro o x; simp only [List.cons_append, posL, ih, total_cons, Nat.add_assoc]
theorem posL_ge : ∀ (L : List (List UInt8)) (o : Nat), ∀ a ∈ posL o L, (o : Int) ≤ a := by
  intro L; induction L with
  | nil => intro o a h; cases h
  | cons x l ih =>
    intro o a h
    rcases List.mem_cons.1 h with rfl | h
    · exact Int.le_refl _
    · have := ih _ a h; omega
theorem posL_lt : ∀ (L : List (List UInt8)) (o : Nat), (∀ x ∈ L, x ≠ []) → ∀ a ∈ posL o L, a < ((o + total L : Nat) : Int) := by
  intro L; induction L with
  | nil => intro o _ a h; cases h
  | cons x l ih =>
    intro o hne a h
    have hx : 0 < x.length := List.length_pos_iff.2 (hne x (List.mem_cons_self ..))
    rw [total_cons]
    rcases List.mem_cons.1 h with rfl | h
    · omega
    · have := ih _ (fun y hy => hne y (List.mem_cons_of_mem _ hy)) a h; omega
theorem posL_shift : ∀ (L : List (List UInt8)) (o s : Nat), (posL (o + s) L).map (fun a => a - (s : Int)) = posL o L := by
  intro L; induction L with
  | nil => intro o s; rfl
  | cons x l ih =>
    intro o s
    simp only [posL, List.map_cons]
    rw [show o + s + x.length = (o + x.length) + s by omega, ih]
    congr 1; omega
theorem stL_mem {o : Nat} {L : List (List UInt8)} {b : Bool} {a : Int} (h : a ∈ stL o L b) : a ∈ posL o L := by
  unfold stL at h
  split at h
  · exact List.mem_of_mem_tail h
  · exact h
theorem stL_len (o : Nat) (L : List (List UInt8)) (b : Bool) : (stL o L b).length ≤ L.length := by
  unfold stL
  split
  · rw [List.length_tail, posL_len]; omega
  · rw [posL_len]; omega
theorem stL_shift (L : List (List UInt8)) (s : Nat) (b : Bool) : dropB s (stL s L b) = stL 0 L b := by
  have hf : (stL s L b).filter (fun a => decide ((s : Int) ≤ a)) = stL s L b := by
    rw [List.filter_eq_self]
    intro a ha
    exact decide_eq_true (posL_ge L s a (stL_mem ha))
  rw [dropB, hf]
  have h0 := posL_shift L 0 s
  rw [Nat.zero_add] at h0
  unfold stL
  split
  · rw [List.map_tail, h0]
  · exact h0
theorem total_ne : ∀ (L : List (List UInt8)), (∀ x ∈ L, x ≠ []) → L.length ≤ total L := by
  intro L; induction L with
  | nil => intro _; simp
  | cons x l ih =>
    intro hne
    have hx : 0 < x.length := List.length_pos_iff.2 (hne x (List.mem_cons_self ..))
    have := ih fun y hy => hne y (List.mem_cons_of_mem _ hy)
    rw [total_cons, List.length_cons]; omega

structure FR (F : Fl) (G : Rf) : Prop where
  size : F.size = G.size
  bytes : F.bytes = G.rest ++ G.L.flatten
  idle : F.idle = G.rest.length
  starts : F.starts = stL G.rest.length G.L G.begun
  ne : ∀ x ∈ G.L, x ≠ []
  beg : G.begun = true → G.L ≠ []
  tot : total G.L ≤ 65536
  rl : G.rest.length ≤ 6
  sz : 32 ≤ G.size ∧ G.size ≤ 200
theorem FR.blen {F : Fl} {G : Rf} (h : FR F G) : F.bytes.length = G.rest.length + total G.L := by rw [h.bytes, List.length_append]; rfl
theorem FR.ok {F : Fl} {G : Rf} (h : FR F G) : F.ok := by
  have hb := h.blen
  have hr := h.rl
  have ht := h.tot
  have hn := total_ne _ h.ne
  refine ⟨by rw [h.size]; exact h.sz, ⟨by rw [h.idle]; omega, by rw [h.idle]; omega⟩, by rw [h.idle]; omega, ?_, fun a ha => ?_⟩
  · rw [h.starts]; have := stL_len G.rest.length G.L G.begun; omega
  · rw [h.starts] at ha
    have h1 := posL_ge _ _ a (stL_mem ha)
    have h2 := posL_lt _ _ h.ne a (stL_mem ha)
    omega
theorem FR.new {s : Nat} (hs : 32 ≤ s ∧ s ≤ 200) : FR ⟨[], [], s, 0⟩ ⟨s, [], false, []⟩ := ⟨rfl, rfl, rfl, rfl, (by intro x h; cases h), (by intro h; cases h), by simp [total], by simp, hs⟩
theorem FR.clear {F : Fl} {G : Rf} (h : FR F G) : FR ⟨[], [], F.size, 0⟩ (rfClear G) := by
  have := FR.new h.sz
  rw [h.size]; exact this
theorem FR.wait {F : Fl} {G : Rf} (h : FR F G) : (F.bytes.length : Int) - F.idle = total G.L := by have := h.blen; have := h.idle; omega
theorem FR.add {F : Fl} {G : Rf} (h : FR F G) (l : List UInt8) : (flAdd F l).2 = (rfAdd G l).2 ∧ FR (flAdd F l).1 (rfAdd G l).1 := by
  have hb := h.blen
  have hi := h.idle
  have hgl := @getK_len l
  unfold flAdd rfAdd
  by_cases h1 : (getK l).2 ≠ 0 ∨ (getK l).1.apid = 2047
  · rw [if_pos h1, if_pos h1]; exact ⟨rfl, h⟩
  · rw [if_neg h1, if_neg h1]
    have hl := hgl (Decidable.of_not_not fun q => h1 (.inl q))
    by_cases h2 : total G.L + l.length > 65536
    · rw [if_pos (by omega), if_pos h2]; exact ⟨rfl, h⟩
    · rw [if_neg (by omega), if_neg h2]
      refine ⟨rfl, h.size, ?_, h.idle, ?_, ?_, ?_, ?_, h.rl, h.sz⟩
      · simp only; rw [h.bytes, List.flatten_append]; simp
      · simp only
        rw [h.starts, hb]
        unfold stL
        split
        · rename_i hbg
          have hL := h.beg hbg
          rw [posL_app, List.tail_append_of_ne_nil (fun q => hL (List.eq_nil_of_length_eq_zero (by rw [← posL_len G.L G.rest.length, q]; rfl)))]
        · rw [posL_app]
      · intro x hx
        simp only [List.mem_append, List.mem_singleton] at hx
        rcases hx with hx | rfl
        · exact h.ne x hx
        · intro q; rw [q] at hl; simp at hl
      · intro _; simp
      · simp only
        rw [total_snoc]; omega

/-- what goes into the field, and what is left -/
theorem rfGo_spec {s : Nat} (hs : s ≤ 200) : ∀ (L : List (List UInt8)) (b : Bool) (f : List UInt8) (fi : Int), f.length ≤ s → (∀ x ∈ L, x ≠ []) →
    (rfGo s L b f fi).1 ++ (rfGo s L b f fi).2.2.1.flatten = f ++ L.flatten ∧
    ((rfGo s L b f fi).1.length = s ∨ ((rfGo s L b f fi).2.2.1 = [] ∧ ((rfGo s L b f fi).2.2.2 = false ∨ (L = [] ∧ (rfGo s L b f fi).2.2.2 = b)))) ∧
    (∀ x ∈ (rfGo s L b f fi).2.2.1, x ≠ []) ∧
    ((rfGo s L b f fi).2.2.2 = true → (rfGo s L b f fi).2.2.1 ≠ [] ∨ (L = [] ∧ b = true)) ∧
    (stL f.length L b).filter (fun a => decide ((s : Int) ≤ a)) = (stL (rfGo s L b f fi).1.length (rfGo s L b f fi).2.2.1 (rfGo s L b f fi).2.2.2).filter (fun a => decide ((s : Int) ≤ a)) ∧
    (fi ≠ 2047 → (rfGo s L b f fi).2.1 = fi) ∧ (fi = 2047 → (rfGo s L b f fi).2.1 = firstIn (stL f.length L b) s) := by
  intro L; induction L with
  | nil =>
    intro b f fi hf _
    refine ⟨rfl, .inr ⟨rfl, .inr ⟨rfl, rfl⟩⟩, (by intro x h; cases h), fun h => .inr ⟨rfl, h⟩, rfl, fun _ => rfl, fun h => ?_⟩
    show fi = _
    rw [h]; cases b <;> rfl
  | cons x l ih =>
    intro b f fi hf hne
    have hx : 0 < x.length := List.length_pos_iff.2 (hne x (List.mem_cons_self ..))
    have hnl : ∀ y ∈ l, y ≠ [] := fun y hy => hne y (List.mem_cons_of_mem _ hy)
    by_cases hlt : f.length < s
    · -- what the first place is
      have hfi : ∀ rest : List Int, firstIn (stL f.length (x :: l) b) s = if b = false then (f.length : Int) else firstIn (posL (f.length + x.length) l) s := by
        intro _
        cases b with
        | false => simp only [stL, Bool.false_eq_true, if_false, posL, firstIn, if_true]; rw [if_pos (by omega)]
        | true => simp only [stL, if_true, posL, List.tail_cons]; simp
      rw [rfGo, if_pos hlt]
      simp only
      by_cases hn : min x.length (s - f.length) < x.length
      · rw [if_pos hn]
        have hmn : min x.length (s - f.length) = s - f.length := by omega
        rw [hmn]
        have hfl : (f ++ x.take (s - f.length)).length = s := by rw [List.length_append, List.length_take]; omega
        refine ⟨?_, .inl hfl, ?_, fun _ => .inl (by simp), ?_, ?_, ?_⟩
        · simp only [List.flatten_cons, List.append_assoc]
          rw [← List.append_assoc (x.take _), List.take_append_drop]
        · intro y hy
          rcases List.mem_cons.1 hy with rfl | hy
          · intro q; have := congrArg List.length q; rw [List.length_drop] at this; simp at this; omega
          · exact hnl y hy
        · simp only [hfl]
          have e1 : stL s ((x.drop (s - f.length)) :: l) true = posL (f.length + x.length) l := by
            simp only [stL, if_true, posL, List.tail_cons, List.length_drop]
            rw [show s + (x.length - (s - f.length)) = f.length + x.length by omega]
          rw [e1]
          cases b with
          | false =>
            simp only [stL, Bool.false_eq_true, if_false, posL]
            rw [List.filter_cons_of_neg (by simp; omega)]
          | true => simp only [stL, if_true, posL, List.tail_cons]
        · intro h; rw [if_neg (fun q => h q.2)]
        · intro h
          rw [hfi []]
          cases b with
          | false => rw [if_pos ⟨rfl, h⟩, if_pos rfl]
          | true =>
            rw [if_neg (fun q => Bool.noConfusion q.1), if_neg (by decide), h]
            have hge := posL_ge l (f.length + x.length)
            cases hp : posL (f.length + x.length) l with
            | nil => rfl
            | cons a t =>
              rw [hp] at hge
              have := hge a (List.mem_cons_self ..)
              simp only [firstIn]; rw [if_neg (by omega)]
      · rw [if_neg hn]
        have hmn : min x.length (s - f.length) = x.length := by omega
        rw [hmn, List.take_length]
        obtain ⟨i1, i2, i3, i4, i5, i6, i7⟩ := ih false (f ++ x) (if b = false ∧ fi = 2047 then (f.length : Int) else fi) (by rw [List.length_append]; omega) hnl
        refine ⟨by rw [i1]; simp, ?_, i3, ?_, ?_, ?_, ?_⟩
        · rcases i2 with i2 | ⟨i2, i2' | ⟨_, i2'⟩⟩
          · exact .inl i2
          · exact .inr ⟨i2, .inl i2'⟩
          · exact .inr ⟨i2, .inl i2'⟩
        · intro q
          rcases i4 q with h | ⟨_, h⟩
          · exact .inl h
          · cases h
        · rw [← i5]
          have e1 : stL (f ++ x).length l false = posL (f.length + x.length) l := by simp only [stL, Bool.false_eq_true, if_false, List.length_append]
          rw [e1]
          cases b with
          | false =>
            simp only [stL, Bool.false_eq_true, if_false, posL]
            rw [List.filter_cons_of_neg (by simp; omega)]
          | true => simp only [stL, if_true, posL, List.tail_cons]
        · intro h
          rw [if_neg (fun q => h q.2)] at i6 ⊢
          exact i6 h
        · intro h
          rw [hfi []]
          cases b with
          | false =>
            rw [if_pos ⟨rfl, h⟩] at i6 ⊢
            rw [i6 (by omega), if_pos rfl]
          | true =>
            rw [if_neg (fun q => Bool.noConfusion q.1)] at i7 ⊢
            rw [i7 h, if_neg (by decide)]
            simp only [stL, Bool.false_eq_true, if_false, List.length_append]
    · have hfs : f.length = s := by omega
      rw [rfGo_full (by omega)]
      refine ⟨rfl, .inl hfs, hne, fun _ => .inl (by simp), rfl, fun _ => rfl, fun h => ?_⟩
      simp only [h]
      have hge := posL_ge (x :: l) f.length
      cases hp : stL f.length (x :: l) b with
      | nil => rfl
      | cons a t =>
        have := hge a (stL_mem (by rw [hp]; exact List.mem_cons_self ..))
        simp only [firstIn]; rw [if_neg (by omega)]
theorem dropB_all {s : Nat} {l : List Int} (h : ∀ a ∈ l, a < (s : Int)) : dropB s l = [] := by
  rw [dropB, List.filter_eq_nil_iff.2 (fun a ha => by have := h a ha; simp; omega)]; rfl
theorem FR.next {F : Fl} {G : Rf} (h : FR F G) : (flNext F).1 = (rfNext G).1 ∧ (flNext F).2.1 = (rfNext G).2.1 ∧ (flNext F).2.2.1 = (rfNext G).2.2.1 ∧ FR (flNext F).2.2.2 (rfNext G).2.2.2 := by
  have hb := h.blen
  have hi := h.idle
  have hsz := h.sz
  have hrl := h.rl
  by_cases h0 : total G.L = 0
  · rw [rfNext, if_pos h0, flNext, if_pos (by omega)]; exact ⟨rfl, rfl, rfl, h⟩
  have hspec := rfGo_spec hsz.2 G.L G.begun G.rest 2047 (by omega) h.ne
  have hLne : G.L ≠ [] := fun q => h0 (by rw [q]; rfl)
  rw [rfNext, if_neg h0, flNext, if_neg (by omega)]
  simp only
  have hle := rfGo_len G.L G.begun G.rest 2047 (size := G.size) (by omega)
  have hst := h.starts
  have hby := h.bytes
  have htot := h.tot
  generalize rfGo G.size G.L G.begun G.rest 2047 = q at hspec hle ⊢
  obtain ⟨f, fi, L', b'⟩ := q
  simp only at hspec hle ⊢
  obtain ⟨s1, s2, s3, s4, s5, _, s7⟩ := hspec
  have hfi := s7 trivial
  have hb4 : b' = true → L' ≠ [] := fun q => by
    rcases s4 q with r | ⟨r, _⟩
    · exact r
    · exact absurd r hLne
  have hlen : f.length + total L' = G.rest.length + total G.L := by
    have := congrArg List.length s1
    rwa [List.length_append, List.length_append] at this
  by_cases hfs : f.length = G.size
  · have hff : flFill F = (F.bytes, F.starts, 0) := by rw [flFill, if_neg (by rw [h.size, hb]; omega)]
    rw [hff, if_neg (by omega), h.size]
    simp only
    refine ⟨?_, ?_, trivial, rfl, ?_, rfl, ?_, s3, hb4, by simp only; omega, by simp, hsz⟩
    · rw [hby, ← s1, ← hfs, List.take_left]
    · rw [hst, hfi]
    · simp only; rw [hby, ← s1, ← hfs, List.drop_left]; rfl
    · simp only
      rw [hst]
      show dropB _ _ = stL 0 L' b'
      rw [dropB, s5, ← dropB, hfs, stL_shift]
  · rcases s2 with s2 | ⟨rfl, s2⟩
    · exact absurd s2 hfs
    have hb' : b' = false := by
      rcases s2 with r | ⟨r, _⟩
      · exact r
      · exact absurd r hLne
    subst hb'
    have hfl : f = F.bytes := by rw [hby, ← s1]; simp
    have hlt : f.length < G.size := by omega
    obtain ⟨m, hm⟩ : ∃ m, m = max (G.size - f.length) 7 := ⟨_, rfl⟩
    have hil := idle_len (n := m) (by omega)
    have hff : flFill F = (f ++ enc (idleP m), F.starts ++ [(f.length : Int)], m - (G.size - f.length)) := by rw [flFill, h.size, ← hfl, if_pos hlt, hm]
    rw [hff, if_pos (by omega), ← hm, h.size]
    simp only
    have hall : ∀ a ∈ F.starts, a < (f.length : Int) := by
      intro a ha
      rw [hst] at ha
      have := posL_lt _ _ h.ne a (stL_mem ha)
      have : F.bytes.length = f.length := by rw [hfl]
      omega
    refine ⟨?_, ?_, trivial, rfl, ?_, ?_, ?_, (by intro x hx; cases hx), (by intro q; cases q), by simp [total], ?_, hsz⟩
    · rw [List.take_append, List.take_of_length_le (by omega)]
    · rw [hfi, ← hst]
      cases hst2 : F.starts with
      | nil => simp only [List.nil_append, firstIn]; rw [if_pos (by omega)]; simp
      | cons a t =>
        have := hall a (by rw [hst2]; exact List.mem_cons_self ..)
        have e : ∀ t', firstIn (a :: t') (G.size : Int) = a := fun t' => by simp only [firstIn]; rw [if_pos (by omega)]
        rw [List.cons_append, e, e, if_neg (by omega)]
    · simp only
      rw [List.drop_append, List.drop_eq_nil_of_le (by omega : f.length ≤ G.size)]; simp
    · simp only; rw [List.length_drop, hil]
    · simp only
      rw [dropB_all]
      · rfl
      · intro a ha
        simp only [List.mem_append, List.mem_singleton] at ha
        rcases ha with ha | rfl
        · have := hall a ha; omega
        · omega
    · simp only; rw [List.length_drop, hil]; omega
end Sx
end Go.Proofs.Ytdgphamhpjnmpaa

/- Many atoms as one; pointers of one block compared; slices and nil. -/
namespace Go.Proofs.Ytdgphamhpjnmpaa
namespace Sx
theorem star_comm {A B : HP} {h : Hl} (s : star A B h) : star B A h := by
  obtain ⟨f, g, hd, hu, ha, hb⟩ := s
  refine ⟨g, f, hd.symm, fun k => ?_, hb, ha⟩
  rw [hu]; rcases hd k with e | e <;> rw [e] <;> simp
theorem star_mono {A B A' B' : HP} (ha : ∀ h, A h → A' h) (hb : ∀ h, B h → B' h) {h : Hl} (s : star A B h) : star A' B' h := by
  obtain ⟨f, g, hd, hu, h1, h2⟩ := s
  exact ⟨f, g, hd, hu, ha f h1, hb g h2⟩
theorem star_assoc {A B C : HP} {h : Hl} (s : star A (star B C) h) : star (star A B) C h := by
  obtain ⟨f, g, hd, hu, ha, f2, g2, hd2, hu2, hb, hc⟩ := s
  have hg : ∀ k, g k = none → f2 k = none ∧ g2 k = none := fun k e => by
    rw [hu2] at e
    cases e1 : f2 k <;> cases e2 : g2 k <;> simp_all
  refine ⟨fun k => (f k).or (f2 k), g2, fun k => ?_, fun k => ?_, ⟨f, f2, fun k => ?_, fun _ => rfl, ha, hb⟩, hc⟩
  · rcases hd k with e | e
    · rcases hd2 k with e2 | e2
      · left; simp [e, e2]
      · right; exact e2
    · right; exact (hg k e).2
  · show h k = ((f k).or (f2 k)).or (g2 k)
    rw [hu, hu2]; cases f k <;> rfl
  · rcases hd k with e | e
    · exact .inl e
    · exact .inr (hg k e).1
theorem star_swap {A B C : HP} {h : Hl} (s : star A (star B C) h) : star B (star A C) h := by
  have h1 := star_assoc s
  have h2 : star (star B A) C h := star_mono (fun _ x => star_comm x) (fun _ x => x) h1
  have h3 := star_comm h2
  have h4 := star_assoc h3
  -- (C * B) * A  to  B * (A * C)
  have h5 := star_comm h4
  have h6 := star_assoc h5
  have h7 : star (star A C) B h := h6
  exact star_comm h7
/-- nothing -/
def nul : HP := ex fun _ => none
theorem star_nul {A : HP} {h : Hl} : star nul A h ↔ A h := by
  constructor
  · rintro ⟨f, g, _, hu, hf, ha⟩
    have : h = g := by funext k; rw [hu, show f k = none from congrFun hf k]; rfl
    rw [this]; exact ha
  · intro ha
    exact ⟨fun _ => none, h, fun _ => .inl rfl, fun _ => rfl, rfl, ha⟩
def bigS : List HP → HP
  | [] => nul
  | A :: l => star A (bigS l)
theorem big_out : ∀ (l : List HP) (i : Nat) (A : HP), l[i]? = some A → ∀ h, bigS l h → star A (bigS (l.set i nul)) h := by
  intro l; induction l with
  | nil => intro i A hi; simp at hi
  | cons B l ih =>
    intro i A hi h hb
    cases i with
    | zero =>
      simp only [List.getElem?_cons_zero, Option.some.injEq] at hi; subst hi
      exact star_mono (fun _ x => x) (fun _ x => star_nul.2 x) hb
    | succ i =>
      simp only [List.getElem?_cons_succ] at hi
      exact star_swap (star_mono (fun _ x => x) (fun _ x => ih i A hi _ x) hb)
theorem big_in : ∀ (l : List HP) (i : Nat) (A : HP), i < l.length → ∀ h, star A (bigS (l.set i nul)) h → bigS (l.set i A) h := by
  intro l; induction l with
  | nil => intro i A hi; simp at hi
  | cons B l ih =>
    intro i A hi h hb
    cases i with
    | zero => exact star_mono (fun _ x => x) (fun _ x => star_nul.1 x) hb
    | succ i => exact star_mono (fun _ x => x) (fun _ x => ih i A (by simpa using hi) _ x) (star_swap hb)
theorem big_app : ∀ (l : List HP) (A : HP) (h : Hl), star (bigS l) A h → bigS (l ++ [A]) h := by
  intro l; induction l with
  | nil => intro A h hb; exact star_comm (star_nul.2 (star_nul.1 hb))
  | cons B l ih =>
    intro A h hb
    have h1 := star_comm hb
    have h2 := star_swap h1
    exact star_mono (fun _ x => x) (fun _ x => ih A _ (star_comm x)) h2
theorem Sat.focus {w : World} {As : List HP} (hs : Sat w As) (j : Nat) {l : List HP} (i : Nat) {A : HP} (hj : As[j]? = some (bigS l)) (hi : l[i]? = some A) : Sat w (As.set j (bigS (l.set i nul)) ++ [A]) := by
  have h1 := hs.imp j hj (fun g hg => star_comm (big_out l i A hi g hg))
  have h2 := h1.split j (by rw [List.getElem?_set_self (lt_of_get hj)])
  rwa [List.set_set] at h2
/-- a new one goes into the many -/
theorem Sat.bigPush {w : World} {As : List HP} (hs : Sat w As) (j k : Nat) {l : List HP} {A : HP} (hj : As[j]? = some (bigS l)) (hk : As[k]? = some A) (hjk : j ≠ k) : Sat w ((As.set j (bigS (l ++ [A]))).set k emp) := by
  have h1 := hs.join j k hj hk hjk
  have hl := lt_of_get hj
  have h2 := h1.imp j (A := star (bigS l) A) (B := bigS (l ++ [A])) (by rw [List.getElem?_set_ne (Ne.symm hjk), List.getElem?_set_self hl]) (fun g hg => big_app l A g hg)
  rw [List.set_comm _ _ hjk, List.set_set, List.set_comm _ _ (Ne.symm hjk)] at h2
  exact h2
section
variable {C : Cx} {ds : List Deferred} {env : Env} {As : List HP} {d : Option Tmp} {ty : TypeId} {pos : String} {af : Array Edge} {gd : Option (Nat × Bool)} {t t' e : TypeId} {x y : Operand}
theorem ov_ptrSame {g : Bool} {n b o o' : Nat} (hu : C.P.underlying t = some (.pointer e)) (he : tyAgg C.P e = some (g, n)) (hn : n ≠ 0) (hx : evo env x = some (.pointer (some ⟨b, o, none⟩))) (hy : evo env y = some (.pointer (some ⟨b, o', none⟩))) :
    OpV C ds env As ⟨d, .binOp .eql t x y t', ty, pos, af, gd⟩ (.bool (decide (o = o'))) := fun a w ha hs => by
  refine binOp_eq ha hx hy (fun _ _ => by simp [eqGuard]) ?_
  have h1 := (tyAgg_spec he w).2
  have h2 : (Op.equal t (.pointer (some ⟨b, o, none⟩)) (.pointer (some ⟨b, o', none⟩))).run C.P w = .ok (decide (o = o')) w := by
    unfold Op.equal Op.maxDepth Op.equalIn
    by_cases q : o = o'
    · subst q; simp [run_underlying hu, h1, sameAddr]
    · simp [run_underlying hu, h1, hn, sameAddr, q]
  simp only [binOp, Sem.run_bind, h2]; rfl
theorem ov_sliceeql {p q : Option Addr} {n c n' c' : Nat} (hu : C.P.underlying t = some (.slice e)) (hx : evo env x = some (.slice p n c)) (hy : evo env y = some (.slice q n' c')) (h : p.isNone = true ∨ q.isNone = true) : OpV C ds env As ⟨d, .binOp .eql t x y t', ty, pos, af, gd⟩ (.bool (p.isNone && q.isNone)) := fun a w ha hs => by
  refine binOp_eq ha hx hy (fun _ _ => by simp [eqGuard]) ?_
  have h2 : (Op.equal t (.slice p n c) (.slice q n' c')).run C.P w = .ok (p.isNone && q.isNone) w := by
    unfold Op.equal Op.maxDepth Op.equalIn
    cases p <;> cases q <;> simp_all [run_underlying hu]
  simp only [binOp, Sem.run_bind, h2]; rfl
end
/-! ### A callee that works on one of many -/
/-- The atoms of the callee stand at the end. -/
theorem Fn.inBig {P : Program} {f : FuncId} {args : Array Value} {l : List HP} {i : Nat} {A : HP} {α : Type} {R : Value → α → Prop} {B : α → HP} (hi : l[i]? = some A) (h : Fn P f args [A] (Ret fun v Q => ∃ x, R v x ∧ Q = [B x])) :
    Fn P f args [bigS l] (Ret fun v Q => ∃ x, R v x ∧ Q = [bigS (l.set i (B x))]) := by
  intro w g hs
  have h1 := hs.focus 1 i (A := A) rfl hi
  simp only [List.set_cons_succ, List.set_cons_zero, List.cons_append, List.nil_append] at h1
  obtain ⟨hf, hs', hback⟩ := h1.lend [2] rfl
  refine (h w hf hs').mono fun e w' ⟨Q, hq, hs2, hsame⟩ => ?_
  cases e with
  | returned v =>
    obtain ⟨x, hR, rfl⟩ := hq
    have h3 := hback w' _ hs2
    simp only [putBack, List.set_cons_succ, List.set_cons_zero, List.append_nil] at h3
    have h4 := h3.join 1 2 (A := bigS (l.set i nul)) (B := B x) rfl rfl (by decide)
    simp only [List.set_cons_succ, List.set_cons_zero] at h4
    have h5 := h4.imp 1 (A := star (bigS (l.set i nul)) (B x)) (B := bigS (l.set i (B x))) rfl (fun g hg => big_in l i (B x) (lt_of_get hi) g (star_comm hg))
    simp only [List.set_cons_succ, List.set_cons_zero] at h5
    exact ⟨[bigS (l.set i (B x))], ⟨x, hR, rfl⟩, h5.picks [0, 1] rfl, hsame⟩
  | panicked _ => exact hq.elim
  | outgrown => exact hq.elim
end Sx
end Go.Proofs.Ytdgphamhpjnmpaa

/- Many fillers as one atom; the small functions of a mux. -/
namespace Go.Proofs.Ytdgphamhpjnmpaa
namespace Sx

/-- a filler and what it owns -/
def filA (p : Nat) (F : Fl) : HP := Ex fun x : (Option Addr × Nat) × (Option Addr × Nat) => star (frow p x.1.1 F.bytes.length x.1.2 x.2.1 F.starts.length x.2.2 F.size F.idle) (star (fby x.1.1 F.bytes.length x.1.2 F.bytes) (fst x.2.1 F.starts.length x.2.2 F.starts))
theorem Sat.filOpen {w : World} {As : List HP} (hs : Sat w As) (i : Nat) {p : Nat} {F : Fl} (hi : As[i]? = some (filA p F)) : ∃ ad c ad' c', Sat w (As.set i (frow p ad F.bytes.length c ad' F.starts.length c' F.size F.idle) ++ [fby ad F.bytes.length c F.bytes] ++ [fst ad' F.starts.length c' F.starts]) := by
  obtain ⟨⟨⟨ad, c⟩, ⟨ad', c'⟩⟩, h1⟩ := hs.getEx1 i hi
  have h2 := h1.split i (by rw [List.getElem?_set_self (lt_of_get hi)])
  rw [List.set_set] at h2
  simp only at h2
  have hl : (As.set i (frow p ad F.bytes.length c ad' F.starts.length c' F.size F.idle)).length = As.length := List.length_set
  have h3 := h2.split As.length (A := fby ad F.bytes.length c F.bytes) (B := fst ad' F.starts.length c' F.starts) (by rw [List.getElem?_append_right (by omega), hl]; simp)
  rw [List.set_append_right _ _ (by omega), hl] at h3
  simp only [Nat.sub_self, List.set_cons_zero] at h3
  exact ⟨ad, c, ad', c', h3⟩
theorem fil_in {p : Nat} {F : Fl} {ad ad' : Option Addr} {c c' : Nat} {h : Hl} (hs : star (frow p ad F.bytes.length c ad' F.starts.length c' F.size F.idle) (star (fby ad F.bytes.length c F.bytes) (fst ad' F.starts.length c' F.starts)) h) : filA p F h := ⟨((ad, c), (ad', c')), hs⟩
theorem Fn.fil {f : FuncId} {args : Array Value} {p : Nat} {F : Fl} {α : Type} {R : Value → α → Prop} {F' : α → Fl} (h : ∀ ad c ad' c', Fn Try.prog f args (fl3 p ad c ad' c' F) (Ret fun v Q => ∃ x ad1 c1 ad2 c2, R v x ∧ Q = fl3 p ad1 c1 ad2 c2 (F' x))) :
    Fn Try.prog f args [filA p F] (Ret fun v Q => ∃ x, R v x ∧ Q = [filA p (F' x)]) := by
  intro w g hs
  obtain ⟨ad, c, ad', c', h1⟩ := hs.filOpen 1 (p := p) (F := F) rfl
  simp only [List.set_cons_succ, List.set_cons_zero, List.cons_append, List.nil_append] at h1
  refine (h ad c ad' c' w g h1).mono fun e w' ⟨Q, hq, hs2, hsame⟩ => ?_
  cases e with
  | returned v =>
    obtain ⟨x, ad1, c1, ad2, c2, hR, rfl⟩ := hq
    have h3 := hs2.join 2 3 (A := fby ad1 (F' x).bytes.length c1 (F' x).bytes) (B := fst ad2 (F' x).starts.length c2 (F' x).starts) rfl rfl (by decide)
    have h4 := h3.join 1 2 (A := frow p ad1 (F' x).bytes.length c1 ad2 (F' x).starts.length c2 (F' x).size (F' x).idle) (B := star (fby ad1 (F' x).bytes.length c1 (F' x).bytes) (fst ad2 (F' x).starts.length c2 (F' x).starts)) rfl rfl (by decide)
    have h5 := h4.imp 1 rfl (fun g hg => fil_in hg)
    exact ⟨[filA p (F' x)], ⟨x, hR, rfl⟩, h5.picks [0, 1] rfl, hsame⟩
  | panicked _ => exact hq.elim
  | outgrown => exact hq.elim

structure Src where
  p : Nat
  prio : Int
  share : Int
  credit : Int
  count : Int
  fl : Fl
def srcC (s : Src) : List Value := [P1 s.p 0, .int .i64 s.prio, .int .i64 s.share, .int .i64 s.credit, .int .i64 s.count]
def srcs (l : List Src) : List Value := flat (l.map srcC)
def fils (l : List Src) : HP := bigS (l.map fun s => filA s.p s.fl)
theorem srcs_get {l : List Src} {i j : Nat} {s : Src} {v : Value} (hi : l[i]? = some s) (hj : (srcC s)[j]? = some v) : (srcs l)[i * 5 + j]? = some v :=
  flat_get (es := l.map srcC) (sz := 5) (by intro e he; obtain ⟨s, _, rfl⟩ := List.mem_map.1 he; rfl) (by rw [List.getElem?_map, hi]; rfl) hj
theorem srcs_len (l : List Src) : (srcs l).length = l.length * 5 := by
  rw [srcs, flat_len (sz := 5) (by intro e he; obtain ⟨s, _, rfl⟩ := List.mem_map.1 he; rfl), List.length_map]
theorem fwaitB {l : List Src} {i : Nat} {s : Src} (hi : l[i]? = some s) (hF : s.fl.ok) : Fn Try.prog 38 #[P1 s.p 0] [fils l] (Ret fun v Q => v = .int .i64 ((s.fl.bytes.length : Int) - s.fl.idle) ∧ Q = [fils l]) := by
  obtain ⟨h1, h2, h3, _, _⟩ := hF
  have h : Fn Try.prog 38 #[P1 s.p 0] [filA s.p s.fl] (Ret fun v Q => ∃ x : Unit, v = .int .i64 ((s.fl.bytes.length : Int) - s.fl.idle) ∧ Q = [filA s.p s.fl]) := by
    refine Fn.fil (F' := fun _ => s.fl) fun ad c ad' c' => ?_
    have h0 := fwait_ok (p := s.p) (ad := ad) (n := s.fl.bytes.length) (c := c) (ad' := ad') (n' := s.fl.starts.length) (c' := c') (size := s.fl.size) (idle := s.fl.idle) (by omega) (by omega) (by omega)
    intro w g hs
    obtain ⟨hf, hs', hback⟩ := hs.lend [1] rfl
    refine (h0 w hf hs').mono fun e w' ⟨Q, hq, hs2, hsame⟩ => ?_
    cases e with
    | returned v =>
      obtain ⟨hv, rfl⟩ := hq
      have h5 := hback w' _ hs2
      have h6 := h5.picks [0, 1, 2, 3] rfl
      exact ⟨_, ⟨(), ad, c, ad', c', hv, rfl⟩, h6, hsame⟩
    | panicked _ => exact hq.elim
    | outgrown => exact hq.elim
  have h2 := Fn.inBig (l := l.map fun s => filA s.p s.fl) (i := i) (B := fun _ : Unit => filA s.p s.fl) (by rw [List.getElem?_map, hi]; rfl) h
  refine h2.ret ?_
  rintro v Q ⟨_, hv, rfl⟩
  refine ⟨hv, ?_⟩
  have : (l.map fun s => filA s.p s.fl).set i (filA s.p s.fl) = l.map fun s => filA s.p s.fl := by
    apply List.ext_getElem?
    intro k
    by_cases e : k = i
    · subst e
      rw [List.getElem?_set_self (by simpa using lt_of_get hi), List.getElem?_map, hi]; rfl
    · rw [List.getElem?_set_ne (Ne.symm e)]
  rw [this]; rfl
theorem set_map {l : List Src} {i : Nat} {s : Src} {F : Fl} (_hi : l[i]? = some s) : (l.map fun s => filA s.p s.fl).set i (filA s.p F) = (l.set i { s with fl := F }).map fun s => filA s.p s.fl := by
  rw [List.map_set]
theorem faddB {l : List Src} {i : Nat} {s : Src} {b : List UInt8} (hi : l[i]? = some s) (hF : s.fl.ok) (hb : b.length ≤ 1000000000) : Fn Try.prog 39 #[P1 s.p 0, S b] [fils l] (Ret fun v Q => v = .int .i64 (flAdd s.fl b).2 ∧ Q = [fils (l.set i { s with fl := (flAdd s.fl b).1 })]) := by
  have h : Fn Try.prog 39 #[P1 s.p 0, S b] [filA s.p s.fl] (Ret fun v Q => ∃ x : Unit, v = .int .i64 (flAdd s.fl b).2 ∧ Q = [filA s.p (flAdd s.fl b).1]) := by
    refine Fn.fil (F' := fun _ => (flAdd s.fl b).1) fun ad c ad' c' => (fadd_ok hF hb).ret ?_
    rintro v Q ⟨ad1, c1, ad2, c2, hv, hQ⟩
    exact ⟨(), ad1, c1, ad2, c2, hv, hQ⟩
  refine (Fn.inBig (l := l.map fun s => filA s.p s.fl) (i := i) (B := fun _ : Unit => filA s.p (flAdd s.fl b).1) (by rw [List.getElem?_map, hi]; rfl) h).ret ?_
  rintro v Q ⟨_, hv, rfl⟩
  exact ⟨hv, by rw [set_map hi]; rfl⟩
theorem fnextB {l : List Src} {i : Nat} {s : Src} (hi : l[i]? = some s) (hF : s.fl.ok) : Fn Try.prog 43 #[P1 s.p 0] [fils l] (Ret fun v Q => v = .tuple #[S (flNext s.fl).1, .int .i64 (flNext s.fl).2.1, .bool (flNext s.fl).2.2.1] ∧ Q = [fils (l.set i { s with fl := (flNext s.fl).2.2.2 })]) := by
  have h : Fn Try.prog 43 #[P1 s.p 0] [filA s.p s.fl] (Ret fun v Q => ∃ x : Unit, v = .tuple #[S (flNext s.fl).1, .int .i64 (flNext s.fl).2.1, .bool (flNext s.fl).2.2.1] ∧ Q = [filA s.p (flNext s.fl).2.2.2]) := by
    refine Fn.fil (F' := fun _ => (flNext s.fl).2.2.2) fun ad c ad' c' => (fnext_ok hF).ret ?_
    rintro v Q ⟨ad1, c1, ad2, c2, hv, hQ⟩
    exact ⟨(), ad1, c1, ad2, c2, hv, hQ⟩
  refine (Fn.inBig (l := l.map fun s => filA s.p s.fl) (i := i) (B := fun _ : Unit => filA s.p (flNext s.fl).2.2.2) (by rw [List.getElem?_map, hi]; rfl) h).ret ?_
  rintro v Q ⟨_, hv, rfl⟩
  exact ⟨hv, by rw [set_map hi]; rfl⟩
def fl0 (F : Fl) : Fl := ⟨[], [], F.size, 0⟩
theorem fclearB {l : List Src} {i : Nat} {s : Src} (hi : l[i]? = some s) (hF : s.fl.ok) : Fn Try.prog 47 #[P1 s.p 0] [fils l] (Ret fun _ Q => Q = [fils (l.set i { s with fl := fl0 s.fl })]) := by
  obtain ⟨h1, _, _, _, _⟩ := hF
  have h : Fn Try.prog 47 #[P1 s.p 0] [filA s.p s.fl] (Ret fun v Q => ∃ x : Unit, True ∧ Q = [filA s.p (fl0 s.fl)]) := by
    refine Fn.fil (F' := fun _ => fl0 s.fl) fun ad c ad' c' => ?_
    have h0 := fclear_ok (p := s.p) (ad := ad) (n := s.fl.bytes.length) (c := c) (ad' := ad') (n' := s.fl.starts.length) (c' := c') (size := s.fl.size) (idle := s.fl.idle) (by omega)
    intro w g hs
    obtain ⟨hf, hs', hback⟩ := hs.lend [1] rfl
    refine (h0 w hf hs').mono fun e w' ⟨Q, hq, hs2, hsame⟩ => ?_
    cases e with
    | returned v =>
      obtain rfl := hq
      have h5 := hback w' _ hs2
      simp only [putBack, List.set_cons_succ, List.set_cons_zero, List.append_nil] at h5
      have h6 := h5.imp 2 (B := fby none 0 0 []) rfl (fun g _ => ownO_nil _ _ g)
      simp only [List.set_cons_succ, List.set_cons_zero] at h6
      have h7 := h6.imp 3 (B := fst none 0 0 []) rfl (fun g _ => ownS_nil _ _ g)
      simp only [List.set_cons_succ, List.set_cons_zero] at h7
      exact ⟨_, ⟨(), none, 0, none, 0, trivial, rfl⟩, h7, hsame⟩
    | panicked _ => exact hq.elim
    | outgrown => exact hq.elim
  refine (Fn.inBig (l := l.map fun s => filA s.p s.fl) (i := i) (B := fun _ : Unit => filA s.p (fl0 s.fl)) (by rw [List.getElem?_map, hi]; rfl) h).ret ?_
  rintro v Q ⟨_, _, rfl⟩
  rw [set_map hi]; rfl
end Sx
end Go.Proofs.Ytdgphamhpjnmpaa

/- A mux: Add, Waiting, Clear. -/
namespace Go.Proofs.Ytdgphamhpjnmpaa
namespace Sx

structure Mx where
  craft : Int
  size : Int
  master : Int
  l : List Src
abbrev mrow (m b c : Nat) (craft size master : Int) : HP := row m 69 [.int .i64 craft, .int .i64 size, .int .i64 master, .slice (some ⟨b, 0, none⟩) 8 c]
abbrev srow (b : Nat) (extra : List Value) (l : List Src) : HP := row b 104 (srcs l ++ extra)
abbrev mux3 (m b c : Nat) (extra : List Value) (M : Mx) : List HP := [mrow m b c M.craft M.size M.master, srow b extra M.l, fils M.l]
theorem srcs_at {l : List Src} {extra : List Value} {i j : Nat} {s : Src} {v : Value} (hi : l[i]? = some s) (hj : (srcC s)[j]? = some v) : (srcs l ++ extra)[0 + i * 5 + j]? = some v := by
  have h := srcs_get hi hj
  rw [Nat.zero_add, List.getElem?_append_left (lt_of_get h)]; exact h
theorem srcs_set {l : List Src} {extra : List Value} {i j : Nat} {s s' : Src} {v : Value} (hi : l[i]? = some s) (hj : j < 5) (hs : (srcC s).set j v = srcC s') : (srcs l ++ extra).set (0 + i * 5 + j) v = srcs (l.set i s') ++ extra := by
  have hil := lt_of_get hi
  have e1 := flat_split (es := l.map srcC) (i := i) (e := srcC s) (by rw [List.getElem?_map, hi]; rfl)
  have e2 := flat_set (es := l.map srcC) (i := i) (e := srcC s') (by simpa using hil)
  have e3 : srcs (l.set i s') = flat ((l.map srcC).set i (srcC s')) := by rw [srcs, List.map_set]
  rw [e3, e2, srcs, e1]
  have hlen : (flat ((l.map srcC).take i)).length = i * 5 := by
    rw [flat_len (sz := 5) (by intro e he; obtain ⟨s, _, rfl⟩ := List.mem_map.1 (List.mem_of_mem_take he); rfl), List.length_take, List.length_map, Nat.min_eq_left (by omega)]
  generalize flat ((l.map srcC).take i) = A at hlen
  generalize flat ((l.map srcC).drop (i + 1)) = B
  have hE : (srcC s).length = 5 := rfl
  rw [List.append_assoc, List.append_assoc, Nat.zero_add, ← hlen, List.set_append_right _ _ (by omega), Nat.add_sub_cancel_left, List.set_append_left _ _ (by omega), hs]
  simp only [List.append_assoc]
theorem srcs_setfl {l : List Src} {i : Nat} {s : Src} {F : Fl} (hi : l[i]? = some s) : srcs (l.set i { s with fl := F }) = srcs l := by
  unfold srcs
  rw [List.map_set]
  congr 1
  apply List.ext_getElem?
  intro k
  by_cases e : k = i
  · subst e
    rw [List.getElem?_set_self (by simpa using lt_of_get hi), List.getElem?_map, hi]; rfl
  · rw [List.getElem?_set_ne (Ne.symm e)]
structure Mx.ok (M : Mx) : Prop where
  len : M.l.length = 8
  fl : ∀ s ∈ M.l, s.fl.ok
theorem mnone_ok {m b c : Nat} {craft size master : Int} : Fn Try.prog 37 #[P1 m 0] [mrow m b c craft size master] (Ret fun v Q => v = .bool false ∧ Q = [mrow m b c craft size master]) := by
  refine Fn.of (args := _) Try.func37 rfl Try.ntmps37 rfl ?_
  intro w0 g0
  refine CW.seq ?_
  refine CW.region ?_
  refine LW.v (ov_assign rfl) ?_
  refine LW.nil ?_
  refine KW.thenN ?_
  refine CW.seq ?_
  refine CW.region ?_
  refine LW.v (ov_move rfl) ?_
  refine LW.v (ov_ptreql un47 rfl rfl (by simp)) ?_
  refine LW.v (ov_move rfl) ?_
  refine LW.v (ov_move rfl) ?_
  refine LW.v (ov_nilP rfl) ?_
  refine LW.v (ov_fieldAddr fo69_3 rfl) ?_
  refine LW.v (ov_loadR 1 ta67 rfl rfl rfl) ?_
  refine LW.v (ov_sliceeql (sliceOf_spec so67).1 rfl rfl (by simp)) ?_
  first | refine LW.v (ov_pickT rfl rfl) ?_ | refine LW.v (ov_pickF rfl rfl) ?_ | refine LW.v (ov_pick rfl rfl rfl) ?_
  refine LW.v (ov_assign rfl) ?_
  refine LW.nil ?_
  refine KW.thenN ?_
  refine CW.ret ?_
  exact KW.retF (.cons (.tmp rfl) (.nil)) [1] rfl rfl (⟨rfl, rfl⟩)
def mxAdd (M : Mx) (ch : Int) (p : List UInt8) : Mx × Int :=
  if 0 ≤ ch ∧ ch < 8 then match M.l[ch.toNat]? with
    | some s => ({ M with l := M.l.set ch.toNat { s with fl := (flAdd s.fl p).1 } }, (flAdd s.fl p).2)
    | none => (M, 2)
  else (M, 2)
def mxWait (M : Mx) (ch : Int) : Int := if 0 ≤ ch ∧ ch < 8 then match M.l[ch.toNat]? with
    | some s => (s.fl.bytes.length : Int) - s.fl.idle
    | none => 0
  else 0
theorem madd_ok {m b c : Nat} {extra : List Value} {M : Mx} (hM : M.ok) {ch : Int} {p : List UInt8} (hp : p.length ≤ 1000000000) : Fn Try.prog 19 #[P1 m 0, .int .i64 ch, S p] (mux3 m b c extra M)
    (Ret fun v Q => v = .int .i64 (mxAdd M ch p).2 ∧ Q = mux3 m b c extra (mxAdd M ch p).1) := by
  by_cases hc : 0 ≤ ch ∧ ch < 8
  · obtain ⟨k, rfl⟩ : ∃ k : Nat, ch = k := ⟨ch.toNat, by omega⟩
    have hk : k < M.l.length := by rw [hM.len]; omega
    obtain ⟨s, hs⟩ : ∃ s, M.l[k]? = some s := ⟨_, List.getElem?_eq_getElem hk⟩
    have hF := hM.fl s (List.mem_of_getElem? hs)
    have hd : mxAdd M (k : Int) p = ({ M with l := M.l.set k { s with fl := (flAdd s.fl p).1 } }, (flAdd s.fl p).2) := by rw [mxAdd, if_pos hc, Int.toNat_natCast, hs]
    rw [hd]
    refine Fn.of (args := _) Try.func19 rfl Try.ntmps19 rfl ?_
    intro w0 g0
    refine CW.seq ?_
    refine CW.region ?_
    refine LW.v (ov_assign rfl) ?_
    refine LW.nil ?_
    refine KW.thenN ?_
    refine CW.seq ?_
    refine CW.seq ?_
    refine CW.region ?_
    refine LW.v (ov_move rfl) ?_
    refine LW.call [1] (oc_fn cf37 rfl) rfl rfl rfl rfl (mnone_ok) ?_
    rintro _ _ ⟨rfl, rfl⟩
    simp only [putBack, List.set_cons_succ, List.set_cons_zero, List.append_nil]
    refine LW.nil ?_
    refine KW.thenN ?_
    refine CW.condF rfl rfl ?_
    refine CW.skip ?_
    refine KW.thenN ?_
    refine CW.seq ?_
    refine CW.seq ?_
    refine CW.region ?_
    refine LW.v (ov_move rfl) ?_
    refine LW.v (OpV.eq (ov_lss rfl rfl) (congrArg Value.bool (decide_eq_false (by first | omega | assumption)))) ?_
    refine LW.v (ov_move rfl) ?_
    refine LW.v (ov_move rfl) ?_
    refine LW.v (OpV.eq (ov_geq rfl rfl) (congrArg Value.bool (decide_eq_false (by first | omega | assumption)))) ?_
    first | refine LW.v (ov_pickT rfl rfl) ?_ | refine LW.v (ov_pickF rfl rfl) ?_ | refine LW.v (ov_pick rfl rfl rfl) ?_
    refine LW.nil ?_
    refine KW.thenN ?_
    refine CW.condF rfl rfl ?_
    refine CW.skip ?_
    refine KW.thenN ?_
    refine CW.seq ?_
    refine CW.region ?_
    refine LW.v (ov_move rfl) ?_
    refine LW.v (ov_nilP rfl) ?_
    refine LW.v (ov_fieldAddr fo69_3 rfl) ?_
    refine LW.v (ov_loadR 1 ta67 rfl rfl rfl) ?_
    refine LW.v (ov_move rfl) ?_
    refine LW.v (ov_idxL (i := k) so67 rfl rfl rfl (by omega)) ?_
    refine LW.v (ov_fieldAddr fo104_0 rfl) ?_
    refine LW.v (ov_loadR 2 ta100 rfl rfl (srcs_at (j := 0) hs rfl)) ?_
    refine LW.v (ov_move rfl) ?_
    refine LW.call [3] (oc_fn cf39 rfl) rfl rfl rfl rfl (faddB hs hF hp) ?_
    rintro _ _ ⟨rfl, rfl⟩
    simp only [putBack, List.set_cons_succ, List.set_cons_zero, List.append_nil]
    refine LW.v (ov_assign rfl) ?_
    refine LW.nil ?_
    refine KW.thenN ?_
    refine CW.ret ?_
    exact KW.retF (.cons (.tmp rfl) (.nil)) [1, 2, 3] rfl rfl (⟨rfl, by simp only [mux3, srow]; rw [srcs_setfl hs]; rfl⟩)
  · have hd : mxAdd M ch p = (M, 2) := by rw [mxAdd, if_neg hc]
    rw [hd]
    by_cases h0 : ch < 0
    · refine Fn.of (args := _) Try.func19 rfl Try.ntmps19 rfl ?_
      intro w0 g0
      refine CW.seq ?_
      refine CW.region ?_
      refine LW.v (ov_assign rfl) ?_
      refine LW.nil ?_
      refine KW.thenN ?_
      refine CW.seq ?_
      refine CW.seq ?_
      refine CW.region ?_
      refine LW.v (ov_move rfl) ?_
      refine LW.call [1] (oc_fn cf37 rfl) rfl rfl rfl rfl (mnone_ok) ?_
      rintro _ _ ⟨rfl, rfl⟩
      simp only [putBack, List.set_cons_succ, List.set_cons_zero, List.append_nil]
      refine LW.nil ?_
      refine KW.thenN ?_
      refine CW.condF rfl rfl ?_
      refine CW.skip ?_
      refine KW.thenN ?_
      refine CW.seq ?_
      refine CW.seq ?_
      refine CW.region ?_
      refine LW.v (ov_move rfl) ?_
      refine LW.v (OpV.eq (ov_lss rfl rfl) (congrArg Value.bool (decide_eq_true (by first | omega | assumption)))) ?_
      refine LW.v (ov_move rfl) ?_
      refine LW.skip rfl rfl ?_
      refine LW.skip rfl rfl ?_
      first | refine LW.v (ov_pickT rfl rfl) ?_ | refine LW.v (ov_pickF rfl rfl) ?_ | refine LW.v (ov_pick rfl rfl rfl) ?_
      refine LW.nil ?_
      refine KW.thenN ?_
      refine CW.condT rfl rfl ?_
      refine CW.seq ?_
      refine CW.region ?_
      refine LW.v (ov_assign rfl) ?_
      refine LW.nil ?_
      refine KW.thenN ?_
      refine CW.ret ?_
      refine KW.thenR ?_
      exact KW.retF (.cons (.tmp rfl) (.nil)) [1, 2, 3] rfl rfl (⟨rfl, rfl⟩)
    · refine Fn.of (args := _) Try.func19 rfl Try.ntmps19 rfl ?_
      intro w0 g0
      refine CW.seq ?_
      refine CW.region ?_
      refine LW.v (ov_assign rfl) ?_
      refine LW.nil ?_
      refine KW.thenN ?_
      refine CW.seq ?_
      refine CW.seq ?_
      refine CW.region ?_
      refine LW.v (ov_move rfl) ?_
      refine LW.call [1] (oc_fn cf37 rfl) rfl rfl rfl rfl (mnone_ok) ?_
      rintro _ _ ⟨rfl, rfl⟩
      simp only [putBack, List.set_cons_succ, List.set_cons_zero, List.append_nil]
      refine LW.nil ?_
      refine KW.thenN ?_
      refine CW.condF rfl rfl ?_
      refine CW.skip ?_
      refine KW.thenN ?_
      refine CW.seq ?_
      refine CW.seq ?_
      refine CW.region ?_
      refine LW.v (ov_move rfl) ?_
      refine LW.v (OpV.eq (ov_lss rfl rfl) (congrArg Value.bool (decide_eq_false (by first | omega | assumption)))) ?_
      refine LW.v (ov_move rfl) ?_
      refine LW.v (ov_move rfl) ?_
      refine LW.v (OpV.eq (ov_geq rfl rfl) (congrArg Value.bool (decide_eq_true (by first | omega | assumption)))) ?_
      first | refine LW.v (ov_pickT rfl rfl) ?_ | refine LW.v (ov_pickF rfl rfl) ?_ | refine LW.v (ov_pick rfl rfl rfl) ?_
      refine LW.nil ?_
      refine KW.thenN ?_
      refine CW.condT rfl rfl ?_
      refine CW.seq ?_
      refine CW.region ?_
      refine LW.v (ov_assign rfl) ?_
      refine LW.nil ?_
      refine KW.thenN ?_
      refine CW.ret ?_
      refine KW.thenR ?_
      exact KW.retF (.cons (.tmp rfl) (.nil)) [1, 2, 3] rfl rfl (⟨rfl, rfl⟩)
theorem mwait_ok {m b c : Nat} {extra : List Value} {M : Mx} (hM : M.ok) {ch : Int} : Fn Try.prog 18 #[P1 m 0, .int .i64 ch] (mux3 m b c extra M)
    (Ret fun v Q => v = .int .i64 (mxWait M ch) ∧ Q = mux3 m b c extra M) := by
  by_cases hc : 0 ≤ ch ∧ ch < 8
  · obtain ⟨k, rfl⟩ : ∃ k : Nat, ch = k := ⟨ch.toNat, by omega⟩
    have hk : k < M.l.length := by rw [hM.len]; omega
    obtain ⟨s, hs⟩ : ∃ s, M.l[k]? = some s := ⟨_, List.getElem?_eq_getElem hk⟩
    have hF := hM.fl s (List.mem_of_getElem? hs)
    have hd : mxWait M (k : Int) = (s.fl.bytes.length : Int) - s.fl.idle := by rw [mxWait, if_pos hc, Int.toNat_natCast, hs]
    rw [hd]
    refine Fn.of (args := _) Try.func18 rfl Try.ntmps18 rfl ?_
    intro w0 g0
    refine CW.seq ?_
    refine CW.region ?_
    refine LW.v (ov_assign rfl) ?_
    refine LW.nil ?_
    refine KW.thenN ?_
    refine CW.seq ?_
    refine CW.seq ?_
    refine CW.region ?_
    refine LW.v (ov_move rfl) ?_
    refine LW.call [1] (oc_fn cf37 rfl) rfl rfl rfl rfl (mnone_ok) ?_
    rintro _ _ ⟨rfl, rfl⟩
    simp only [putBack, List.set_cons_succ, List.set_cons_zero, List.append_nil]
    refine LW.v (ov_move rfl) ?_
    refine LW.v (ov_move rfl) ?_
    refine LW.v (OpV.eq (ov_lss rfl rfl) (congrArg Value.bool (decide_eq_false (by first | omega | assumption)))) ?_
    first | refine LW.v (ov_pickT rfl rfl) ?_ | refine LW.v (ov_pickF rfl rfl) ?_ | refine LW.v (ov_pick rfl rfl rfl) ?_
    refine LW.v (ov_move rfl) ?_
    refine LW.v (ov_move rfl) ?_
    refine LW.v (OpV.eq (ov_geq rfl rfl) (congrArg Value.bool (decide_eq_false (by first | omega | assumption)))) ?_
    first | refine LW.v (ov_pickT rfl rfl) ?_ | refine LW.v (ov_pickF rfl rfl) ?_ | refine LW.v (ov_pick rfl rfl rfl) ?_
    refine LW.nil ?_
    refine KW.thenN ?_
    refine CW.condF rfl rfl ?_
    refine CW.skip ?_
    refine KW.thenN ?_
    refine CW.seq ?_
    refine CW.region ?_
    refine LW.v (ov_move rfl) ?_
    refine LW.v (ov_nilP rfl) ?_
    refine LW.v (ov_fieldAddr fo69_3 rfl) ?_
    refine LW.v (ov_loadR 1 ta67 rfl rfl rfl) ?_
    refine LW.v (ov_move rfl) ?_
    refine LW.v (ov_idxL (i := k) so67 rfl rfl rfl (by omega)) ?_
    refine LW.v (ov_fieldAddr fo104_0 rfl) ?_
    refine LW.v (ov_loadR 2 ta100 rfl rfl (srcs_at (j := 0) hs rfl)) ?_
    refine LW.call [3] (oc_fn cf38 rfl) rfl rfl rfl rfl (fwaitB hs hF) ?_
    rintro _ _ ⟨rfl, rfl⟩
    simp only [putBack, List.set_cons_succ, List.set_cons_zero, List.append_nil]
    refine LW.v (ov_assign rfl) ?_
    refine LW.nil ?_
    refine KW.thenN ?_
    refine CW.ret ?_
    exact KW.retF (.cons (.tmp rfl) (.nil)) [1, 2, 3] rfl rfl (⟨rfl, rfl⟩)
  · have hd : mxWait M ch = 0 := by rw [mxWait, if_neg hc]
    rw [hd]
    by_cases h0 : ch < 0
    · refine Fn.of (args := _) Try.func18 rfl Try.ntmps18 rfl ?_
      intro w0 g0
      refine CW.seq ?_
      refine CW.region ?_
      refine LW.v (ov_assign rfl) ?_
      refine LW.nil ?_
      refine KW.thenN ?_
      refine CW.seq ?_
      refine CW.seq ?_
      refine CW.region ?_
      refine LW.v (ov_move rfl) ?_
      refine LW.call [1] (oc_fn cf37 rfl) rfl rfl rfl rfl (mnone_ok) ?_
      rintro _ _ ⟨rfl, rfl⟩
      simp only [putBack, List.set_cons_succ, List.set_cons_zero, List.append_nil]
      refine LW.v (ov_move rfl) ?_
      refine LW.v (ov_move rfl) ?_
      refine LW.v (OpV.eq (ov_lss rfl rfl) (congrArg Value.bool (decide_eq_true (by first | omega | assumption)))) ?_
      first | refine LW.v (ov_pickT rfl rfl) ?_ | refine LW.v (ov_pickF rfl rfl) ?_ | refine LW.v (ov_pick rfl rfl rfl) ?_
      refine LW.v (ov_move rfl) ?_
      refine LW.skip rfl rfl ?_
      refine LW.skip rfl rfl ?_
      first | refine LW.v (ov_pickT rfl rfl) ?_ | refine LW.v (ov_pickF rfl rfl) ?_ | refine LW.v (ov_pick rfl rfl rfl) ?_
      refine LW.nil ?_
      refine KW.thenN ?_
      refine CW.condT rfl rfl ?_
      refine CW.seq ?_
      refine CW.region ?_
      refine LW.v (ov_assign rfl) ?_
      refine LW.nil ?_
      refine KW.thenN ?_
      refine CW.ret ?_
      refine KW.thenR ?_
      exact KW.retF (.cons (.tmp rfl) (.nil)) [1, 2, 3] rfl rfl (⟨rfl, rfl⟩)
    · refine Fn.of (args := _) Try.func18 rfl Try.ntmps18 rfl ?_
      intro w0 g0
      refine CW.seq ?_
      refine CW.region ?_
      refine LW.v (ov_assign rfl) ?_
      refine LW.nil ?_
      refine KW.thenN ?_
      refine CW.seq ?_
      refine CW.seq ?_
      refine CW.region ?_
      refine LW.v (ov_move rfl) ?_
      refine LW.call [1] (oc_fn cf37 rfl) rfl rfl rfl rfl (mnone_ok) ?_
      rintro _ _ ⟨rfl, rfl⟩
      simp only [putBack, List.set_cons_succ, List.set_cons_zero, List.append_nil]
      refine LW.v (ov_move rfl) ?_
      refine LW.v (ov_move rfl) ?_
      refine LW.v (OpV.eq (ov_lss rfl rfl) (congrArg Value.bool (decide_eq_false (by first | omega | assumption)))) ?_
      first | refine LW.v (ov_pickT rfl rfl) ?_ | refine LW.v (ov_pickF rfl rfl) ?_ | refine LW.v (ov_pick rfl rfl rfl) ?_
      refine LW.v (ov_move rfl) ?_
      refine LW.v (ov_move rfl) ?_
      refine LW.v (OpV.eq (ov_geq rfl rfl) (congrArg Value.bool (decide_eq_true (by first | omega | assumption)))) ?_
      first | refine LW.v (ov_pickT rfl rfl) ?_ | refine LW.v (ov_pickF rfl rfl) ?_ | refine LW.v (ov_pick rfl rfl rfl) ?_
      refine LW.nil ?_
      refine KW.thenN ?_
      refine CW.condT rfl rfl ?_
      refine CW.seq ?_
      refine CW.region ?_
      refine LW.v (ov_assign rfl) ?_
      refine LW.nil ?_
      refine KW.thenN ?_
      refine CW.ret ?_
      refine KW.thenR ?_
      exact KW.retF (.cons (.tmp rfl) (.nil)) [1, 2, 3] rfl rfl (⟨rfl, rfl⟩)

/-- the first ones of a list mapped -/
def mapN {α : Type} (f : α → α) : Nat → List α → List α
  | 0, l => l
  | _ + 1, [] => []
  | k + 1, x :: l => f x :: mapN f k l
theorem mapN_len {α : Type} (f : α → α) : ∀ (k : Nat) (l : List α), (mapN f k l).length = l.length := by
  intro k; induction k with
  | zero => intro l; rfl
  | succ k ih => intro l; cases l with
    | nil => rfl
    | cons x l => simp [mapN, ih]
theorem mapN_get {α : Type} (f : α → α) : ∀ (k : Nat) (l : List α), (mapN f k l)[k]? = l[k]? := by
  intro k; induction k with
  | zero => intro l; rfl
  | succ k ih => intro l; cases l with
    | nil => rfl
    | cons x l => simp [mapN, ih]
theorem mapN_set {α : Type} (f : α → α) : ∀ (k : Nat) (l : List α) (s : α), l[k]? = some s → (mapN f k l).set k (f s) = mapN f (k + 1) l := by
  intro k; induction k with
  | zero => intro l s h; cases l with
    | nil => cases h
    | cons x l => simp at h; subst h; rfl
  | succ k ih => intro l s h; cases l with
    | nil => cases h
    | cons x l => simp only [List.getElem?_cons_succ] at h; simp only [mapN, List.set_cons_succ]; rw [ih l s h]
theorem mapN_all {α : Type} (f : α → α) : ∀ (l : List α), mapN f l.length l = l.map f := by
  intro l; induction l with
  | nil => rfl
  | cons x l ih => simp [mapN, ih]
theorem mapN_mem {α : Type} (f : α → α) {p : α → Prop} (hf : ∀ x, p x → p (f x)) : ∀ (k : Nat) (l : List α), (∀ x ∈ l, p x) → ∀ x ∈ mapN f k l, p x := by
  intro k; induction k with
  | zero => intro l h; exact h
  | succ k ih => intro l h; cases l with
    | nil => exact h
    | cons x l =>
      intro y hy
      rcases List.mem_cons.1 hy with rfl | hy
      · exact hf x (h x (List.mem_cons_self ..))
      · exact ih l (fun z hz => h z (List.mem_cons_of_mem _ hz)) y hy
def clr (s : Src) : Src := { s with credit := 0, count := 0, fl := fl0 s.fl }
theorem fl0_ok {F : Fl} (h : F.ok) : (fl0 F).ok := ⟨h.size, ⟨Nat.le_refl _, by simp [fl0]⟩, by simp [fl0], by simp [fl0], by simp [fl0]⟩
theorem mclear_ok {m b c : Nat} {extra : List Value} {M : Mx} (hM : M.ok) : Fn Try.prog 24 #[P1 m 0] (mux3 m b c extra M)
    (Ret fun _ Q => Q = mux3 m b c extra { M with master := 0, l := M.l.map clr }) := by
  obtain ⟨craft, size, master, l⟩ := M
  obtain ⟨hlen, hfl⟩ := hM
  simp only at hlen hfl ⊢
  refine Fn.of (args := _) Try.func24 rfl Try.ntmps24 rfl ?_
  intro w0 g0
  refine CW.seq ?_
  refine CW.seq ?_
  refine CW.region ?_
  refine LW.v (ov_move rfl) ?_
  refine LW.call [1] (oc_fn cf37 rfl) rfl rfl rfl rfl (mnone_ok) ?_
  rintro _ _ ⟨rfl, rfl⟩
  simp only [putBack, List.set_cons_succ, List.set_cons_zero, List.append_nil]
  refine LW.nil ?_
  refine KW.thenN ?_
  refine CW.condF rfl rfl ?_
  refine CW.skip ?_
  refine KW.thenN ?_
  refine CW.seq ?_
  refine CW.region ?_
  refine LW.v (ov_move rfl) ?_
  refine LW.v (ov_nilP rfl) ?_
  refine LW.v (ov_fieldAddr fo69_2 rfl) ?_
  refine LW.opU (ou_storeW ta3 rfl rfl (.one rfl) rfl rfl (.t (.t (.h (.n)))) (.t (.h))) rfl ?_
  refine LW.nil ?_
  refine KW.thenN ?_
  refine CW.seq ?_
  refine CW.region ?_
  refine LW.v (ov_move rfl) ?_
  refine LW.v (ov_nilP rfl) ?_
  refine LW.v (ov_fieldAddr fo69_3 rfl) ?_
  refine LW.v (ov_loadR 1 ta67 rfl rfl rfl) ?_
  refine LW.v (ov_lenL so67 rfl) ?_
  refine LW.v (ov_move rfl) ?_
  refine LW.nil ?_
  refine KW.thenN ?_
  refine CW.block ?_
  refine CW.loopW (fun r env As => ∃ i : Nat, i + r = 8 ∧ env = [(0, P1 m 0), (13, .int .i64 ((8 : Nat) : Int)), (14, .int .i64 i)] ∧ As = [ex g0, mrow m b c craft size 0, srow b extra (mapN clr i l), fils (mapN clr i l)]) 8 [0, 1, 2, 3] ⟨0, rfl, rfl, rfl⟩ ⟨rfl, rfl, rfl, trivial⟩ rfl rfl ?_
  rintro r _ _ ⟨i, hir, rfl, rfl⟩
  refine CW.seq ?_
  refine CW.region ?_
  refine LW.v (ov_lss rfl rfl) ?_
  refine LW.nil ?_
  refine KW.thenN ?_
  refine CW.seq ?_
  refine CW.condD (by rfl) (fun h => ?_) (fun h => ?_)
  · have hi : i < l.length := by omega
    obtain ⟨s, hs⟩ : ∃ s, l[i]? = some s := ⟨_, List.getElem?_eq_getElem hi⟩
    have hs0 : (mapN clr i l)[i]? = some s := by rw [mapN_get]; exact hs
    have hF := hfl s (List.mem_of_getElem? hs)
    have hil : i < (mapN clr i l).length := by rw [mapN_len]; exact hi
    have hset := mapN_set clr i l s hs
    generalize mapN clr i l = l1 at hs0 hil hset ⊢
    have hs1 : (l1.set i { s with fl := fl0 s.fl })[i]? = some { s with fl := fl0 s.fl } := List.getElem?_set_self hil
    have hls := srcs_len l1
    have hi8 : i * 5 + 5 ≤ l1.length * 5 := by omega
    refine CW.skip ?_
    refine KW.thenN ?_
    refine CW.seq ?_
    refine CW.block ?_
    refine CW.seq ?_
    refine CW.region ?_
    refine LW.v (ov_move rfl) ?_
    refine LW.v (ov_assign rfl) ?_
    refine LW.nil ?_
    refine KW.thenN ?_
    refine CW.seq ?_
    refine CW.region ?_
    refine LW.v (ov_move rfl) ?_
    refine LW.v (ov_nilP rfl) ?_
    refine LW.v (ov_fieldAddr fo69_3 rfl) ?_
    refine LW.v (ov_loadR 1 ta67 rfl rfl rfl) ?_
    refine LW.v (ov_move rfl) ?_
    refine LW.v (ov_idxL (i := i) so67 rfl rfl rfl (by omega)) ?_
    refine LW.v (ov_assign rfl) ?_
    refine LW.nil ?_
    refine KW.thenN ?_
    refine CW.seq ?_
    refine CW.region ?_
    refine LW.v (ov_move rfl) ?_
    refine LW.v (ov_nilP rfl) ?_
    refine LW.v (ov_fieldAddr fo104_0 rfl) ?_
    refine LW.v (ov_loadR 2 ta100 rfl rfl (srcs_at (j := 0) hs0 rfl)) ?_
    refine LW.call [3] (oc_fn cf47 rfl) rfl rfl rfl rfl (fclearB hs0 hF) ?_
    rintro _ _ rfl
    simp only [putBack, List.set_cons_succ, List.set_cons_zero, List.append_nil]
    refine LW.nil ?_
    refine KW.thenN ?_
    have esr : srow b extra l1 = srow b extra (l1.set i { s with fl := fl0 s.fl }) := by simp only [srow]; rw [srcs_setfl hs0]
    rw [esr]
    refine CW.region ?_
    refine LW.v (ov_move rfl) ?_
    refine LW.v (ov_move rfl) ?_
    refine LW.v (ov_nilP rfl) ?_
    refine LW.v (ov_fieldAddr fo104_3 rfl) ?_
    refine LW.opU (ou_storeAt ta3 rfl rfl rfl (by rw [List.length_append, srcs_len, List.length_set]; omega) (.t (.t (.h)))) rfl ?_
    refine LW.v (ov_nilP rfl) ?_
    refine LW.v (ov_fieldAddr fo104_4 rfl) ?_
    refine LW.opU (ou_storeAt ta3 rfl rfl rfl (by rw [List.length_set, List.length_append, srcs_len, List.length_set]; omega) (.t (.t (.h)))) rfl ?_
    refine LW.nil ?_
    refine KW.blockN ?_
    refine KW.thenN ?_
    refine CW.region ?_
    first | refine LW.v (ov_add rfl rfl (by omega)) ?_ | refine LW.v (ov_addW rfl rfl) ?_
    refine LW.v (ov_move rfl) ?_
    refine LW.nil ?_
    rw [srcs_set (s' := { s with fl := fl0 s.fl, credit := 0 }) hs1 (by decide) rfl, List.set_set, srcs_set (s' := clr s) (List.getElem?_set_self hil) (by decide) rfl, List.set_set, hset]
    refine KW.again (r - 1) [0, 1, 2, 3] (by omega) ⟨i + 1, by omega, rfl, rfl⟩ ⟨rfl, rfl, rfl, trivial⟩ rfl ?_
    have hf : fils (l1.set i { s with fl := fl0 s.fl }) = fils (mapN clr (i + 1) l) := by
      rw [← hset]; unfold fils; rw [List.map_set, List.map_set]; rfl
    rw [hf]; rfl
  · obtain rfl : i = 8 := by omega
    have e : mapN clr 8 l = l.map clr := by rw [← hlen]; exact mapN_all clr l
    rw [e]
    refine CW.exit ?_
    refine KW.thenX ?_
    refine KW.thenX ?_
    refine KW.hit ?_
    exact KW.endF (.nil) [1, 2, 3] rfl rfl (rfl)
end Sx
end Go.Proofs.Ytdgphamhpjnmpaa

