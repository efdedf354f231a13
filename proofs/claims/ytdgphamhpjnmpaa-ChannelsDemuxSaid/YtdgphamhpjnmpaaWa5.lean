/- Part 5 of the texts of DmJ. -/
import Derived.Test.YtdgphamhpjnmpaaWa4
import Derived.Below
import Derived.Deep.Slices
import Derived.KernelRfl
import Derived.Laws.Append
import Derived.Laws.Build
import Derived.Laws.BytesString
import Derived.Laws.Cells
import Derived.Laws.Concat
import Derived.Laws.Entries
import Derived.Laws.MakeOwn
import Derived.Laws.Slices
import Derived.Laws.Strings
import Derived.Laws.Strings2
import Derived.Laws.StructEq
import Derived.Lib.Strings
import Derived.Lib.UnsafeStr
import Derived.Orders
import Derived.OrdersHeld
import Derived.OrdersIn
import Derived.ProofKit
import Derived.RangeFuncCalls
import Derived.RangeFuncIn
import Derived.RangeFuncLeaves
import Derived.RangeFuncRecord
import Derived.Shelf.Bits.Mul64
import Derived.Shelf.Strings.Builder1
import Derived.Shelf.Strings.Builder2
import Derived.Shelf.Strings.BuilderF
import Derived.Shelf.Strings.Prefix
import Derived.Shelf.Strings.Repeat
import Derived.Tactics
import Derived.TacticsIn
import Derived.Test.YtdgphamhpjnmpaaProg
import Derived.Test.YtdgphamhpjnmpaaRows
/- A mux: rules, the best channels. -/
namespace Go.Proofs.Ytdgphamhpjnmpaa
namespace Sx

def sw (l : List Src) (i : Nat) : Int := match l[i]? with | some s => (s.fl.bytes.length : Int) - s.fl.idle | none => 0
def spr (l : List Src) (i : Nat) : Int := match l[i]? with | some s => s.prio | none => 0
def scr (l : List Src) (i : Nat) : Int := match l[i]? with | some s => s.credit | none => 0
abbrev sp (b i : Nat) : Value := .pointer (some ⟨b, 0 + i * 5, none⟩)
abbrev pre4 (b1 m b c : Nat) (extra : List Value) (M : Mx) : List HP := row b1 47 [P1 m 0] :: mux3 m b c extra M
section
variable {b1 m b c : Nat} {extra : List Value} {M : Mx}
theorem rule1_ok (hM : M.ok) (hs : 1 ≤ M.size ∧ M.size ≤ 100000) {i : Nat} (hi : i < M.l.length) : Fn Try.prog 70 (#[] ++ #[sp b i] ++ #[P1 b1 0]) (pre4 b1 m b c extra M) (Ret fun v Q => v = .int .i64 (min (sw M.l i / M.size) 1) ∧ Q = pre4 b1 m b c extra M) := by
  obtain ⟨s, hsi⟩ : ∃ s, M.l[i]? = some s := ⟨_, List.getElem?_eq_getElem hi⟩
  have hF := hM.fl s (List.mem_of_getElem? hsi)
  have hw : sw M.l i = (s.fl.bytes.length : Int) - s.fl.idle := by rw [sw, hsi]
  have hwb : 0 ≤ (s.fl.bytes.length : Int) - s.fl.idle ∧ (s.fl.bytes.length : Int) - s.fl.idle ≤ 1000000 := by obtain ⟨_, ⟨_, _⟩, _, _, _⟩ := hF; omega
  rw [hw]
  refine Fn.of (args := _) Try.func70 rfl Try.ntmps70 rfl ?_
  intro w0 g0
  refine CW.seq ?_
  refine CW.region ?_
  refine LW.v (ov_assign rfl) ?_
  refine LW.nil ?_
  refine KW.thenN ?_
  refine CW.seq ?_
  refine CW.draw [1,2,3] rfl mixed rfl (ls := #[false, false, false, false, false, false, false, false, false, false, false, false]) (by kernel_rfl) ?_
  refine DW.tk 0 [1,2,3] rfl (ov_move rfl) ?_
  first | refine DW.tk 1 [1,2,3] rfl (ov_nilP rfl) ?_ | refine DW.tk 1 [1,2,3] rfl (ov_nilF rfl) ?_
  refine DW.tk 2 [1,2,3] rfl (ov_fieldAddr fo104_0 rfl) ?_
  refine DW.tk 3 [1,2,3] rfl (ov_loadR 2 ta100 rfl rfl (srcs_at (j := 0) hsi rfl)) ?_
  refine DW.tk 5 [1,2,3] rfl (ov_loadR 0 ta47 rfl rfl rfl) ?_
  first | refine DW.tk 6 [1,2,3] rfl (ov_nilP rfl) ?_ | refine DW.tk 6 [1,2,3] rfl (ov_nilF rfl) ?_
  refine DW.tk 7 [1,2,3] rfl (ov_fieldAddr fo69_1 rfl) ?_
  refine DW.tk 8 [1,2,3] rfl (ov_loadR 1 ta3 rfl rfl rfl) ?_
  refine DW.all1 4 (by kernel_rfl) ?_
  refine DO.call [1,2,3] [4] rfl (oc_fn cf38 rfl) rfl rfl rfl rfl (fwaitB hsi hF) (by rintro _ _ ⟨rfl, rfl⟩; exact ⟨rfl, rfl⟩) rfl ?_
  rintro _ _ ⟨rfl, rfl⟩
  simp only [putBack, List.set_cons_succ, List.set_cons_zero, List.append_nil]
  refine DW.tk 9 [1,2,3] rfl (ov_quo rfl rfl (by omega) (by omega)) ?_
  refine DW.tk 10 [1,2,3] rfl (ov_min rfl rfl) ?_
  refine DW.tk 11 [1,2,3] rfl (ov_assign rfl) ?_
  refine DW.done (by kernel_rfl) ?_
  refine KW.thenN ?_
  refine CW.ret ?_
  exact KW.retF (.cons (.tmp rfl) (.nil)) [1, 2, 3, 4] rfl rfl (⟨rfl, rfl⟩)
theorem rule2_ok {i : Nat} (hi : i < M.l.length) : Fn Try.prog 71 (#[] ++ #[sp b i] ++ #[]) (pre4 b1 m b c extra M) (Ret fun v Q => v = .int .i64 (spr M.l i) ∧ Q = pre4 b1 m b c extra M) := by
  obtain ⟨s, hsi⟩ : ∃ s, M.l[i]? = some s := ⟨_, List.getElem?_eq_getElem hi⟩
  have hw : spr M.l i = s.prio := by rw [spr, hsi]
  rw [hw]
  refine Fn.of (args := _) Try.func71 rfl Try.ntmps71 rfl ?_
  intro w0 g0
  refine CW.seq ?_
  refine CW.region ?_
  refine LW.v (ov_assign rfl) ?_
  refine LW.nil ?_
  refine KW.thenN ?_
  refine CW.seq ?_
  refine CW.region ?_
  refine LW.v (ov_move rfl) ?_
  refine LW.v (ov_nilP rfl) ?_
  refine LW.v (ov_fieldAddr fo104_1 rfl) ?_
  refine LW.v (ov_loadR 3 ta3 rfl rfl (srcs_at (j := 1) hsi rfl)) ?_
  refine LW.v (ov_assign rfl) ?_
  refine LW.nil ?_
  refine KW.thenN ?_
  refine CW.ret ?_
  exact KW.retF (.cons (.tmp rfl) (.nil)) [1, 2, 3, 4] rfl rfl (⟨rfl, rfl⟩)
theorem rule3_ok {i : Nat} (hi : i < M.l.length) : Fn Try.prog 72 (#[] ++ #[sp b i] ++ #[]) (pre4 b1 m b c extra M) (Ret fun v Q => v = .int .i64 (scr M.l i) ∧ Q = pre4 b1 m b c extra M) := by
  obtain ⟨s, hsi⟩ : ∃ s, M.l[i]? = some s := ⟨_, List.getElem?_eq_getElem hi⟩
  have hw : scr M.l i = s.credit := by rw [scr, hsi]
  rw [hw]
  refine Fn.of (args := _) Try.func72 rfl Try.ntmps72 rfl ?_
  intro w0 g0
  refine CW.seq ?_
  refine CW.region ?_
  refine LW.v (ov_assign rfl) ?_
  refine LW.nil ?_
  refine KW.thenN ?_
  refine CW.seq ?_
  refine CW.region ?_
  refine LW.v (ov_move rfl) ?_
  refine LW.v (ov_nilP rfl) ?_
  refine LW.v (ov_fieldAddr fo104_3 rfl) ?_
  refine LW.v (ov_loadR 3 ta3 rfl rfl (srcs_at (j := 3) hsi rfl)) ?_
  refine LW.v (ov_assign rfl) ?_
  refine LW.nil ?_
  refine KW.thenN ?_
  refine CW.ret ?_
  exact KW.retF (.cons (.tmp rfl) (.nil)) [1, 2, 3, 4] rfl rfl (⟨rfl, rfl⟩)

def bestS (f : Nat → Int) (out : List Nat) (s : Nat) : List Nat := match out with
  | [] => [s]
  | o :: os => if f o < f s then [s] else if f s = f o then (o :: os) ++ [s] else o :: os
def bestL (f : Nat → Int) (l : List Nat) : List Nat := l.foldl (bestS f) []
theorem bestL_snoc (f : Nat → Int) (l : List Nat) (s : Nat) : bestL f (l ++ [s]) = bestS f (bestL f l) s := by simp [bestL]
theorem bestS_ne (f : Nat → Int) (out : List Nat) (s : Nat) : bestS f out s ≠ [] := by
  unfold bestS
  split
  · simp
  · split
    · simp
    · split <;> simp
theorem bestS_len (f : Nat → Int) (out : List Nat) (s : Nat) : (bestS f out s).length ≤ out.length + 1 := by
  unfold bestS
  split
  · simp
  · split
    · simp
    · split <;> simp
theorem bestS_mem (f : Nat → Int) (out : List Nat) (s : Nat) : ∀ x ∈ bestS f out s, x = s ∨ x ∈ out := by
  unfold bestS
  split
  · intro x hx; simp at hx; exact .inl hx
  · split
    · intro x hx; simp at hx; exact .inl hx
    · split
      · intro x hx
        simp only [List.mem_append, List.mem_singleton] at hx
        rcases hx with h | h
        · exact .inr h
        · exact .inl h
      · intro x hx; exact .inr hx
theorem bestL_mem (f : Nat → Int) : ∀ (l out : List Nat), ∀ x ∈ l.foldl (bestS f) out, x ∈ l ∨ x ∈ out := by
  intro l; induction l with
  | nil => intro out x hx; exact .inr hx
  | cons a l ih =>
    intro out x hx
    rcases ih _ x hx with h | h
    · exact .inl (List.mem_cons_of_mem _ h)
    · rcases bestS_mem f out a x h with h | h
      · exact .inl (h ▸ List.mem_cons_self ..)
      · exact .inr h
theorem bestL_ne (f : Nat → Int) {l : List Nat} (h : l ≠ []) : bestL f l ≠ [] := by
  obtain ⟨l', a, rfl⟩ : ∃ l' a, l = l' ++ [a] := ⟨l.dropLast, l.getLast h, (List.dropLast_concat_getLast h).symm⟩
  rw [bestL_snoc]; exact bestS_ne _ _ _
theorem bestL_len (f : Nat → Int) : ∀ (l out : List Nat), (l.foldl (bestS f) out).length ≤ l.length + out.length := by
  intro l; induction l with
  | nil => intro out; simp
  | cons a l ih => intro out; have := ih (bestS f out a); have := bestS_len f out a; simp only [List.foldl_cons, List.length_cons]; omega
abbrev lown (ad : Option Addr) (n c b : Nat) (is : List Nat) : HP := ownS 111 1 (.slice ad n c) n (is.map (sp b))
theorem best_ok {f : FuncId} {qs : Array Value} {g : Nat → Int} {is : List Nat} {ad : Option Addr} {cl : Nat} (hc : callable Try.prog f = true) (hne : is ≠ []) (hlen : is.length ≤ 1000)
    (hf : ∀ i ∈ is, Fn Try.prog f (#[] ++ #[sp b i] ++ qs) (pre4 b1 m b c extra M) (Ret fun v Q => v = .int .i64 (g i) ∧ Q = pre4 b1 m b c extra M)) :
    Fn Try.prog 73 #[.slice ad is.length cl, .agg #[.func (.func f) #[] qs]] (lown ad is.length cl b is :: pre4 b1 m b c extra M)
      (Ret fun v Q => ∃ ad2 c2, v = .slice ad2 (bestL g is).length c2 ∧ Q = [lown ad is.length cl b is] ++ pre4 b1 m b c extra M ++ [lown ad2 (bestL g is).length c2 b (bestL g is)]) := by
  refine Fn.of (args := _) Try.func73 rfl Try.ntmps73 rfl ?_
  intro w0 g0
  refine KW.ownC 1 rfl (fun h1 h2 h3 h4 => absurd (List.eq_nil_of_length_eq_zero h2) hne) (fun bl ex1 h1 h2 h3 h4 => ?_)
  subst h1
  refine KW.newS 111 1 ?_
  simp only [List.cons_append, List.nil_append, List.set_cons_succ, List.set_cons_zero]
  refine CW.seq ?_
  refine CW.region ?_
  refine LW.opBA (ob_box rfl .agg (fun _ => .c (.c (.c (.c (.c (.c (.c (.n))))))))) rfl rfl (fun b3 => ?_)
  refine LW.v (ov_assign rfl) ?_
  refine LW.nil ?_
  refine KW.thenN ?_
  refine CW.seq ?_
  refine CW.region ?_
  refine LW.v (ov_assign rfl) ?_
  refine LW.nil ?_
  refine KW.thenN ?_
  refine CW.seq ?_
  refine CW.seq ?_
  refine CW.region ?_
  refine LW.v (ov_move rfl) ?_
  refine LW.v (ov_lenL so148 rfl) ?_
  refine LW.v (ov_move rfl) ?_
  refine LW.nil ?_
  refine KW.thenN ?_
  refine CW.block ?_
  refine CW.loopW (fun r env As => ∃ (k : Nat) (out : List Nat) (ad2 : Option Addr) (c2 : Nat), k + r = is.length ∧ out = bestL g (is.take k) ∧ env = [(3, P1 b3 0), (5, .slice ad2 out.length c2), (8, .slice (some ⟨bl, 0, none⟩) is.length cl), (9, .int .i64 is.length), (10, .int .i64 k)] ∧
    As = [ex g0, row bl 111 (is.map (sp b) ++ ex1), row b1 47 [P1 m 0], mrow m b c M.craft M.size M.master, srow b extra M.l, fils M.l, lown ad2 out.length c2 b out, row b3 151 [.func (.func f) #[] qs]]) is.length [0, 1, 2, 3, 4, 5, 6, 7] ⟨0, [], none, 0, by simp, rfl, rfl, rfl⟩ ⟨rfl, rfl, rfl, rfl, rfl, trivial⟩ rfl rfl ?_
  rintro r _ _ ⟨k, out, ad2, c2, hkr, hout, rfl, rfl⟩
  have hol : out.length ≤ 1000 := by
    have h1 := bestL_len g (is.take k) []
    rw [hout]; rw [List.length_take, List.length_nil] at h1
    have : (bestL g (is.take k)).length ≤ min k is.length + 0 := h1
    omega
  have hom : ∀ x ∈ out, x ∈ is := by
    intro x hx
    rw [hout] at hx
    rcases bestL_mem g _ [] x hx with h | h
    · exact List.mem_of_mem_take h
    · cases h
  refine CW.seq ?_
  refine CW.region ?_
  refine LW.v (ov_lss rfl rfl) ?_
  refine LW.nil ?_
  refine KW.thenN ?_
  refine CW.seq ?_
  refine CW.condD (by rfl) (fun h => ?_) (fun h => ?_)
  · have hk : k < is.length := by omega
    obtain ⟨s, hs⟩ : ∃ s, is[k]? = some s := ⟨_, List.getElem?_eq_getElem hk⟩
    have hsm := List.mem_of_getElem? hs
    have hnx : bestL g (is.take (k + 1)) = bestS g out s := by
      rw [List.take_succ_eq_append_getElem hk, bestL_snoc, ← hout]
      rw [List.getElem?_eq_getElem hk] at hs
      simp only [Option.some.injEq] at hs; rw [hs]
    refine CW.skip ?_
    refine KW.thenN ?_
    refine CW.seq ?_
    refine CW.block ?_
    refine CW.seq ?_
    refine CW.region ?_
    refine LW.v (ov_idxL (i := k) so148 rfl rfl rfl hk) ?_
    refine LW.v (ov_loadR (v := sp b s) 1 ta111 rfl rfl (by rw [Nat.zero_add, Nat.mul_one, List.getElem?_append_left (by simpa using hk), List.getElem?_map, hs]; rfl)) ?_
    refine LW.v (ov_assign rfl) ?_
    refine LW.nil ?_
    refine KW.thenN ?_
    refine CW.seq ?_
    refine CW.seq ?_
    cases out with
    | nil =>
      refine CW.draw [1] rfl mixed rfl (ls := #[false, false, false, false, false, false, false, false, false, false, false, false, false, false, false, false]) (by kernel_rfl) ?_
      refine DW.tk 0 [1] rfl (ov_move rfl) ?_
      refine DW.tk 1 [1] rfl (ov_lenL so148 rfl) ?_
      refine DW.tk 2 [1] rfl (ov_gtr rfl rfl) ?_
      refine DW.tk 3 [1] rfl (ov_move rfl) ?_
      refine DW.skip 4 [1] rfl (by kernel_rfl) (by kernel_rfl) (by kernel_rfl) (fun _ _ _ h => h) rfl rfl rfl rfl rfl ?_
      refine DW.skip 5 [1] rfl (by kernel_rfl) (by kernel_rfl) (by kernel_rfl) (fun _ _ _ h => h) rfl rfl rfl rfl rfl ?_
      refine DW.skip 6 [1] rfl (by kernel_rfl) (by kernel_rfl) (by kernel_rfl) (fun _ _ _ h => h) rfl rfl rfl rfl rfl ?_
      refine DW.skip 7 [1] rfl (by kernel_rfl) (by kernel_rfl) (by kernel_rfl) (fun _ _ _ h => h) rfl rfl rfl rfl rfl ?_
      refine DW.skip 8 [1] rfl (by kernel_rfl) (by kernel_rfl) (by kernel_rfl) (fun _ _ _ h => h) rfl rfl rfl rfl rfl ?_
      refine DW.skip 9 [1] rfl (by kernel_rfl) (by kernel_rfl) (by kernel_rfl) (fun _ _ _ h => h) rfl rfl rfl rfl rfl ?_
      refine DW.skip 10 [1] rfl (by kernel_rfl) (by kernel_rfl) (by kernel_rfl) (fun _ _ _ h => h) rfl rfl rfl rfl rfl ?_
      refine DW.skip 11 [1] rfl (by kernel_rfl) (by kernel_rfl) (by kernel_rfl) (fun _ _ _ h => h) rfl rfl rfl rfl rfl ?_
      refine DW.skip 12 [1] rfl (by kernel_rfl) (by kernel_rfl) (by kernel_rfl) (fun _ _ _ h => h) rfl rfl rfl rfl rfl ?_
      refine DW.skip 13 [1] rfl (by kernel_rfl) (by kernel_rfl) (by kernel_rfl) (fun _ _ _ h => h) rfl rfl rfl rfl rfl ?_
      refine DW.skip 14 [1] rfl (by kernel_rfl) (by kernel_rfl) (by kernel_rfl) (fun _ _ _ h => h) rfl rfl rfl rfl rfl ?_
      first | refine DW.tk 15 [1] rfl (ov_pickT rfl rfl) ?_ | refine DW.tk 15 [1] rfl (ov_pickF rfl rfl) ?_ | refine DW.tk 15 [1] rfl (ov_pick rfl rfl rfl) ?_
      refine DW.done (by kernel_rfl) ?_
      refine KW.thenN ?_
      refine CW.condF rfl rfl ?_
      refine CW.skip ?_
      refine KW.thenN ?_
      refine CW.seq ?_
      refine CW.draw [1] rfl mixed rfl (ls := #[false, false, false, false, false, false, false, false, false, false, false, false, false, false, false, false]) (by kernel_rfl) ?_
      refine DW.tk 0 [1] rfl (ov_move rfl) ?_
      refine DW.tk 1 [1] rfl (ov_lenL so148 rfl) ?_
      refine DW.tk 2 [1] rfl (ov_eql rfl rfl) ?_
      refine DW.tk 3 [1] rfl (ov_move rfl) ?_
      refine DW.skip 4 [1] rfl (by kernel_rfl) (by kernel_rfl) (by kernel_rfl) (fun _ _ _ h => h) rfl rfl rfl rfl rfl ?_
      refine DW.skip 5 [1] rfl (by kernel_rfl) (by kernel_rfl) (by kernel_rfl) (fun _ _ _ h => h) rfl rfl rfl rfl rfl ?_
      refine DW.skip 6 [1] rfl (by kernel_rfl) (by kernel_rfl) (by kernel_rfl) (fun _ _ _ h => h) rfl rfl rfl rfl rfl ?_
      refine DW.skip 7 [1] rfl (by kernel_rfl) (by kernel_rfl) (by kernel_rfl) (fun _ _ _ h => h) rfl rfl rfl rfl rfl ?_
      refine DW.skip 8 [1] rfl (by kernel_rfl) (by kernel_rfl) (by kernel_rfl) (fun _ _ _ h => h) rfl rfl rfl rfl rfl ?_
      refine DW.skip 9 [1] rfl (by kernel_rfl) (by kernel_rfl) (by kernel_rfl) (fun _ _ _ h => h) rfl rfl rfl rfl rfl ?_
      refine DW.skip 10 [1] rfl (by kernel_rfl) (by kernel_rfl) (by kernel_rfl) (fun _ _ _ h => h) rfl rfl rfl rfl rfl ?_
      refine DW.skip 11 [1] rfl (by kernel_rfl) (by kernel_rfl) (by kernel_rfl) (fun _ _ _ h => h) rfl rfl rfl rfl rfl ?_
      refine DW.skip 12 [1] rfl (by kernel_rfl) (by kernel_rfl) (by kernel_rfl) (fun _ _ _ h => h) rfl rfl rfl rfl rfl ?_
      refine DW.skip 13 [1] rfl (by kernel_rfl) (by kernel_rfl) (by kernel_rfl) (fun _ _ _ h => h) rfl rfl rfl rfl rfl ?_
      refine DW.skip 14 [1] rfl (by kernel_rfl) (by kernel_rfl) (by kernel_rfl) (fun _ _ _ h => h) rfl rfl rfl rfl rfl ?_
      first | refine DW.tk 15 [1] rfl (ov_pickT rfl rfl) ?_ | refine DW.tk 15 [1] rfl (ov_pickF rfl rfl) ?_ | refine DW.tk 15 [1] rfl (ov_pick rfl rfl rfl) ?_
      refine DW.done (by kernel_rfl) ?_
      refine KW.thenN ?_
      refine CW.condT rfl rfl ?_
      refine CW.region ?_
      refine LW.v (ov_move rfl) ?_
      refine LW.v (ov_move rfl) ?_
      refine LW.opBA (ob_bs1 so148 zc111 (xs := [_]) rfl rfl rfl (by decide) rfl (fun _ => .c (.c (.c (.c (.c (.c (.c (.c (.n)))))))))) rfl rfl (fun b48 => ?_)
      refine LW.opX (ox_appR 8 so148 zo111 rfl so148 rfl rfl rfl rfl rfl (by omega) (by omega) (by omega) (fun _ => .t (.t (.t (.t (.t (.t (.h)))))))) rfl rfl (fun a49 c49 => ?_)
      refine LW.v (ov_assign rfl) ?_
      refine LW.nil ?_
      refine KW.blockN ?_
      refine KW.thenN ?_
      refine CW.region ?_
      first | refine LW.v (ov_add rfl rfl (by omega)) ?_ | refine LW.v (ov_addW rfl rfl) ?_
      refine LW.v (ov_move rfl) ?_
      refine LW.nil ?_
      refine KW.again (r - 1) [0, 1, 2, 3, 4, 5, 6, 7] (by omega) ⟨k + 1, bestS g [] s, _, _, by omega, hnx.symm, rfl, rfl⟩ ⟨rfl, rfl, rfl, rfl, rfl, trivial⟩ rfl rfl
    | cons o os =>
      have hfo := hf o (hom o (List.mem_cons_self ..))
      have hfs := hf s hsm
      refine KW.ownC 6 rfl (fun q1 q2 q3 q4 => by cases q4) (fun bo ex2 q1 q2 q3 q4 => ?_)
      subst q1
      simp only [List.set_cons_succ, List.set_cons_zero]
      have hback : ∀ (As : List HP) (w : World), Sat w As → As[6]? = some (row bo 111 ((o :: os).map (sp b) ++ ex2)) → Sat w (As.set 6 (lown (some ⟨bo, 0, none⟩) (o :: os).length c2 b (o :: os))) := fun As w hs h3' => hs.imp 6 h3' (own_row q2 q3 q4)
      refine CW.draw [6,7] rfl mixed rfl (ls := #[false, false, false, false, false, false, false, false, false, false, false, false, false, false, false, false]) (by kernel_rfl) ?_
      refine DW.tk 0 [6,7] rfl (ov_move rfl) ?_
      refine DW.tk 1 [6,7] rfl (ov_lenL so148 rfl) ?_
      refine DW.tk 2 [6,7] rfl (OpV.eq (ov_gtr rfl rfl) (congrArg Value.bool (decide_eq_true (by simp only [List.length_cons]; omega)))) ?_
      refine DW.tk 3 [6,7] rfl (ov_move rfl) ?_
      refine DW.tk 4 [6,7] rfl (ov_fieldAddr fo151_0 rfl) ?_
      refine DW.tk 6 [6,7] rfl (ov_move rfl) ?_
      refine DW.tk 5 [6,7] rfl (ov_loadR 1 ta149 rfl rfl rfl) ?_
      refine DW.tk 8 [6,7] rfl (ov_fieldAddr fo151_0 rfl) ?_
      refine DW.tk 10 [6,7] rfl (ov_move rfl) ?_
      refine DW.tk 9 [6,7] rfl (ov_loadR 1 ta149 rfl rfl rfl) ?_
      refine DW.tk 11 [6,7] rfl (ov_idxL (i := 0) so148 rfl rfl rfl (Nat.succ_pos _)) ?_
      refine DW.tk 12 [6,7] rfl (ov_loadR (v := sp b o) 0 ta111 rfl rfl rfl) ?_
      refine DW.all1 7 (by kernel_rfl) ?_
      refine DO.call [6,7] [2, 3, 4, 5] rfl (oc_clo hc rfl rfl) rfl rfl rfl rfl (hfs) (by rintro _ _ ⟨rfl, rfl⟩; exact ⟨rfl, rfl⟩) rfl ?_
      rintro _ _ ⟨rfl, rfl⟩
      simp only [putBack, List.set_cons_succ, List.set_cons_zero, List.append_nil]
      refine DW.all1 13 (by kernel_rfl) ?_
      refine DO.call [6,7] [2, 3, 4, 5] rfl (oc_clo hc rfl rfl) rfl rfl rfl rfl (hfo) (by rintro _ _ ⟨rfl, rfl⟩; exact ⟨rfl, rfl⟩) rfl ?_
      rintro _ _ ⟨rfl, rfl⟩
      simp only [putBack, List.set_cons_succ, List.set_cons_zero, List.append_nil]
      refine DW.tk 14 [6,7] rfl (ov_gtr rfl rfl) ?_
      first | refine DW.tk 15 [6,7] rfl (ov_pickT rfl rfl) ?_ | refine DW.tk 15 [6,7] rfl (ov_pickF rfl rfl) ?_ | refine DW.tk 15 [6,7] rfl (ov_pick rfl rfl rfl) ?_
      refine DW.done (by kernel_rfl) ?_
      refine KW.thenN ?_
      refine CW.condD (by rfl) (fun g1 => ?_) (fun g1 => ?_)
      · have hb : bestS g (o :: os) s = [s] := by rw [bestS, if_pos g1]
        rw [hb] at hnx
        refine CW.region ?_
        refine LW.v (ov_assign rfl) ?_
        refine LW.nil ?_
        refine KW.thenN ?_
        refine CW.seq ?_
        refine KW.newS 111 1 ?_
        simp only [List.cons_append, List.nil_append]
        refine CW.draw [1] rfl mixed rfl (ls := #[false, false, false, false, false, false, false, false, false, false, false, false, false, false, false, false]) (by kernel_rfl) ?_
        refine DW.tk 0 [1] rfl (ov_move rfl) ?_
        refine DW.tk 1 [1] rfl (ov_lenL so148 rfl) ?_
        refine DW.tk 2 [1] rfl (ov_eql rfl rfl) ?_
        refine DW.tk 3 [1] rfl (ov_move rfl) ?_
        refine DW.skip 4 [1] rfl (by kernel_rfl) (by kernel_rfl) (by kernel_rfl) (fun _ _ _ h => h) rfl rfl rfl rfl rfl ?_
        refine DW.skip 5 [1] rfl (by kernel_rfl) (by kernel_rfl) (by kernel_rfl) (fun _ _ _ h => h) rfl rfl rfl rfl rfl ?_
        refine DW.skip 6 [1] rfl (by kernel_rfl) (by kernel_rfl) (by kernel_rfl) (fun _ _ _ h => h) rfl rfl rfl rfl rfl ?_
        refine DW.skip 7 [1] rfl (by kernel_rfl) (by kernel_rfl) (by kernel_rfl) (fun _ _ _ h => h) rfl rfl rfl rfl rfl ?_
        refine DW.skip 8 [1] rfl (by kernel_rfl) (by kernel_rfl) (by kernel_rfl) (fun _ _ _ h => h) rfl rfl rfl rfl rfl ?_
        refine DW.skip 9 [1] rfl (by kernel_rfl) (by kernel_rfl) (by kernel_rfl) (fun _ _ _ h => h) rfl rfl rfl rfl rfl ?_
        refine DW.skip 10 [1] rfl (by kernel_rfl) (by kernel_rfl) (by kernel_rfl) (fun _ _ _ h => h) rfl rfl rfl rfl rfl ?_
        refine DW.skip 11 [1] rfl (by kernel_rfl) (by kernel_rfl) (by kernel_rfl) (fun _ _ _ h => h) rfl rfl rfl rfl rfl ?_
        refine DW.skip 12 [1] rfl (by kernel_rfl) (by kernel_rfl) (by kernel_rfl) (fun _ _ _ h => h) rfl rfl rfl rfl rfl ?_
        refine DW.skip 13 [1] rfl (by kernel_rfl) (by kernel_rfl) (by kernel_rfl) (fun _ _ _ h => h) rfl rfl rfl rfl rfl ?_
        refine DW.skip 14 [1] rfl (by kernel_rfl) (by kernel_rfl) (by kernel_rfl) (fun _ _ _ h => h) rfl rfl rfl rfl rfl ?_
        first | refine DW.tk 15 [1] rfl (ov_pickT rfl rfl) ?_ | refine DW.tk 15 [1] rfl (ov_pickF rfl rfl) ?_ | refine DW.tk 15 [1] rfl (ov_pick rfl rfl rfl) ?_
        refine DW.done (by kernel_rfl) ?_
        refine KW.thenN ?_
        refine CW.condT rfl rfl ?_
        refine CW.region ?_
        refine LW.v (ov_move rfl) ?_
        refine LW.v (ov_move rfl) ?_
        refine LW.opBA (ob_bs1 so148 zc111 (xs := [_]) rfl rfl rfl (by decide) rfl (fun _ => .c (.c (.c (.c (.c (.c (.c (.c (.c (.n))))))))))) rfl rfl (fun b48 => ?_)
        refine LW.opX (ox_appR 9 so148 zo111 rfl so148 rfl rfl rfl rfl rfl (by omega) (by omega) (by omega) (fun _ => .t (.t (.t (.t (.t (.t (.t (.t (.h)))))))))) rfl rfl (fun a49 c49 => ?_)
        refine LW.v (ov_assign rfl) ?_
        refine LW.nil ?_
        refine KW.blockN ?_
        refine KW.thenN ?_
        refine CW.region ?_
        first | refine LW.v (ov_add rfl rfl (by omega)) ?_ | refine LW.v (ov_addW rfl rfl) ?_
        refine LW.v (ov_move rfl) ?_
        refine LW.nil ?_
        refine KW.again (r - 1) [0, 1, 2, 3, 4, 5, 8, 7] (by omega) ⟨k + 1, [s], _, _, by omega, hnx.symm, rfl, rfl⟩ ⟨rfl, rfl, rfl, rfl, rfl, trivial⟩ rfl rfl
      · refine CW.skip ?_
        refine KW.thenN ?_
        refine CW.seq ?_
        refine CW.draw [6,7] rfl mixed rfl (ls := #[false, false, false, false, false, false, false, false, false, false, false, false, false, false, false, false]) (by kernel_rfl) ?_
        refine DW.tk 0 [6,7] rfl (ov_move rfl) ?_
        refine DW.tk 1 [6,7] rfl (ov_lenL so148 rfl) ?_
        refine DW.tk 2 [6,7] rfl (OpV.eq (ov_eql rfl rfl) (congrArg Value.bool (decide_eq_false (by simp only [List.length_cons]; omega)))) ?_
        refine DW.tk 3 [6,7] rfl (ov_move rfl) ?_
        refine DW.tk 4 [6,7] rfl (ov_fieldAddr fo151_0 rfl) ?_
        refine DW.tk 6 [6,7] rfl (ov_move rfl) ?_
        refine DW.tk 5 [6,7] rfl (ov_loadR 1 ta149 rfl rfl rfl) ?_
        refine DW.tk 8 [6,7] rfl (ov_fieldAddr fo151_0 rfl) ?_
        refine DW.tk 10 [6,7] rfl (ov_move rfl) ?_
        refine DW.tk 9 [6,7] rfl (ov_loadR 1 ta149 rfl rfl rfl) ?_
        refine DW.tk 11 [6,7] rfl (ov_idxL (i := 0) so148 rfl rfl rfl (Nat.succ_pos _)) ?_
        refine DW.tk 12 [6,7] rfl (ov_loadR (v := sp b o) 0 ta111 rfl rfl rfl) ?_
        refine DW.all1 7 (by kernel_rfl) ?_
        refine DO.call [6,7] [2, 3, 4, 5] rfl (oc_clo hc rfl rfl) rfl rfl rfl rfl (hfs) (by rintro _ _ ⟨rfl, rfl⟩; exact ⟨rfl, rfl⟩) rfl ?_
        rintro _ _ ⟨rfl, rfl⟩
        simp only [putBack, List.set_cons_succ, List.set_cons_zero, List.append_nil]
        refine DW.all1 13 (by kernel_rfl) ?_
        refine DO.call [6,7] [2, 3, 4, 5] rfl (oc_clo hc rfl rfl) rfl rfl rfl rfl (hfo) (by rintro _ _ ⟨rfl, rfl⟩; exact ⟨rfl, rfl⟩) rfl ?_
        rintro _ _ ⟨rfl, rfl⟩
        simp only [putBack, List.set_cons_succ, List.set_cons_zero, List.append_nil]
        refine DW.tk 14 [6,7] rfl (ov_eql rfl rfl) ?_
        first | refine DW.tk 15 [6,7] rfl (ov_pickT rfl rfl) ?_ | refine DW.tk 15 [6,7] rfl (ov_pickF rfl rfl) ?_ | refine DW.tk 15 [6,7] rfl (ov_pick rfl rfl rfl) ?_
        refine DW.done (by kernel_rfl) ?_
        refine KW.thenN ?_
        refine KW.turn (fun w hs => hback _ w hs rfl) ?_
        simp only [List.set_cons_succ, List.set_cons_zero]
        refine CW.condD (by rfl) (fun g2 => ?_) (fun g2 => ?_)
        · have hb : bestS g (o :: os) s = (o :: os) ++ [s] := by rw [bestS, if_neg g1, if_pos g2]
          rw [hb] at hnx
          refine CW.region ?_
          refine LW.v (ov_move rfl) ?_
          refine LW.v (ov_move rfl) ?_
          refine LW.opBA (ob_bs1 so148 zc111 (xs := [_]) rfl rfl rfl (by decide) rfl (fun _ => .c (.c (.c (.c (.c (.c (.c (.c (.n)))))))))) rfl rfl (fun b48 => ?_)
          refine LW.opX (ox_appR 8 so148 zo111 rfl so148 rfl rfl rfl rfl rfl (by omega) (by omega) (by omega) (fun _ => .t (.t (.t (.t (.t (.t (.h)))))))) rfl rfl (fun a49 c49 => ?_)
          refine LW.v (ov_assign rfl) ?_
          refine LW.nil ?_
          refine KW.blockN ?_
          refine KW.thenN ?_
          refine CW.region ?_
          first | refine LW.v (ov_add rfl rfl (by omega)) ?_ | refine LW.v (ov_addW rfl rfl) ?_
          refine LW.v (ov_move rfl) ?_
          refine LW.nil ?_
          refine KW.again (r - 1) [0, 1, 2, 3, 4, 5, 6, 7] (by omega) ⟨k + 1, (o :: os) ++ [s], _, _, by omega, hnx.symm, rfl, rfl⟩ ⟨rfl, by rw [List.length_append]; rfl, rfl, rfl, rfl, trivial⟩ rfl (by rw [List.length_append, lown, List.map_append]; rfl)
        · have hb : bestS g (o :: os) s = o :: os := by rw [bestS, if_neg g1, if_neg g2]
          rw [hb] at hnx
          refine CW.skip ?_
          refine KW.blockN ?_
          refine KW.thenN ?_
          refine CW.region ?_
          first | refine LW.v (ov_add rfl rfl (by omega)) ?_ | refine LW.v (ov_addW rfl rfl) ?_
          refine LW.v (ov_move rfl) ?_
          refine LW.nil ?_
          refine KW.again (r - 1) [0, 1, 2, 3, 4, 5, 6, 7] (by omega) ⟨k + 1, o :: os, _, _, by omega, hnx.symm, rfl, rfl⟩ ⟨rfl, rfl, rfl, rfl, rfl, trivial⟩ rfl rfl
  · obtain rfl : k = is.length := by omega
    rw [List.take_length] at hout
    subst hout
    refine CW.exit ?_
    refine KW.thenX ?_
    refine KW.thenX ?_
    refine KW.hit ?_
    refine KW.thenN ?_
    refine CW.seq ?_
    refine CW.region ?_
    refine LW.v (ov_move rfl) ?_
    refine LW.v (ov_assign rfl) ?_
    refine LW.nil ?_
    refine KW.thenN ?_
    refine CW.ret ?_
    refine KW.turn (fun w hs => hs.imp 1 rfl (own_row h2 h3 h4)) ?_
    simp only [List.set_cons_succ, List.set_cons_zero]
    exact KW.retF (.cons (.tmp rfl) (.nil)) [1, 2, 3, 4, 5, 6] rfl rfl (⟨ad2, c2, rfl, rfl⟩)
end
end Sx
end Go.Proofs.Ytdgphamhpjnmpaa

/- A mux: the channel of the next frame. -/
namespace Go.Proofs.Ytdgphamhpjnmpaa
namespace Sx

def refill (p : Int) (s : Src) : Src := if s.prio = p then { s with credit := s.share } else s
def dec (s : Src) : Src := { s with credit := s.credit - 1 }
def waitL (l : List Src) : List Nat := (List.range 8).filter fun i => decide (0 < sw l i)
def lu (size : Int) (l : List Src) : List Nat := bestL (spr l) (bestL (fun i => min (sw l i / size) 1) (waitL l))
def hd (l : List Nat) : Nat := l.headD 0
def chooseL (size : Int) (l : List Src) : Option Nat × List Src :=
  if waitL l = [] then (none, l) else
  let u := lu size l
  let l' := if scr l (hd (bestL (scr l) u)) = 0 then l.map (refill (spr l (hd u))) else l
  let o := hd (bestL (scr l') u)
  (some o, match l'[o]? with | some s => l'.set o (dec s) | none => l')
structure Src.ok (s : Src) : Prop where
  credit : 0 ≤ s.credit ∧ s.credit ≤ 1000
  share : 1 ≤ s.share ∧ s.share ≤ 1000
  fl : s.fl.ok
theorem fils_map {l l' : List Src} (h : l'.map (fun s => (s.p, s.fl)) = l.map (fun s => (s.p, s.fl))) : fils l' = fils l := by
  have e : ∀ l : List Src, (l.map fun s => filA s.p s.fl) = (l.map fun s => (s.p, s.fl)).map fun x => filA x.1 x.2 := fun l => by rw [List.map_map]; rfl
  rw [fils, fils, e, e, h]
theorem fils_set {l : List Src} {i : Nat} {s s' : Src} (hi : l[i]? = some s) (h : (s'.p, s'.fl) = (s.p, s.fl)) : fils (l.set i s') = fils l := by
  apply fils_map
  rw [List.map_set, h]
  apply List.ext_getElem?
  intro k
  by_cases e : k = i
  · subst e
    rw [List.getElem?_set_self (by simpa using lt_of_get hi), List.getElem?_map, hi]; rfl
  · rw [List.getElem?_set_ne (Ne.symm e)]
theorem fils_mapN {f : Src → Src} (hf : ∀ s, ((f s).p, (f s).fl) = (s.p, s.fl)) : ∀ (k : Nat) (l : List Src), fils (mapN f k l) = fils l := by
  intro k l
  apply fils_map
  induction k generalizing l with
  | zero => rfl
  | succ k ih => cases l with
    | nil => rfl
    | cons x l => simp only [mapN, List.map_cons, hf, ih]
theorem refill_pf (p : Int) (s : Src) : ((refill p s).p, (refill p s).fl) = (s.p, s.fl) := by unfold refill; split <;> rfl
theorem mapN_prio {p : Int} {s : Src} : ∀ (k : Nat) {l : List Src} {i : Nat}, l[i]? = some s → ∃ s2, (mapN (refill p) k l)[i]? = some s2 ∧ s2.prio = s.prio := by
  intro k; induction k with
  | zero => intro l i h; exact ⟨s, h, rfl⟩
  | succ k ih => intro l i h; cases l with
    | nil => cases h
    | cons x l =>
      cases i with
      | zero => simp at h; subst h; exact ⟨refill p x, rfl, by unfold refill; split <;> rfl⟩
      | succ i => simpa [mapN] using ih (l := l) (i := i) (by simpa using h)
theorem hd_cons {l : List Nat} (h : l ≠ []) : ∃ os, l = hd l :: os := by
  cases l with
  | nil => exact absurd rfl h
  | cons o os => exact ⟨os, rfl⟩
theorem waitL_lt {l : List Src} {i : Nat} (h : i ∈ waitL l) : i < 8 := by
  have := List.mem_filter.1 h
  exact List.mem_range.1 this.1
theorem bestL_sub (f : Nat → Int) {l : List Nat} {x : Nat} (h : x ∈ bestL f l) : x ∈ l := by
  rcases bestL_mem f l [] x h with h | h
  · exact h
  · cases h
theorem bestL_len' (f : Nat → Int) (l : List Nat) : (bestL f l).length ≤ l.length := by have := bestL_len f l []; simpa [bestL] using this
theorem lu_sub {size : Int} {l : List Src} {x : Nat} (h : x ∈ lu size l) : x ∈ waitL l := bestL_sub _ (bestL_sub _ h)
theorem lu_ne {size : Int} {l : List Src} (h : waitL l ≠ []) : lu size l ≠ [] := bestL_ne _ (bestL_ne _ h)
theorem hd_mem {l : List Nat} (h : l ≠ []) : hd l ∈ l := by obtain ⟨os, e⟩ := hd_cons h; rw [e]; exact List.mem_cons_self ..
theorem waitL_len (l : List Src) : (waitL l).length ≤ 8 := by
  have := List.length_filter_le (fun i => decide (0 < sw l i)) (List.range 8)
  simpa [waitL] using this
theorem choose_ok {m b c : Nat} {extra : List Value} {M : Mx} (hlen : M.l.length = 8) (hok : ∀ s ∈ M.l, s.ok) (hs : 1 ≤ M.size ∧ M.size ≤ 100000) : Fn Try.prog 41 #[P1 m 0] (mux3 m b c extra M)
    (Ret fun v Q => v = (match (chooseL M.size M.l).1 with | some o => sp b o | none => .pointer none) ∧ Q = mux3 m b c extra { M with l := (chooseL M.size M.l).2 }) := by
  have hM : M.ok := ⟨hlen, fun s h => (hok s h).fl⟩
  refine Fn.of (args := _) Try.func41 rfl Try.ntmps41 rfl ?_
  intro w0 g0
  refine KW.newS 111 1 ?_
  simp only [List.cons_append, List.nil_append]
  refine CW.seq ?_
  refine CW.region ?_
  refine LW.opBA (ob_box rfl (.one rfl) (fun _ => .c (.c (.c (.c (.c (.n))))))) rfl rfl (fun b1 => ?_)
  refine LW.v (ov_assign rfl) ?_
  refine LW.nil ?_
  refine KW.thenN ?_
  refine CW.seq ?_
  refine CW.region ?_
  refine LW.v (ov_assign rfl) ?_
  refine LW.nil ?_
  refine KW.thenN ?_
  refine CW.seq ?_
  refine CW.seq ?_
  refine CW.region ?_
  refine LW.v (ov_loadR 5 ta47 rfl rfl rfl) ?_
  refine LW.v (ov_nilP rfl) ?_
  refine LW.v (ov_fieldAddr fo69_3 rfl) ?_
  refine LW.v (ov_loadR 1 ta67 rfl rfl rfl) ?_
  refine LW.v (ov_lenL so67 rfl) ?_
  refine LW.v (ov_move rfl) ?_
  refine LW.nil ?_
  refine KW.thenN ?_
  refine CW.block ?_
  refine CW.loopW (fun r env As => ∃ (k : Nat) (is : List Nat) (ad : Option Addr) (c2 : Nat), k + r = 8 ∧ is = (List.range k).filter (fun i => decide (0 < sw M.l i)) ∧ env = [(1, P1 b1 0), (3, .slice ad is.length c2), (16, .int .i64 ((8 : Nat) : Int)), (17, .int .i64 k)] ∧
    As = [ex g0, mrow m b c M.craft M.size M.master, srow b extra M.l, fils M.l, lown ad is.length c2 b is, row b1 47 [P1 m 0]]) 8 [0, 1, 2, 3, 4, 5] ⟨0, [], none, 0, rfl, rfl, rfl, rfl⟩ ⟨rfl, rfl, rfl, rfl, trivial⟩ rfl rfl ?_
  rintro r _ _ ⟨k, is, ad, c2, hkr, his, rfl, rfl⟩
  have hisl : is.length ≤ 8 := by
    have := List.length_filter_le (fun i => decide (0 < sw M.l i)) (List.range k)
    rw [← his, List.length_range] at this; omega
  refine CW.seq ?_
  refine CW.region ?_
  refine LW.v (ov_lss rfl rfl) ?_
  refine LW.nil ?_
  refine KW.thenN ?_
  refine CW.seq ?_
  refine CW.condD (by rfl) (fun h => ?_) (fun h => ?_)
  · have hk : k < M.l.length := by omega
    obtain ⟨s, hsk⟩ : ∃ s, M.l[k]? = some s := ⟨_, List.getElem?_eq_getElem hk⟩
    have hF := hM.fl s (List.mem_of_getElem? hsk)
    have hwk : sw M.l k = (s.fl.bytes.length : Int) - s.fl.idle := by rw [sw, hsk]
    refine CW.skip ?_
    refine KW.thenN ?_
    refine CW.seq ?_
    refine CW.block ?_
    refine CW.seq ?_
    refine CW.region ?_
    refine LW.v (ov_move rfl) ?_
    refine LW.v (ov_assign rfl) ?_
    refine LW.nil ?_
    refine KW.thenN ?_
    refine CW.seq ?_
    refine CW.region ?_
    refine LW.v (ov_loadR 5 ta47 rfl rfl rfl) ?_
    refine LW.v (ov_nilP rfl) ?_
    refine LW.v (ov_fieldAddr fo69_3 rfl) ?_
    refine LW.v (ov_loadR 1 ta67 rfl rfl rfl) ?_
    refine LW.v (ov_move rfl) ?_
    refine LW.v (ov_idxL (i := k) so67 rfl rfl rfl (by omega)) ?_
    refine LW.v (ov_assign rfl) ?_
    refine LW.nil ?_
    refine KW.thenN ?_
    refine CW.seq ?_
    refine CW.region ?_
    refine LW.v (ov_move rfl) ?_
    refine LW.v (ov_nilP rfl) ?_
    refine LW.v (ov_fieldAddr fo104_0 rfl) ?_
    refine LW.v (ov_loadR 2 ta100 rfl rfl (srcs_at (j := 0) hsk rfl)) ?_
    refine LW.call [3] (oc_fn cf38 rfl) rfl rfl rfl rfl (fwaitB hsk hF) ?_
    rintro _ _ ⟨rfl, rfl⟩
    simp only [putBack, List.set_cons_succ, List.set_cons_zero, List.append_nil]
    refine LW.v (ov_gtr rfl rfl) ?_
    refine LW.nil ?_
    refine KW.thenN ?_
    refine CW.condD (by rfl) (fun g1 => ?_) (fun g1 => ?_)
    · refine CW.region ?_
      refine LW.v (ov_move rfl) ?_
      refine LW.v (ov_move rfl) ?_
      refine LW.opBA (ob_bs1 so148 zc111 (xs := [_]) rfl rfl rfl (by decide) rfl (fun _ => .c (.c (.c (.c (.c (.c (.n)))))))) rfl rfl (fun b34 => ?_)
      refine LW.opX (ox_appR 6 so148 zo111 rfl so148 rfl rfl rfl rfl rfl (by omega) (by omega) (by omega) (fun _ => .t (.t (.t (.t (.h)))))) rfl rfl (fun a35 c35 => ?_)
      refine LW.v (ov_assign rfl) ?_
      refine LW.nil ?_
      refine KW.blockN ?_
      refine KW.thenN ?_
      refine CW.region ?_
      first | refine LW.v (ov_add rfl rfl (by omega)) ?_ | refine LW.v (ov_addW rfl rfl) ?_
      refine LW.v (ov_move rfl) ?_
      refine LW.nil ?_
      have e : is ++ [k] = (List.range (k + 1)).filter (fun i => decide (0 < sw M.l i)) := by
        rw [List.range_succ, List.filter_append, ← his, List.filter_cons_of_pos (by rw [hwk]; exact decide_eq_true g1)]; rfl
      exact KW.again (r - 1) [0, 1, 2, 3, 4, 5] (by omega) ⟨k + 1, is ++ [k], _, _, by omega, e, rfl, rfl⟩ ⟨rfl, by rw [List.length_append]; rfl, rfl, rfl, trivial⟩ rfl (by rw [List.length_append, lown, List.map_append]; rfl)
    · refine CW.skip ?_
      refine KW.blockN ?_
      refine KW.thenN ?_
      refine CW.region ?_
      first | refine LW.v (ov_add rfl rfl (by omega)) ?_ | refine LW.v (ov_addW rfl rfl) ?_
      refine LW.v (ov_move rfl) ?_
      refine LW.nil ?_
      have e : is = (List.range (k + 1)).filter (fun i => decide (0 < sw M.l i)) := by
        rw [List.range_succ, List.filter_append, ← his, List.filter_cons_of_neg (by rw [hwk]; simpa using g1)]; simp
      exact KW.again (r - 1) [0, 1, 2, 3, 4, 5] (by omega) ⟨k + 1, is, _, _, by omega, e, rfl, rfl⟩ ⟨rfl, rfl, rfl, rfl, trivial⟩ rfl rfl
  · obtain rfl : k = 8 := by omega
    have hisw : is = waitL M.l := his
    refine CW.exit ?_
    refine KW.thenX ?_
    refine KW.thenX ?_
    refine KW.hit ?_
    refine KW.thenN ?_
    refine CW.seq ?_
    refine CW.seq ?_
    refine CW.region ?_
    refine LW.v (ov_move rfl) ?_
    refine LW.v (ov_lenL so148 rfl) ?_
    refine LW.v (ov_eql rfl rfl) ?_
    refine LW.nil ?_
    refine KW.thenN ?_
    refine CW.condD (by rfl) (fun g1 => ?_) (fun g1 => ?_)
    · have h0 : waitL M.l = [] := by rw [← hisw]; exact List.eq_nil_of_length_eq_zero (by omega)
      have hch : chooseL M.size M.l = (none, M.l) := by rw [chooseL, if_pos h0]
      rw [hch]
      refine CW.seq ?_
      refine CW.region ?_
      refine LW.v (ov_assign rfl) ?_
      refine LW.nil ?_
      refine KW.thenN ?_
      refine CW.ret ?_
      refine KW.thenR ?_
      exact KW.retF (.cons (.tmp rfl) (.nil)) [1, 2, 3] rfl rfl (⟨rfl, rfl⟩)
    · have hne : waitL M.l ≠ [] := by rw [← hisw]; intro q; apply g1; rw [q]; rfl
      have hne1 : bestL (fun i => min (sw M.l i / M.size) 1) (waitL M.l) ≠ [] := bestL_ne _ hne
      have hl8 := waitL_len M.l
      have hl1 := bestL_len' (fun i => min (sw M.l i / M.size) 1) (waitL M.l)
      subst hisw
      refine CW.skip ?_
      refine KW.thenN ?_
      refine CW.seq ?_
      refine CW.region ?_
      refine LW.v (ov_mkFunc rfl rfl) ?_
      refine LW.v (ov_build zc151 pl151 rfl (.c rfl (.one rfl) rfl (.h (.n)) (.n))) ?_
      refine LW.opBA (ob_alloc zc151 (fun _ => .c (.c (.c (.c (.c (.c (.n)))))))) rfl rfl (fun b6 => ?_)
      refine LW.opU (ou_storeW ta151 rfl rfl .agg rfl rfl (.h (.n)) (.t (.t (.t (.t (.t (.t (.h)))))))) rfl ?_
      refine LW.nil ?_
      refine KW.thenN ?_
      refine CW.seq ?_
      refine CW.region ?_
      refine LW.v (ov_build zc151 pl151 rfl (.c rfl (.one rfl) rfl (.h (.n)) (.n))) ?_
      refine LW.opBA (ob_alloc zc151 (fun _ => .c (.c (.c (.c (.c (.c (.c (.n))))))))) rfl rfl (fun b7 => ?_)
      refine LW.opU (ou_storeW ta151 rfl rfl .agg rfl rfl (.h (.n)) (.t (.t (.t (.t (.t (.t (.t (.h))))))))) rfl ?_
      refine LW.nil ?_
      refine KW.thenN ?_
      refine CW.seq ?_
      refine CW.region ?_
      refine LW.v (ov_build zc151 pl151 rfl (.c rfl (.one rfl) rfl (.h (.n)) (.n))) ?_
      refine LW.opBA (ob_alloc zc151 (fun _ => .c (.c (.c (.c (.c (.c (.c (.c (.n)))))))))) rfl rfl (fun b8 => ?_)
      refine LW.opU (ou_storeW ta151 rfl rfl .agg rfl rfl (.h (.n)) (.t (.t (.t (.t (.t (.t (.t (.t (.h)))))))))) rfl ?_
      refine LW.nil ?_
      refine KW.thenN ?_
      refine CW.seq ?_
      refine CW.draw [6,7] rfl mixed rfl (ls := #[false, false, false, false, false, false]) (by kernel_rfl) ?_
      refine DW.tk 0 [6,7] rfl (ov_move rfl) ?_
      refine DW.tk 1 [6,7] rfl (ov_loadAR 0 ta151 rfl rfl (.h (.n))) ?_
      refine DW.tk 3 [6,7] rfl (ov_loadAR 1 ta151 rfl rfl (.h (.n))) ?_
      refine DW.all1 2 (by kernel_rfl) ?_
      refine DO.call [6,7] [4, 5, 1, 2, 3] rfl (oc_fn cf73 rfl) rfl rfl rfl rfl (best_ok cf70 hne (by omega) (fun i hi => rule1_ok hM hs (by have := waitL_lt hi; omega))) (by rintro _ _ ⟨ad3, c3, rfl, rfl⟩; exact ⟨rfl, rfl⟩) rfl ?_
      rintro _ _ ⟨ad3, c3, rfl, rfl⟩
      simp only [putBack, List.set_cons_succ, List.set_cons_zero, List.cons_append, List.nil_append]
      refine DW.all1 4 (by kernel_rfl) ?_
      refine DO.call [6,7] [9, 5, 1, 2, 3] rfl (oc_fn cf73 rfl) rfl rfl rfl rfl (best_ok cf71 hne1 (by omega) (fun i hi => rule2_ok (by have := waitL_lt (bestL_sub _ hi); omega))) (by rintro _ _ ⟨ad4, c4, rfl, rfl⟩; exact ⟨rfl, rfl⟩) rfl ?_
      rintro _ _ ⟨ad4, c4, rfl, rfl⟩
      simp only [putBack, List.set_cons_succ, List.set_cons_zero, List.cons_append, List.nil_append]
      refine DW.tk 5 [6,7] rfl (ov_assign rfl) ?_
      refine DW.done (by kernel_rfl) ?_
      refine KW.thenN ?_
      have huf : bestL (spr M.l) (bestL (fun i => min (sw M.l i / M.size) 1) (waitL M.l)) = lu M.size M.l := rfl
      rw [huf]
      have hune := lu_ne (size := M.size) hne
      have hulen : (lu M.size M.l).length ≤ 8 := by rw [← huf]; have := bestL_len' (spr M.l) (bestL (fun i => min (sw M.l i / M.size) 1) (waitL M.l)); omega
      have hulen1 : 0 < (lu M.size M.l).length := List.length_pos_iff.2 hune
      have hult : ∀ x ∈ lu M.size M.l, x < M.l.length := fun x hx => by have := waitL_lt (lu_sub hx); omega
      have hch : chooseL M.size M.l = (some (hd (bestL (scr (if scr M.l (hd (bestL (scr M.l) (lu M.size M.l))) = 0 then M.l.map (refill (spr M.l (hd (lu M.size M.l)))) else M.l)) (lu M.size M.l))),
          match (if scr M.l (hd (bestL (scr M.l) (lu M.size M.l))) = 0 then M.l.map (refill (spr M.l (hd (lu M.size M.l)))) else M.l)[hd (bestL (scr (if scr M.l (hd (bestL (scr M.l) (lu M.size M.l))) = 0 then M.l.map (refill (spr M.l (hd (lu M.size M.l)))) else M.l)) (lu M.size M.l))]? with
          | some s => (if scr M.l (hd (bestL (scr M.l) (lu M.size M.l))) = 0 then M.l.map (refill (spr M.l (hd (lu M.size M.l)))) else M.l).set (hd (bestL (scr (if scr M.l (hd (bestL (scr M.l) (lu M.size M.l))) = 0 then M.l.map (refill (spr M.l (hd (lu M.size M.l)))) else M.l)) (lu M.size M.l))) (dec s)
          | none => (if scr M.l (hd (bestL (scr M.l) (lu M.size M.l))) = 0 then M.l.map (refill (spr M.l (hd (lu M.size M.l)))) else M.l)) := by
        rw [chooseL, if_neg hne]
      rw [hch]
      clear hch huf
      generalize lu M.size M.l = u at hune hulen hulen1 hult ⊢
      obtain ⟨l', hl'⟩ : ∃ l', l' = (if scr M.l (hd (bestL (scr M.l) u)) = 0 then M.l.map (refill (spr M.l (hd u))) else M.l) := ⟨_, rfl⟩
      rw [← hl']
      have hl'len : l'.length = 8 := by rw [hl']; split <;> simp [hlen]
      have hl'ok : ∀ s ∈ l', s.ok := by
        rw [hl']; split
        · intro s hs
          obtain ⟨s0, h0, rfl⟩ := List.mem_map.1 hs
          have := hok s0 h0
          unfold refill; split
          · exact ⟨by have := this.share; simp only; omega, this.share, this.fl⟩
          · exact this
        · exact hok
      obtain ⟨us, hus⟩ := hd_cons hune
      have hhu := hult _ (hd_mem hune)
      obtain ⟨su, hsu⟩ : ∃ s, M.l[hd u]? = some s := ⟨_, List.getElem?_eq_getElem hhu⟩
      have hpu : spr M.l (hd u) = su.prio := by rw [spr, hsu]
      refine CW.cut (fun env As => ∃ ad c3, env = [(1, P1 b1 0), (3, .slice ad u.length c3), (8, P1 b8 0)] ∧ As = [ex g0, mrow m b c M.craft M.size M.master, srow b extra l', fils l', row b1 47 [P1 m 0], row b8 151 [.func (.func 72) #[] #[]], lown ad u.length c3 b u]) (fun Mm hMm => ?_) ?_
      · refine CW.seq ?_
        refine CW.region ?_
        refine LW.v (ov_move rfl) ?_
        refine LW.v (ov_loadAR 8 ta151 rfl rfl (.h (.n))) ?_
        refine LW.call [10, 5, 1, 2, 3] (oc_fn cf73 rfl) rfl rfl rfl rfl (best_ok cf72 hune (by omega) (fun i hi => rule3_ok (hult i hi))) ?_
        rintro _ _ ⟨ad5, c5, rfl, rfl⟩
        simp only [putBack, List.set_cons_succ, List.set_cons_zero, List.cons_append, List.nil_append]
        have hbne := bestL_ne (scr M.l) hune
        obtain ⟨os, hos⟩ := hd_cons hbne
        have hbm := bestL_sub (scr M.l) (hd_mem hbne)
        generalize hbb : bestL (scr M.l) u = bb at hl' hbne hos hbm ⊢
        obtain ⟨so, hso⟩ : ∃ s, M.l[hd bb]? = some s := ⟨_, List.getElem?_eq_getElem (hult _ hbm)⟩
        have hco : scr M.l (hd bb) = so.credit := by rw [scr, hso]
        refine KW.ownC 11 rfl (fun q1 q2 q3 q4 => absurd (List.eq_nil_of_length_eq_zero q2) hbne) (fun bo ex2 q1 q2 q3 q4 => ?_)
        subst q1
        simp only [List.set_cons_succ, List.set_cons_zero]
        refine LW.v (ov_idxL (i := 0) so148 rfl rfl rfl (List.length_pos_iff.2 hbne)) ?_
        refine LW.v (ov_loadR (v := sp b (hd bb)) 11 ta111 rfl rfl (by rw [hos]; rfl)) ?_
        refine LW.v (ov_nilP rfl) ?_
        refine LW.v (ov_fieldAddr fo104_3 rfl) ?_
        refine LW.v (ov_loadR 2 ta3 rfl rfl (srcs_at (j := 3) hso rfl)) ?_
        refine LW.v (ov_eql rfl rfl) ?_
        refine LW.nil ?_
        refine KW.thenN ?_
        refine CW.condD (by rfl) (fun g2 => ?_) (fun g2 => ?_)
        · rw [if_pos (by rw [hco]; exact g2)] at hl'
          refine KW.ownC 10 rfl (fun q1 q2 q3 q4 => absurd (List.eq_nil_of_length_eq_zero q2) hune) (fun bu ex3 r1 r2 r3 r4 => ?_)
          subst r1
          simp only [List.set_cons_succ, List.set_cons_zero]
          refine CW.seq ?_
          refine CW.region ?_
          refine LW.v (ov_loadR 5 ta47 rfl rfl rfl) ?_
          refine LW.v (ov_nilP rfl) ?_
          refine LW.v (ov_fieldAddr fo69_3 rfl) ?_
          refine LW.v (ov_loadR 1 ta67 rfl rfl rfl) ?_
          refine LW.v (ov_lenL so67 rfl) ?_
          refine LW.v (ov_move rfl) ?_
          refine LW.nil ?_
          refine KW.thenN ?_
          refine CW.block ?_
          refine CW.loopW (fun r env As => ∃ k : Nat, k + r = 8 ∧ env = [(1, P1 b1 0), (3, .slice (some ⟨bu, 0, none⟩) u.length c4), (8, P1 b8 0), (62, .int .i64 ((8 : Nat) : Int)), (63, .int .i64 k)] ∧
            As = [ex g0, mrow m b c M.craft M.size M.master, srow b extra (mapN (refill su.prio) k M.l), fils M.l, row b1 47 [P1 m 0], row b8 151 [.func (.func 72) #[] #[]], row bu 111 (u.map (sp b) ++ ex3)]) 8 [0, 1, 2, 3, 5, 8, 10] ⟨0, rfl, rfl, rfl⟩ ⟨rfl, rfl, rfl, rfl, rfl, trivial⟩ rfl rfl ?_
          rintro r _ _ ⟨k, hkr, rfl, rfl⟩
          refine CW.seq ?_
          refine CW.region ?_
          refine LW.v (ov_lss rfl rfl) ?_
          refine LW.nil ?_
          refine KW.thenN ?_
          refine CW.seq ?_
          refine CW.condD (by rfl) (fun g3 => ?_) (fun g3 => ?_)
          · have hk : k < M.l.length := by omega
            obtain ⟨s, hsk⟩ : ∃ s, M.l[k]? = some s := ⟨_, List.getElem?_eq_getElem hk⟩
            have hs0 : (mapN (refill su.prio) k M.l)[k]? = some s := by rw [mapN_get]; exact hsk
            have hset := mapN_set (refill su.prio) k M.l s hsk
            obtain ⟨s2, hs2, hp2⟩ : ∃ s2, (mapN (refill su.prio) k M.l)[hd u]? = some s2 ∧ s2.prio = su.prio := mapN_prio k hsu
            have hml := mapN_len (refill su.prio) k M.l
            generalize mapN (refill su.prio) k M.l = l1 at hs0 hset hs2 hml ⊢
            refine CW.skip ?_
            refine KW.thenN ?_
            refine CW.seq ?_
            refine CW.block ?_
            refine CW.seq ?_
            refine CW.region ?_
            refine LW.v (ov_move rfl) ?_
            refine LW.v (ov_assign rfl) ?_
            refine LW.nil ?_
            refine KW.thenN ?_
            refine CW.seq ?_
            refine CW.region ?_
            refine LW.v (ov_loadR 4 ta47 rfl rfl rfl) ?_
            refine LW.v (ov_nilP rfl) ?_
            refine LW.v (ov_fieldAddr fo69_3 rfl) ?_
            refine LW.v (ov_loadR 1 ta67 rfl rfl rfl) ?_
            refine LW.v (ov_move rfl) ?_
            refine LW.v (ov_idxL (i := k) so67 rfl rfl rfl (by omega)) ?_
            refine LW.v (ov_assign rfl) ?_
            refine LW.nil ?_
            refine KW.thenN ?_
            refine CW.seq ?_
            refine CW.draw [2,6] rfl mixed rfl (ls := #[false, false, false, false, false, false, false, false, false, false, false]) (by kernel_rfl) ?_
            refine DW.tk 0 [2,6] rfl (ov_move rfl) ?_
            first | refine DW.tk 1 [2,6] rfl (ov_nilP rfl) ?_ | refine DW.tk 1 [2,6] rfl (ov_nilF rfl) ?_
            refine DW.tk 2 [2,6] rfl (ov_fieldAddr fo104_1 rfl) ?_
            refine DW.tk 3 [2,6] rfl (ov_loadR 0 ta3 rfl rfl (srcs_at (j := 1) hs0 rfl)) ?_
            refine DW.tk 4 [2,6] rfl (ov_move rfl) ?_
            refine DW.tk 5 [2,6] rfl (ov_idxL (i := 0) so148 rfl rfl rfl hulen1) ?_
            refine DW.tk 6 [2,6] rfl (ov_loadR 1 (v := sp b (hd u)) ta111 rfl rfl (by rw [hus]; rfl)) ?_
            first | refine DW.tk 7 [2,6] rfl (ov_nilP rfl) ?_ | refine DW.tk 7 [2,6] rfl (ov_nilF rfl) ?_
            refine DW.tk 8 [2,6] rfl (ov_fieldAddr fo104_1 rfl) ?_
            refine DW.tk 9 [2,6] rfl (ov_loadR 0 (v := .int .i64 su.prio) ta3 rfl rfl (by rw [← hp2]; exact srcs_at (j := 1) hs2 rfl)) ?_
            refine DW.tk 10 [2,6] rfl (ov_eql rfl rfl) ?_
            refine DW.done (by kernel_rfl) ?_
            refine KW.thenN ?_
            refine CW.condD (by rfl) (fun g4 => ?_) (fun g4 => ?_)
            · refine CW.region ?_
              refine LW.v (ov_move rfl) ?_
              refine LW.v (ov_move rfl) ?_
              refine LW.v (ov_nilP rfl) ?_
              refine LW.v (ov_fieldAddr fo104_2 rfl) ?_
              refine LW.v (ov_loadR 2 ta3 rfl rfl (srcs_at (j := 2) hs0 rfl)) ?_
              refine LW.v (ov_nilP rfl) ?_
              refine LW.v (ov_fieldAddr fo104_3 rfl) ?_
              refine LW.opU (ou_storeAt ta3 rfl rfl rfl (by rw [List.length_append, srcs_len]; omega) (.t (.t (.h)))) rfl ?_
              refine LW.nil ?_
              refine KW.blockN ?_
              refine KW.thenN ?_
              refine CW.region ?_
              first | refine LW.v (ov_add rfl rfl (by omega)) ?_ | refine LW.v (ov_addW rfl rfl) ?_
              refine LW.v (ov_move rfl) ?_
              refine LW.nil ?_
              rw [srcs_set (s' := { s with credit := s.share }) hs0 (by decide) rfl]
              have er : ({ s with credit := s.share } : Src) = refill su.prio s := by rw [refill, if_pos g4]
              rw [er, hset]
              exact KW.again (r - 1) [0, 1, 2, 3, 4, 5, 6] (by omega) ⟨k + 1, by omega, rfl, rfl⟩ ⟨rfl, rfl, rfl, rfl, rfl, trivial⟩ rfl rfl
            · refine CW.skip ?_
              refine KW.blockN ?_
              refine KW.thenN ?_
              refine CW.region ?_
              first | refine LW.v (ov_add rfl rfl (by omega)) ?_ | refine LW.v (ov_addW rfl rfl) ?_
              refine LW.v (ov_move rfl) ?_
              refine LW.nil ?_
              have er : s = refill su.prio s := by rw [refill, if_neg g4]
              have e1 : l1 = mapN (refill su.prio) (k + 1) M.l := by
                rw [← hset, ← er]
                obtain ⟨hi, hg⟩ := List.getElem?_eq_some_iff.1 hs0
                rw [← hg, List.set_getElem_self]
              rw [e1]
              exact KW.again (r - 1) [0, 1, 2, 3, 4, 5, 6] (by omega) ⟨k + 1, by omega, rfl, rfl⟩ ⟨rfl, rfl, rfl, rfl, rfl, trivial⟩ rfl rfl
          · obtain rfl : k = 8 := by omega
            have e1 : mapN (refill su.prio) 8 M.l = l' := by rw [hl', hpu, ← hlen]; exact mapN_all _ _
            have e2 : fils M.l = fils l' := by rw [← e1]; exact (fils_mapN (refill_pf su.prio) 8 M.l).symm
            rw [e1, e2]
            refine CW.exit ?_
            refine KW.thenX ?_
            refine KW.thenX ?_
            refine KW.hit ?_
            refine KW.thenN ?_
            refine KW.turn (fun w hs => hs.imp 6 rfl (own_row r2 r3 r4)) ?_
            simp only [List.set_cons_succ, List.set_cons_zero]
            exact KW.meet [0, 1, 2, 3, 4, 5, 6] hMm ⟨_, _, rfl, rfl⟩ ⟨rfl, rfl, rfl, trivial⟩ rfl rfl
        · rw [if_neg (by rw [hco]; exact g2)] at hl'
          subst hl'
          refine CW.skip ?_
          refine KW.thenN ?_
          exact KW.meet [0, 1, 2, 3, 5, 8, 10] hMm ⟨_, _, rfl, rfl⟩ ⟨rfl, rfl, rfl, trivial⟩ rfl rfl
      rintro _ _ ⟨ad6, c6, rfl, rfl⟩
      refine CW.seq ?_
      refine CW.region ?_
      refine LW.v (ov_move rfl) ?_
      refine LW.v (ov_loadAR 5 ta151 rfl rfl (.h (.n))) ?_
      have hult' : ∀ x ∈ u, x < l'.length := fun x hx => by have := hult x hx; omega
      refine LW.call [6, 4, 1, 2, 3] (oc_fn cf73 rfl) rfl rfl rfl rfl (best_ok (M := { M with l := l' }) cf72 hune (by omega) (fun i hi => rule3_ok (M := { M with l := l' }) (hult' i hi))) ?_
      rintro _ _ ⟨ad7, c7, rfl, rfl⟩
      simp only [putBack, List.set_cons_succ, List.set_cons_zero, List.cons_append, List.nil_append]
      have hbne := bestL_ne (scr l') hune
      obtain ⟨os, hos⟩ := hd_cons hbne
      have hbm := bestL_sub (scr l') (hd_mem hbne)
      generalize bestL (scr l') u = bb at hbne hos hbm ⊢
      obtain ⟨so, hso⟩ : ∃ s, l'[hd bb]? = some s := ⟨_, List.getElem?_eq_getElem (hult' _ hbm)⟩
      have hsok := hl'ok so (List.mem_of_getElem? hso)
      have hcr := hsok.credit
      have hblt := hult' _ hbm
      refine KW.ownC 7 rfl (fun q1 q2 q3 q4 => absurd (List.eq_nil_of_length_eq_zero q2) hbne) (fun bo ex2 q1 q2 q3 q4 => ?_)
      subst q1
      simp only [List.set_cons_succ, List.set_cons_zero]
      refine LW.v (ov_idxL (i := 0) so148 rfl rfl rfl (List.length_pos_iff.2 hbne)) ?_
      refine LW.v (ov_loadR (v := sp b (hd bb)) 7 ta111 rfl rfl (by rw [hos]; rfl)) ?_
      refine LW.v (ov_assign rfl) ?_
      refine LW.nil ?_
      refine KW.thenN ?_
      refine CW.seq ?_
      refine CW.region ?_
      refine LW.v (ov_move rfl) ?_
      refine LW.v (ov_nilP rfl) ?_
      refine LW.v (ov_fieldAddr fo104_3 rfl) ?_
      refine LW.v (ov_loadR 2 ta3 rfl rfl (srcs_at (j := 3) hso rfl)) ?_
      first | refine LW.v (ov_sub rfl rfl (by omega)) ?_ | refine LW.v (ov_subW rfl rfl) ?_
      refine LW.v (ov_nilP rfl) ?_
      refine LW.v (ov_fieldAddr fo104_3 rfl) ?_
      refine LW.opU (ou_storeAt ta3 rfl rfl rfl (by rw [List.length_append, srcs_len]; omega) (.t (.t (.h)))) rfl ?_
      refine LW.nil ?_
      refine KW.thenN ?_
      refine CW.seq ?_
      refine CW.region ?_
      refine LW.v (ov_move rfl) ?_
      refine LW.v (ov_assign rfl) ?_
      refine LW.nil ?_
      refine KW.thenN ?_
      refine CW.ret ?_
      rw [srcs_set (s' := dec so) hso (by decide) rfl]
      have e3 : fils l' = fils (l'.set (hd bb) (dec so)) := (fils_set (s' := dec so) hso rfl).symm
      rw [e3, hso]
      exact KW.retF (.cons (.tmp rfl) (.nil)) [1, 2, 3] rfl rfl (⟨rfl, rfl⟩)
end Sx
end Go.Proofs.Ytdgphamhpjnmpaa

/-
  DERIVED: THE SHELF's CONTRACTS AT THIS DUMP, IN PLAIN WORDS (tools/lay-plain.mjs out of 'TryShelf.lean', which tools/lay-shelf.mjs wrote): THE SAME DECLARATIONS UNDER THE SAME NAMES: 'import', 'namespace', 'open', 'def', 'theorem' AND NOTHING ELSE: no command of the shelf's: FOR A HAND-IN. Each laying: the table of numbers ('.._ren') and one theorem, a field a fact of the dump's own or the kernel's comparison; each contract: ONE APPLICATION.
-/
namespace Go.Proofs
namespace Ytdgphamhpjnmpaa
open Go.Shelf
def Try.lays105_ren : Go.Shelf.Ren := ⟨fun | 105 => 42 | 212 => 74 | 99 => 75 | 165 => 76 | 166 => 77 | 170 => 78 | 169 => 79 | 263 => 95 | 264 => 96 | 206 => 97 | 240 => 98 | 241 => 99 | 276 => 104 | 277 => 105 | n => n, fun | 9 => 9 | 3 => 3 | 4 => 4 | 20 => 20 | 0 => 0 | 46 => 127 | 109 => 153 | 5 => 5 | 72 => 158 | 76 => 161 | 51 => 31 | 146 => 181 | 53 => 123 | 148 => 183 | 70 => 156 | 37 => 107 | 75 => 160 | 127 => 176 | 164 => 189 | 80 => 163 | n => n, fun | n => n⟩
theorem Try.lays105 : Go.Proofs.Lays.n105 Try.prog Try.lays105_ren := {
  mixed := by kernel_rfl
  f99 := Try.func75.trans (congrArg some (by kernel_rfl))
  f105 := Try.func42.trans (congrArg some (by kernel_rfl))
  f165 := Try.func76.trans (congrArg some (by kernel_rfl))
  f166 := Try.func77.trans (congrArg some (by kernel_rfl))
  f169 := Try.func79.trans (congrArg some (by kernel_rfl))
  f170 := Try.func78.trans (congrArg some (by kernel_rfl))
  f206 := Try.func97.trans (congrArg some (by kernel_rfl))
  f212 := Try.func74.trans (congrArg some (by kernel_rfl))
  f240 := Try.func98.trans (congrArg some (by kernel_rfl))
  f241 := Try.func99.trans (congrArg some (by kernel_rfl))
  f263 := Try.func95.trans (congrArg some (by kernel_rfl))
  f264 := Try.func96.trans (congrArg some (by kernel_rfl))
  f276 := Try.func104.trans (congrArg some (by kernel_rfl))
  f277 := Try.func105.trans (congrArg some (by kernel_rfl))
  t0 := Try.underlying0
  a0 := Try.isAgg0
  z0 := Try.sizeOf0
  v0 := Try.zeroValue0
  t3 := Try.underlying3
  a3 := Try.isAgg3
  z3 := Try.sizeOf3
  v3 := Try.zeroValue3
  t4 := Try.underlying4
  a4 := Try.isAgg4
  z4 := Try.sizeOf4
  v4 := Try.zeroValue4
  t5 := Try.underlying5
  a5 := Try.isAgg5
  z5 := Try.sizeOf5
  v5 := Try.zeroValue5
  t9 := Try.underlying9
  a9 := Try.isAgg9
  z9 := Try.sizeOf9
  v9 := Try.zeroValue9
  t20 := Try.underlying20
  a20 := Try.isAgg20
  z20 := Try.sizeOf20
  v20 := Try.zeroValue20
  t37 := Try.underlying107
  a37 := Try.isAgg107
  z37 := Try.sizeOf107
  v37 := Try.zeroValue107
  t46 := Try.underlying127
  a46 := Try.isAgg127
  z46 := Try.sizeOf127
  v46 := Try.zeroValue127
  t51 := Try.underlying31
  a51 := Try.isAgg31
  z51 := Try.sizeOf31
  v51 := Try.zeroValue31
  t53 := Try.underlying123
  a53 := Try.isAgg123
  z53 := Try.sizeOf123
  v53 := Try.zeroValue123
  t70 := Try.underlying156
  a70 := Try.isAgg156
  z70 := Try.sizeOf156
  v70 := Try.zeroValue156
  t72 := Try.underlying158
  a72 := Try.isAgg158
  z72 := Try.sizeOf158
  v72 := Try.zeroValue158
  t75 := Try.underlying160
  a75 := Try.isAgg160
  z75 := Try.sizeOf160
  v75 := Try.zeroValue160
  t76 := Try.underlying161
  a76 := Try.isAgg161
  z76 := Try.sizeOf161
  v76 := Try.zeroValue161
  t109 := Try.underlying153
  a109 := Try.isAgg153
  z109 := Try.sizeOf153
  v109 := Try.zeroValue153
  t127 := Try.underlying176
  a127 := Try.isAgg176
  z127 := Try.sizeOf176
  v127 := Try.zeroValue176
  t146 := Try.underlying181
  a146 := Try.isAgg181
  z146 := Try.sizeOf181
  v146 := Try.zeroValue181
  t148 := Try.underlying183
  a148 := Try.isAgg183
  z148 := Try.sizeOf183
  v148 := Try.zeroValue183
  t164 := Try.underlying189
  a164 := Try.isAgg189
  z164 := Try.sizeOf189
  v164 := Try.zeroValue189 }
theorem Try.Builder_Extra_105 : Builder.Extra Try.prog Try.lays105_ren := {
  sizeBuilder := by kernel_rfl
  liesBuilder := by kernel_rfl
  t5 := Try.underlying5
  a5 := Try.isAgg5
  z5 := Try.sizeOf5
  v5 := Try.zeroValue5
  infoByte := by kernel_rfl
  cellsByte := by kernel_rfl
  sizeByte := by kernel_rfl
  neB5 := by decide }
open Go.RowKit Go.Lib in
/-- **strings.Repeat: count ≥ 0, the result within one allocation: count copies of s.** (LAID: no walk: one application.) -/
theorem Try.strings_Repeat (s : ByteArray) (c : Nat) (w : World) (hc : c ≤ 9223372036854775807) (hlen : s.size * c ≤ 140737488355328) :
    Calls Try.prog 42 #[.string s, .int .i64 c] w fun e w' => e = .returned (.string ⟨(Lib.repeatL s.data.toList c).toArray⟩) ∧ Below w.heap.size w w' := Any.strings_Repeat Try.lays105 Try.Builder_Extra_105 s c w hc hlen
end Ytdgphamhpjnmpaa
end Go.Proofs

/- A mux: the next frame. -/
namespace Go.Proofs.Ytdgphamhpjnmpaa
namespace Sx
open Go.RowKit

theorem Fn.ofBelow {P : Program} {f : FuncId} {args : Array Value} {v : Value} (h : ∀ w, Calls P f args w fun e w' => e = .returned v ∧ Below w.heap.size w w') : Fn P f args [] (Ret fun u Q => u = v ∧ Q = []) := by
  intro w g hs
  refine (h w).mono fun e w' ⟨he, hb⟩ => ?_
  subst he
  exact ⟨[], ⟨rfl, rfl⟩, hs.keep fun k hk => hb.block k hk, ⟨hb.os, hb.tape, hb.output⟩⟩
theorem rep85 : ∀ n, Lib.repeatL [85] n = List.replicate n (85 : UInt8) := by
  intro n; induction n with
  | zero => rfl
  | succ n ih => rw [List.replicate_succ, ← ih]; rfl
theorem repeat_ok {n : Nat} (hn : n ≤ 100000) : Fn Try.prog 42 #[S [85], .int .i64 n] [] (Ret fun v Q => v = S (List.replicate n 85) ∧ Q = []) := by
  have h : ∀ w, Calls Try.prog 42 #[S [85], .int .i64 n] w fun e w' => e = .returned (S (List.replicate n 85)) ∧ Below w.heap.size w w' := fun w => by
    have h0 := Try.strings_Repeat ⟨#[85]⟩ n w (by omega) (by show 1 * n ≤ _; omega)
    have e := rep85 n
    refine h0.mono fun e' w' ⟨h1, h2⟩ => ⟨?_, h2⟩
    rw [h1]
    show Ending.returned (.string ⟨(Lib.repeatL [85] n).toArray⟩) = _
    rw [e]; rfl
  exact Fn.ofBelow h
def nxt (M : Mx) : Nat × List UInt8 × Int × List Src :=
  match (chooseL M.size M.l).1 with
  | none => (7, List.replicate M.size.toNat 85, 2046, (chooseL M.size M.l).2)
  | some o => match (chooseL M.size M.l).2[o]? with
    | some s => (o, (flNext s.fl).1, (flNext s.fl).2.1, (chooseL M.size M.l).2.set o { s with fl := (flNext s.fl).2.2.2 })
    | none => (7, [], 0, (chooseL M.size M.l).2)
def inc (s : Src) : Src := { s with count := (s.count + 1) % 256 }
def cntAt (l : List Src) (k : Nat) : Int := match l[k]? with | some s => s.count | none => 0
def incAt (l : List Src) (k : Nat) : List Src := match l[k]? with | some s => l.set k (inc s) | none => l
def frameOf (M : Mx) (word : Int) : Tf := ⟨M.craft, (nxt M).1, M.master, cntAt (nxt M).2.2.2 (nxt M).1, (nxt M).2.2.1, (nxt M).2.1, word⟩
def mxNext (M : Mx) : Mx := { M with master := (M.master + 1) % 256, l := incAt (nxt M).2.2.2 (nxt M).1 }
/-- what a choice leaves as it was -/
structure SameS (s s' : Src) : Prop where
  p : s'.p = s.p
  prio : s'.prio = s.prio
  share : s'.share = s.share
  count : s'.count = s.count
  fl : s'.fl = s.fl
theorem chooseL_same (size : Int) (l : List Src) : (chooseL size l).2.length = l.length ∧ ∀ (i : Nat) (s' : Src), (chooseL size l).2[i]? = some s' → ∃ s, l[i]? = some s ∧ SameS s s' := by
  have h0 : ∀ (i : Nat) (s' : Src), l[i]? = some s' → ∃ s, l[i]? = some s ∧ SameS s s' := fun i s' h => ⟨s', h, ⟨rfl, rfl, rfl, rfl, rfl⟩⟩
  unfold chooseL
  split
  · exact ⟨rfl, h0⟩
  · simp only
    have h1 : ∀ p : Int, (l.map (refill p)).length = l.length ∧ ∀ (i : Nat) (s' : Src), (l.map (refill p))[i]? = some s' → ∃ s, l[i]? = some s ∧ SameS s s' := fun p => by
      refine ⟨List.length_map _, fun i s' h => ?_⟩
      rw [List.getElem?_map] at h
      cases e : l[i]? with
      | none => rw [e] at h; cases h
      | some s =>
        rw [e] at h; simp only [Option.map_some, Option.some.injEq] at h; subst h
        refine ⟨s, rfl, ?_⟩
        unfold refill; split <;> exact ⟨rfl, rfl, rfl, rfl, rfl⟩
    generalize hl' : (if scr l (hd (bestL (scr l) (lu size l))) = 0 then l.map (refill (spr l (hd (lu size l)))) else l) = l'
    have h2 : l'.length = l.length ∧ ∀ (i : Nat) (s' : Src), l'[i]? = some s' → ∃ s, l[i]? = some s ∧ SameS s s' := by
      subst hl'; split
      · exact h1 _
      · exact ⟨rfl, h0⟩
    split
    · rename_i s hs
      refine ⟨by rw [List.length_set]; exact h2.1, fun i s' h => ?_⟩
      by_cases e : i = hd (bestL (scr l') (lu size l))
      · rw [e, List.getElem?_set_self (lt_of_get hs)] at h
        simp only [Option.some.injEq] at h; subst h
        obtain ⟨s0, g0, g⟩ := h2.2 _ s hs
        exact ⟨s0, by rw [e]; exact g0, ⟨g.p, g.prio, g.share, g.count, g.fl⟩⟩
      · rw [List.getElem?_set_ne (Ne.symm e)] at h
        exact h2.2 i s' h
    · exact h2
theorem chooseL_lt {size : Int} {l : List Src} {o : Nat} (h : (chooseL size l).1 = some o) : o < 8 := by
  unfold chooseL at h
  split at h
  · cases h
  · rename_i hne
    simp only [Option.some.injEq] at h
    subst h
    exact waitL_lt (lu_sub (bestL_sub _ (hd_mem (bestL_ne _ (lu_ne hne)))))
structure Mx.good (M : Mx) : Prop where
  len : M.l.length = 8
  ok : ∀ s ∈ M.l, s.ok
  size : 32 ≤ M.size ∧ M.size ≤ 200
  master : 0 ≤ M.master ∧ M.master ≤ 255
  count : ∀ s ∈ M.l, 0 ≤ s.count ∧ s.count ≤ 255
theorem mnext_ok {m b c : Nat} {extra : List Value} {M : Mx} (hM : M.good) {word : Int} (hw : 0 ≤ word ∧ word < 4294967296) : Fn Try.prog 21 #[P1 m 0, .int .u32 word] (mux3 m b c extra M)
    (Ret fun v Q => v = (if (frameOf M word).ok then .tuple #[S (encF (frameOf M word)), .int .i64 0] else .tuple #[S [], .int .i64 2]) ∧ Q = mux3 m b c extra (mxNext M)) := by
  obtain ⟨hlen, hok, hsz, hma, hct⟩ := hM
  have hcs := chooseL_same M.size M.l
  have hch := choose_ok (m := m) (b := b) (c := c) (extra := extra) (M := M) hlen hok (by omega)
  have hfr : frameOf M word = ⟨M.craft, (nxt M).1, M.master, cntAt (nxt M).2.2.2 (nxt M).1, (nxt M).2.2.1, (nxt M).2.1, word⟩ := rfl
  have hmn : mxNext M = { M with master := (M.master + 1) % 256, l := incAt (nxt M).2.2.2 (nxt M).1 } := rfl
  have hnx : nxt M = match (chooseL M.size M.l).1 with
    | none => (7, List.replicate M.size.toNat 85, 2046, (chooseL M.size M.l).2)
    | some o => match (chooseL M.size M.l).2[o]? with
      | some s => (o, (flNext s.fl).1, (flNext s.fl).2.1, (chooseL M.size M.l).2.set o { s with fl := (flNext s.fl).2.2.2 })
      | none => (7, [], 0, (chooseL M.size M.l).2) := rfl
  rw [hfr, hmn]
  have hlt := @chooseL_lt M.size M.l
  generalize hcc : chooseL M.size M.l = cc at hcs hch hnx hlt
  obtain ⟨oo, l1⟩ := cc
  simp only at hcs hch hnx hlt
  rw [hlen] at hcs
  have hok1 : ∀ (i : Nat) (s : Src), l1[i]? = some s → s.fl.ok ∧ 0 ≤ s.count ∧ s.count ≤ 255 := fun i s h => by
    obtain ⟨s0, h0, g⟩ := hcs.2 i s h
    have h1 := hok s0 (List.mem_of_getElem? h0)
    have h2 := hct s0 (List.mem_of_getElem? h0)
    rw [g.fl, g.count]; exact ⟨h1.fl, h2⟩
  generalize nxt M = nx at hnx ⊢
  refine Fn.of (args := _) Try.func21 rfl Try.ntmps21 rfl ?_
  intro w0 g0
  refine CW.seq ?_
  refine CW.region ?_
  refine LW.v (ov_assign rfl) ?_
  refine LW.v (ov_assign rfl) ?_
  refine LW.nil ?_
  refine KW.thenN ?_
  refine CW.seq ?_
  refine CW.seq ?_
  refine CW.region ?_
  refine LW.v (ov_move rfl) ?_
  refine LW.call [1] (oc_fn cf37 rfl) rfl rfl rfl rfl (mnone_ok) ?_
  rintro _ _ ⟨rfl, rfl⟩
  simp only [putBack, List.set_cons_succ, List.set_cons_zero, List.append_nil]
  refine LW.nil ?_
  refine KW.thenN ?_
  refine CW.condF rfl rfl ?_
  refine CW.skip ?_
  refine KW.thenN ?_
  refine CW.seq ?_
  refine CW.draw [1] rfl mixed rfl (ls := #[false, false, false, false, false, false, false, false, false, false, false, false]) (by kernel_rfl) ?_
  refine DW.tk 0 [1] rfl (ov_move rfl) ?_
  first | refine DW.tk 1 [1] rfl (ov_nilP rfl) ?_ | refine DW.tk 1 [1] rfl (ov_nilF rfl) ?_
  refine DW.tk 2 [1] rfl (ov_fieldAddr fo69_0 rfl) ?_
  refine DW.tk 3 [1] rfl (ov_loadR 0 ta3 rfl rfl rfl) ?_
  refine DW.tk 4 [1] rfl (ov_move rfl) ?_
  first | refine DW.tk 5 [1] rfl (ov_nilP rfl) ?_ | refine DW.tk 5 [1] rfl (ov_nilF rfl) ?_
  refine DW.tk 6 [1] rfl (ov_fieldAddr fo69_2 rfl) ?_
  refine DW.tk 7 [1] rfl (ov_loadR 0 ta3 rfl rfl rfl) ?_
  refine DW.tk 8 [1] rfl (ov_move rfl) ?_
  refine DW.tk 9 [1] rfl (ov_build zc85 pl85 rfl (.c rfl (.one rfl) rfl (.h (.n)) (.c rfl (.one rfl) rfl (.t (.h (.n))) (.c rfl (.one rfl) rfl (.t (.t (.h (.n)))) (.c rfl (.one rfl) rfl (.t (.t (.t (.t (.h (.n)))))) (.c rfl (.one rfl) rfl (.t (.t (.t (.t (.t (.t (.h (.n)))))))) (.n))))))) ?_
  refine DW.all1 10 (by kernel_rfl) ?_
  refine DO.opBA [1] rfl (ob_alloc zc85 (fun _ => .c (.c (.c (.c (.n)))))) rfl rfl (fun _ => rfl) (fun _ => rfl) rfl (fun b6 => ?_)
  refine DW.all1 11 (by kernel_rfl) ?_
  refine DO.opU [1] rfl (ou_storeW ta85 rfl rfl .agg rfl rfl (.h (.h (.h (.h (.h (.h (.h (.n)))))))) (.t (.t (.t (.t (.h)))))) rfl rfl rfl rfl ?_
  refine DW.done (by kernel_rfl) ?_
  refine KW.thenN ?_
  refine CW.seq ?_
  refine CW.region ?_
  refine LW.v (ov_move rfl) ?_
  refine LW.call [1, 2, 3] (oc_fn cf41 rfl) rfl rfl rfl rfl (hch) ?_
  rintro _ _ ⟨rfl, rfl⟩
  simp only [putBack, List.set_cons_succ, List.set_cons_zero, List.append_nil]
  refine LW.v (ov_assign rfl) ?_
  refine LW.nil ?_
  refine KW.thenN ?_
  refine CW.cut (fun env As => ∃ b6 s, nx.1 < 8 ∧ nx.2.2.2.length = 8 ∧ nx.2.2.2[nx.1]? = some s ∧ 0 ≤ s.count ∧ s.count ≤ 255 ∧ env = [(0, P1 m 0), (6, P1 b6 0), (7, sp b nx.1)] ∧
    As = [ex g0, mrow m b c M.craft M.size M.master, srow b extra nx.2.2.2, fils nx.2.2.2, row b6 85 [.int .i64 M.craft, .int .i64 nx.1, .int .i64 M.master, .int .i64 0, .int .i64 nx.2.2.1, S nx.2.1, .int .u32 word]]) (fun Mm hMm => ?_) ?_
  · cases oo with
    | none =>
      refine CW.seq ?_
      refine CW.region ?_
      refine LW.v (ov_move rfl) ?_
      refine LW.v (ov_ptreql un111 rfl rfl (by simp)) ?_
      refine LW.nil ?_
      refine KW.thenN ?_
      refine CW.condT rfl rfl ?_
      refine CW.seq ?_
      refine CW.draw [1,4] rfl mixed rfl (ls := #[false, false, false, false, false, false, false, false]) (by kernel_rfl) ?_
      simp only at hnx
      subst hnx
      obtain ⟨n, hn⟩ : ∃ n : Nat, M.size = n := ⟨M.size.toNat, by omega⟩
      obtain ⟨s7, hs7⟩ : ∃ s, l1[7]? = some s := ⟨_, List.getElem?_eq_getElem (by omega)⟩
      have hk7 := hok1 7 s7 hs7
      have hn2 : M.size.toNat = n := by omega
      refine DW.tk 0 [1,4] rfl (ov_move rfl) ?_
      first | refine DW.tk 1 [1,4] rfl (ov_nilP rfl) ?_ | refine DW.tk 1 [1,4] rfl (ov_nilF rfl) ?_
      refine DW.tk 2 [1,4] rfl (ov_fieldAddr fo69_3 rfl) ?_
      refine DW.tk 3 [1,4] rfl (ov_loadR 0 ta67 rfl rfl rfl) ?_
      refine DW.tk 4 [1,4] rfl (ov_fieldAddr fo85_1 rfl) ?_
      refine DW.tk 5 [1,4] rfl (ov_loadR 1 ta3 rfl rfl rfl) ?_
      refine DW.tk 6 [1,4] rfl (ov_idxL (i := 7) so67 rfl rfl rfl (by omega)) ?_
      refine DW.tk 7 [1,4] rfl (ov_assign rfl) ?_
      refine DW.done (by kernel_rfl) ?_
      refine KW.thenN ?_
      refine CW.region ?_
      refine LW.v (ov_move rfl) ?_
      refine LW.v (ov_nilP rfl) ?_
      refine LW.v (ov_fieldAddr fo69_1 rfl) ?_
      refine LW.v (OpV.eq (ov_loadR 1 ta3 rfl rfl rfl) (congrArg (Value.int .i64) hn)) ?_
      refine LW.call [] (oc_fn cf42 rfl) rfl rfl rfl rfl (repeat_ok (n := n) (by omega)) ?_
      rintro _ _ ⟨rfl, rfl⟩
      simp only [putBack, List.append_nil]
      refine LW.v (ov_fieldAddr fo85_5 rfl) ?_
      refine LW.opU (ou_storeW ta9 rfl rfl (.one rfl) rfl rfl (.t (.t (.t (.t (.t (.h (.n))))))) (.t (.t (.t (.t (.h)))))) rfl ?_
      refine LW.nil ?_
      refine KW.thenN ?_
      exact KW.meet [0, 1, 2, 3, 4] hMm ⟨b6, s7, show 7 < 8 by decide, hcs.1, hs7, hk7.2.1, hk7.2.2, rfl, rfl⟩ ⟨rfl, rfl, rfl, trivial⟩ rfl (by rw [hn2]; rfl)
    | some o =>
      have ho := hlt rfl
      obtain ⟨s, hs⟩ : ∃ s, l1[o]? = some s := ⟨_, List.getElem?_eq_getElem (by omega)⟩
      have hk := hok1 o s hs
      simp only [hs] at hnx
      subst hnx
      have hsl : (l1.set o { s with fl := (flNext s.fl).2.2.2 })[o]? = some { s with fl := (flNext s.fl).2.2.2 } := List.getElem?_set_self (lt_of_get hs)
      have esr : srow b extra l1 = srow b extra (l1.set o { s with fl := (flNext s.fl).2.2.2 }) := by simp only [srow]; rw [srcs_setfl hs]
      refine CW.seq ?_
      refine CW.region ?_
      refine LW.v (ov_move rfl) ?_
      refine LW.v (ov_ptreql un111 rfl rfl (by simp)) ?_
      refine LW.nil ?_
      refine KW.thenN ?_
      refine CW.condF rfl rfl ?_
      refine CW.seq ?_
      refine CW.region ?_
      refine LW.v (ov_move rfl) ?_
      refine LW.v (ov_nilP rfl) ?_
      refine LW.v (ov_fieldAddr fo104_0 rfl) ?_
      refine LW.v (ov_loadR 2 ta100 rfl rfl (srcs_at (j := 0) hs rfl)) ?_
      refine LW.call [3] (oc_fn cf43 rfl) rfl rfl rfl rfl (fnextB hs hk.1) ?_
      rintro _ _ ⟨rfl, rfl⟩
      simp only [putBack, List.set_cons_succ, List.set_cons_zero, List.append_nil]
      refine LW.v (ov_move rfl) ?_
      refine LW.v (ov_extract rfl rfl) ?_
      refine LW.v (ov_extract rfl rfl) ?_
      refine LW.v (ov_extract rfl rfl) ?_
      refine LW.v (ov_fieldAddr fo85_5 rfl) ?_
      refine LW.opU (ou_storeW ta9 rfl rfl (.one rfl) rfl rfl (.t (.t (.t (.t (.t (.h (.n))))))) (.t (.t (.t (.t (.h)))))) rfl ?_
      refine LW.v (ov_fieldAddr fo85_4 rfl) ?_
      refine LW.opU (ou_storeW ta3 rfl rfl (.one rfl) rfl rfl (.t (.t (.t (.t (.h (.n)))))) (.t (.t (.t (.t (.h)))))) rfl ?_
      refine LW.nil ?_
      refine KW.thenN ?_
      refine CW.seq ?_
      refine CW.region ?_
      refine LW.v (ov_move rfl) ?_
      refine LW.v (ov_nilP rfl) ?_
      refine LW.v (ov_fieldAddr fo69_3 rfl) ?_
      refine LW.v (ov_loadR 1 ta67 rfl rfl rfl) ?_
      refine LW.v (ov_lenL so67 rfl) ?_
      refine LW.v (ov_move rfl) ?_
      refine LW.nil ?_
      refine KW.thenN ?_
      refine CW.block ?_
      rw [esr]
      refine CW.loopW (fun r env As => ∃ k : Nat, k + r = 8 ∧ env = [(0, P1 m 0), (6, P1 b6 0), (7, sp b o), (53, .int .i64 ((8 : Nat) : Int)), (54, .int .i64 k)] ∧
        As = [ex g0, mrow m b c M.craft M.size M.master, srow b extra (l1.set o { s with fl := (flNext s.fl).2.2.2 }), fils (l1.set o { s with fl := (flNext s.fl).2.2.2 }), row b6 85 [.int .i64 M.craft, .int .i64 (if o < k then (o : Int) else 7), .int .i64 M.master, .int .i64 0, .int .i64 (flNext s.fl).2.1, S (flNext s.fl).1, .int .u32 word]]) 8 [0, 1, 2, 3, 4] ⟨0, rfl, rfl, rfl⟩ ⟨rfl, rfl, rfl, rfl, rfl, trivial⟩ rfl rfl ?_
      rintro r _ _ ⟨k, hkr, rfl, rfl⟩
      refine CW.seq ?_
      refine CW.region ?_
      refine LW.v (ov_lss rfl rfl) ?_
      refine LW.nil ?_
      refine KW.thenN ?_
      refine CW.seq ?_
      refine CW.condD (by rfl) (fun h => ?_) (fun h => ?_)
      · refine CW.skip ?_
        refine KW.thenN ?_
        refine CW.seq ?_
        refine CW.block ?_
        refine CW.seq ?_
        refine CW.region ?_
        refine LW.v (ov_move rfl) ?_
        refine LW.v (ov_assign rfl) ?_
        refine LW.nil ?_
        refine KW.thenN ?_
        refine CW.seq ?_
        refine CW.region ?_
        refine LW.v (ov_move rfl) ?_
        refine LW.v (ov_move rfl) ?_
        refine LW.v (ov_nilP rfl) ?_
        refine LW.v (ov_fieldAddr fo69_3 rfl) ?_
        refine LW.v (ov_loadR 1 ta67 rfl rfl rfl) ?_
        refine LW.v (ov_move rfl) ?_
        refine LW.v (ov_idxL (i := k) so67 rfl rfl rfl (by omega)) ?_
        refine LW.v (OpV.eq (ov_ptrSame un111 ta104 (by decide) rfl rfl) (congrArg Value.bool (show decide (0 + o * 5 = 0 + k * 5) = decide (o = k) from decide_eq_decide.2 (by omega)))) ?_
        refine LW.nil ?_
        refine KW.thenN ?_
        refine CW.condD (by rfl) (fun g1 => ?_) (fun g1 => ?_)
        · subst g1
          refine CW.region ?_
          refine LW.v (ov_move rfl) ?_
          refine LW.v (ov_fieldAddr fo85_1 rfl) ?_
          refine LW.opU (ou_storeW ta3 rfl rfl (.one rfl) rfl rfl (.t (.h (.n))) (.t (.t (.t (.t (.h)))))) rfl ?_
          refine LW.nil ?_
          refine KW.blockN ?_
          refine KW.thenN ?_
          refine CW.region ?_
          first | refine LW.v (ov_add rfl rfl (by omega)) ?_ | refine LW.v (ov_addW rfl rfl) ?_
          refine LW.v (ov_move rfl) ?_
          refine LW.nil ?_
          exact KW.again (r - 1) [0, 1, 2, 3, 4] (by omega) ⟨o + 1, by omega, rfl, rfl⟩ ⟨rfl, rfl, rfl, rfl, rfl, trivial⟩ rfl (by rw [if_pos (Nat.lt_succ_self o)]; rfl)
        · refine CW.skip ?_
          refine KW.blockN ?_
          refine KW.thenN ?_
          refine CW.region ?_
          first | refine LW.v (ov_add rfl rfl (by omega)) ?_ | refine LW.v (ov_addW rfl rfl) ?_
          refine LW.v (ov_move rfl) ?_
          refine LW.nil ?_
          have e : (if o < k + 1 then (o : Int) else 7) = if o < k then (o : Int) else 7 := by
            by_cases q : o < k
            · rw [if_pos q, if_pos (by omega)]
            · rw [if_neg q, if_neg (by omega)]
          exact KW.again (r - 1) [0, 1, 2, 3, 4] (by omega) ⟨k + 1, by omega, rfl, rfl⟩ ⟨rfl, rfl, rfl, rfl, rfl, trivial⟩ rfl (by rw [e]; rfl)
      · obtain rfl : k = 8 := by omega
        rw [if_pos ho]
        refine CW.exit ?_
        refine KW.thenX ?_
        refine KW.thenX ?_
        refine KW.hit ?_
        refine KW.thenN ?_
        exact KW.meet [0, 1, 2, 3, 4] hMm ⟨b6, _, ho, by rw [List.length_set]; exact hcs.1, hsl, hk.2.1, hk.2.2, rfl, rfl⟩ ⟨rfl, rfl, rfl, trivial⟩ rfl rfl
  rintro _ _ ⟨b6, s, hk8, hl8, hs, hc1, hc2, rfl, rfl⟩
  clear hnx hcs hch hok1 hlt
  obtain ⟨k, data, first, l2⟩ := nx
  simp only at hk8 hl8 hs ⊢
  have hca : cntAt l2 k = s.count := by rw [cntAt, hs]
  have hia : incAt l2 k = l2.set k (inc s) := by rw [incAt, hs]
  rw [hca, hia]
  have hput := TPut_ok ⟨M.craft, k, M.master, s.count, first, data, word⟩ hw
  refine CW.seq ?_
  refine CW.region ?_
  refine LW.v (ov_move rfl) ?_
  refine LW.v (ov_nilP rfl) ?_
  refine LW.v (ov_fieldAddr fo104_4 rfl) ?_
  refine LW.v (ov_loadR 2 ta3 rfl rfl (srcs_at (j := 4) hs rfl)) ?_
  refine LW.v (ov_fieldAddr fo85_3 rfl) ?_
  refine LW.opU (ou_storeW ta3 rfl rfl (.one rfl) rfl rfl (.t (.t (.t (.h (.n))))) (.t (.t (.t (.t (.h)))))) rfl ?_
  refine LW.nil ?_
  refine KW.thenN ?_
  refine CW.seq ?_
  refine CW.region ?_
  refine LW.v (ov_move rfl) ?_
  refine LW.v (ov_move rfl) ?_
  refine LW.v (ov_nilP rfl) ?_
  refine LW.v (ov_fieldAddr fo69_2 rfl) ?_
  refine LW.v (ov_loadR 1 ta3 rfl rfl rfl) ?_
  first | refine LW.v (ov_add rfl rfl (by omega)) ?_ | refine LW.v (ov_addW rfl rfl) ?_
  refine LW.v (ov_rem rfl rfl (by omega) (by omega)) ?_
  refine LW.v (ov_nilP rfl) ?_
  refine LW.v (ov_fieldAddr fo69_2 rfl) ?_
  refine LW.opU (ou_storeW ta3 rfl rfl (.one rfl) rfl rfl (.t (.t (.h (.n)))) (.t (.h))) rfl ?_
  refine LW.nil ?_
  refine KW.thenN ?_
  refine CW.seq ?_
  refine CW.region ?_
  refine LW.v (ov_move rfl) ?_
  refine LW.v (ov_move rfl) ?_
  refine LW.v (ov_nilP rfl) ?_
  refine LW.v (ov_fieldAddr fo104_4 rfl) ?_
  refine LW.v (ov_loadR 2 ta3 rfl rfl (srcs_at (j := 4) hs rfl)) ?_
  first | refine LW.v (ov_add rfl rfl (by omega)) ?_ | refine LW.v (ov_addW rfl rfl) ?_
  refine LW.v (ov_rem rfl rfl (by omega) (by omega)) ?_
  refine LW.v (ov_nilP rfl) ?_
  refine LW.v (ov_fieldAddr fo104_4 rfl) ?_
  refine LW.opU (ou_storeAt ta3 rfl rfl rfl (by rw [List.length_append, srcs_len]; omega) (.t (.t (.h)))) rfl ?_
  refine LW.nil ?_
  refine KW.thenN ?_
  rw [srcs_set (s' := inc s) hs (by decide) rfl]
  have e3 : fils l2 = fils (l2.set k (inc s)) := (fils_set (s' := inc s) hs rfl).symm
  rw [e3]
  by_cases hf : Tf.ok ⟨M.craft, k, M.master, s.count, first, data, word⟩
  · rw [if_pos hf] at hput ⊢
    refine CW.seq ?_
    refine CW.region ?_
    refine LW.v (ov_loadAR 4 ta85 rfl rfl (.h (.h (.h (.h (.h (.h (.h (.n))))))))) ?_
    refine LW.call [] (oc_fn cf44 rfl) rfl rfl rfl rfl (hput) ?_
    rintro _ _ ⟨rfl, rfl⟩
    simp only [putBack, List.append_nil]
    refine LW.v (ov_extract rfl rfl) ?_
    refine LW.v (ov_extract rfl rfl) ?_
    refine LW.v (ov_assign rfl) ?_
    refine LW.v (ov_assign rfl) ?_
    refine LW.nil ?_
    refine KW.thenN ?_
    refine CW.ret ?_
    exact KW.retF (.cons (.tmp rfl) (.cons (.tmp rfl) (.nil))) [1, 2, 3] rfl rfl (⟨rfl, rfl⟩)
  · rw [if_neg hf] at hput ⊢
    refine CW.seq ?_
    refine CW.region ?_
    refine LW.v (ov_loadAR 4 ta85 rfl rfl (.h (.h (.h (.h (.h (.h (.h (.n))))))))) ?_
    refine LW.call [] (oc_fn cf44 rfl) rfl rfl rfl rfl (hput) ?_
    rintro _ _ ⟨rfl, rfl⟩
    simp only [putBack, List.append_nil]
    refine LW.v (ov_extract rfl rfl) ?_
    refine LW.v (ov_extract rfl rfl) ?_
    refine LW.v (ov_assign rfl) ?_
    refine LW.v (ov_assign rfl) ?_
    refine LW.nil ?_
    refine KW.thenN ?_
    refine CW.ret ?_
    exact KW.retF (.cons (.tmp rfl) (.cons (.tmp rfl) (.nil))) [1, 2, 3] rfl rfl (⟨rfl, rfl⟩)
end Sx
end Go.Proofs.Ytdgphamhpjnmpaa

/- The reference's mux: its row, its fillers. -/
namespace Go.Proofs.Ytdgphamhpjnmpaa
namespace Sx

/-- an atom that holds of nothing -/
theorem Sat.nil1 {w : World} {As : List HP} (h : Sat w As) {A : HP} (hA : ∀ g, A g) : Sat w (As ++ [A]) := by
  obtain ⟨H, al⟩ := h
  refine ⟨fun j => if j < As.length then H j else fun _ => none, fun j B hj => ?_, fun j k hj hk hjk => ?_, fun j hj => ?_⟩
  · by_cases q : j < As.length
    · rw [List.getElem?_append_left q] at hj; simp only [if_pos q]; exact al.ok j B hj
    · have hj' : j = As.length := by have := lt_of_get hj; simp at this; omega
      subst hj'; simp at hj; subst hj; exact hA _
  · by_cases q : j < As.length
    · rw [if_pos q]
      by_cases q' : k < As.length
      · rw [if_pos q']; exact al.dj j k q q' hjk
      · rw [if_neg q']; exact fun _ => .inr rfl
    · rw [if_neg q]; exact fun _ => .inl rfl
  · by_cases q : j < As.length
    · rw [if_pos q]; exact al.inn j q
    · rw [if_neg q]; exact fun _ _ x => by cases x
def rfilA (p : Nat) (G : Rf) : HP := Ex fun x : Option Addr × Nat => star (rrow p x.1 G.L.length x.2 G.size G.begun G.rest) (rls x.1 G.L.length x.2 G.L)
theorem Fn.rfil {f : FuncId} {args : Array Value} {p : Nat} {G : Rf} {α : Type} {R : Value → α → Prop} {G' : α → Rf} (h : ∀ ad c, Fn Try.prog f args (rf2 p ad c G) (Ret fun v Q => ∃ x ad1 c1, R v x ∧ Q = rf2 p ad1 c1 (G' x))) :
    Fn Try.prog f args [rfilA p G] (Ret fun v Q => ∃ x, R v x ∧ Q = [rfilA p (G' x)]) := by
  intro w g hs
  obtain ⟨⟨ad, c⟩, h1⟩ := hs.getEx1 1 rfl
  have h2 := h1.split 1 rfl
  simp only [List.set_cons_succ, List.set_cons_zero, List.cons_append, List.nil_append] at h2
  refine (h ad c w g h2).mono fun e w' ⟨Q, hq, hs2, hsame⟩ => ?_
  cases e with
  | returned v =>
    obtain ⟨x, ad1, c1, hR, rfl⟩ := hq
    have h3 := hs2.join 1 2 (A := rrow p ad1 (G' x).L.length c1 (G' x).size (G' x).begun (G' x).rest) (B := rls ad1 (G' x).L.length c1 (G' x).L) rfl rfl (by decide)
    have h5 := h3.imp 1 (B := rfilA p (G' x)) rfl (fun g hg => ⟨(ad1, c1), hg⟩)
    exact ⟨[rfilA p (G' x)], ⟨x, hR, rfl⟩, h5.picks [0, 1] rfl, hsame⟩
  | panicked _ => exact hq.elim
  | outgrown => exact hq.elim
structure RSrc where
  p : Nat
  prio : Int
  share : Int
  credit : Int
  count : Int
  fl : Rf
structure RMx where
  craft : Int
  size : Int
  master : Int
  l : List RSrc
def rmC (R : RMx) : List Value := [.int .i64 R.craft, .int .i64 R.size] ++ (iv (R.l.map (·.prio)) ++ (iv (R.l.map (·.share)) ++ ((R.l.map fun s => P1 s.p 0) ++ ([.int .i64 R.master] ++ (iv (R.l.map (·.count)) ++ iv (R.l.map (·.credit)))))))
def rfils (l : List RSrc) : HP := bigS (l.map fun s => rfilA s.p s.fl)
abbrev rmrow (m : Nat) (R : RMx) : HP := row m 120 (rmC R)
abbrev rmx2 (m : Nat) (R : RMx) : List HP := [rmrow m R, rfils R.l]
theorem app_at {α : Type} {A B : List α} {n i : Nat} (hA : A.length = n) : (A ++ B)[n + i]? = B[i]? := by
  subst hA; rw [List.getElem?_append_right (by omega), Nat.add_sub_cancel_left]
theorem app_at0 {α : Type} {A B : List α} {i : Nat} {x : α} (h : A[i]? = some x) : (A ++ B)[i]? = some x := by
  rw [List.getElem?_append_left (lt_of_get h)]; exact h
theorem iv_at {l : List RSrc} {f : RSrc → Int} {i : Nat} {s : RSrc} (h : l[i]? = some s) : (iv (l.map f))[i]? = some (.int .i64 (f s)) := iv_get (by rw [List.getElem?_map, h]; rfl)
section
variable {R : RMx} {i : Nat} {s : RSrc}
theorem rm_prio (_h8 : R.l.length = 8) (hs : R.l[i]? = some s) : (rmC R)[0 + 2 + i * 1]? = some (.int .i64 s.prio) := by
  rw [rmC, show 0 + 2 + i * 1 = 2 + i by omega, app_at (n := 2) rfl]; exact app_at0 (iv_at hs)
theorem rm_share (h8 : R.l.length = 8) (hs : R.l[i]? = some s) : (rmC R)[0 + 10 + i * 1]? = some (.int .i64 s.share) := by
  rw [rmC, show 0 + 10 + i * 1 = 2 + (8 + i) by omega, app_at (n := 2) rfl, app_at (by rw [iv_len, List.length_map, h8])]; exact app_at0 (iv_at hs)
theorem rm_fil (h8 : R.l.length = 8) (hs : R.l[i]? = some s) : (rmC R)[0 + 18 + i * 1]? = some (P1 s.p 0) := by
  rw [rmC, show 0 + 18 + i * 1 = 2 + (8 + (8 + i)) by omega, app_at (n := 2) rfl, app_at (by rw [iv_len, List.length_map, h8]), app_at (by rw [iv_len, List.length_map, h8])]; exact app_at0 (by rw [List.getElem?_map, hs]; rfl)
theorem rm_master (h8 : R.l.length = 8) : (rmC R)[0 + 26]? = some (.int .i64 R.master) := by
  rw [rmC, show 0 + 26 = 2 + (8 + (8 + (8 + 0))) by omega, app_at (n := 2) rfl, app_at (by rw [iv_len, List.length_map, h8]), app_at (by rw [iv_len, List.length_map, h8]), app_at (by rw [List.length_map, h8])]; rfl
theorem rm_count (h8 : R.l.length = 8) (hs : R.l[i]? = some s) : (rmC R)[0 + 27 + i * 1]? = some (.int .i64 s.count) := by
  rw [rmC, show 0 + 27 + i * 1 = 2 + (8 + (8 + (8 + (1 + i)))) by omega, app_at (n := 2) rfl, app_at (by rw [iv_len, List.length_map, h8]), app_at (by rw [iv_len, List.length_map, h8]), app_at (by rw [List.length_map, h8]), app_at (n := 1) rfl]; exact app_at0 (iv_at hs)
theorem rm_credit (h8 : R.l.length = 8) (hs : R.l[i]? = some s) : (rmC R)[0 + 35 + i * 1]? = some (.int .i64 s.credit) := by
  rw [rmC, show 0 + 35 + i * 1 = 2 + (8 + (8 + (8 + (1 + (8 + i))))) by omega, app_at (n := 2) rfl, app_at (by rw [iv_len, List.length_map, h8]), app_at (by rw [iv_len, List.length_map, h8]), app_at (by rw [List.length_map, h8]), app_at (n := 1) rfl, app_at (by rw [iv_len, List.length_map, h8])]; exact iv_at hs
theorem app_set {α : Type} {A B : List α} {n i : Nat} {x : α} (hA : A.length = n) : (A ++ B).set (n + i) x = A ++ B.set i x := by
  subst hA; rw [List.set_append_right _ _ (by omega), Nat.add_sub_cancel_left]
theorem app_set0 {α : Type} {A B : List α} {n i : Nat} {x : α} (hA : A.length = n) (hi : i < n) : (A ++ B).set i x = A.set i x ++ B := by
  subst hA; rw [List.set_append_left _ _ hi]
theorem iv_set {l : List RSrc} {f : RSrc → Int} {s' : RSrc} {i : Nat} : (iv (l.map f)).set i (.int .i64 (f s')) = iv ((l.set i s').map f) := by
  rw [iv, iv, List.map_set, List.map_set]
theorem map_same {β : Type} {l : List RSrc} {f : RSrc → β} {s s' : RSrc} {i : Nat} (hs : l[i]? = some s) (h : f s' = f s) : (l.set i s').map f = l.map f := by
  rw [List.map_set, h]
  apply List.ext_getElem?
  intro k
  by_cases e : k = i
  · subst e; rw [List.getElem?_set_self (by simpa using lt_of_get hs), List.getElem?_map, hs]; rfl
  · rw [List.getElem?_set_ne (Ne.symm e)]
theorem rmC_len (h8 : R.l.length = 8) : (rmC R).length = 43 := by simp [rmC, iv, h8]
theorem rm_setCredit (h8 : R.l.length = 8) (hs : R.l[i]? = some s) (v : Int) : (rmC R).set (0 + 35 + i * 1) (.int .i64 v) = rmC { R with l := R.l.set i { s with credit := v } } := by
  rw [rmC, show 0 + 35 + i * 1 = 2 + (8 + (8 + (8 + (1 + (8 + i))))) by omega, app_set (n := 2) rfl, app_set (by rw [iv_len, List.length_map, h8]), app_set (by rw [iv_len, List.length_map, h8]), app_set (by rw [List.length_map, h8]), app_set (n := 1) rfl, app_set (by rw [iv_len, List.length_map, h8]), rmC]
  simp only
  rw [map_same (s' := { s with credit := v }) (f := (·.prio)) hs rfl, map_same (s' := { s with credit := v }) (f := (·.share)) hs rfl, map_same (s' := { s with credit := v }) (f := fun s => P1 s.p 0) hs rfl, map_same (s' := { s with credit := v }) (f := (·.count)) hs rfl]
  have := iv_set (l := R.l) (f := (·.credit)) (s' := { s with credit := v }) (i := i)
  simp only at this; rw [this]
theorem rm_setCount (h8 : R.l.length = 8) (hs : R.l[i]? = some s) (v : Int) : (rmC R).set (0 + 27 + i * 1) (.int .i64 v) = rmC { R with l := R.l.set i { s with count := v } } := by
  rw [rmC, show 0 + 27 + i * 1 = 2 + (8 + (8 + (8 + (1 + i)))) by omega, app_set (n := 2) rfl, app_set (by rw [iv_len, List.length_map, h8]), app_set (by rw [iv_len, List.length_map, h8]), app_set (by rw [List.length_map, h8]), app_set (n := 1) rfl, app_set0 (n := 8) (by rw [iv_len, List.length_map, h8]) (by have := lt_of_get hs; omega), rmC]
  simp only
  rw [map_same (s' := { s with count := v }) (f := (·.prio)) hs rfl, map_same (s' := { s with count := v }) (f := (·.share)) hs rfl, map_same (s' := { s with count := v }) (f := fun s => P1 s.p 0) hs rfl, map_same (s' := { s with count := v }) (f := (·.credit)) hs rfl]
  have := iv_set (l := R.l) (f := (·.count)) (s' := { s with count := v }) (i := i)
  simp only at this; rw [this]
theorem rm_setMaster (h8 : R.l.length = 8) (v : Int) : (rmC R).set (0 + 26) (.int .i64 v) = rmC { R with master := v } := by
  rw [rmC, show 0 + 26 = 2 + (8 + (8 + (8 + 0))) by omega, app_set (n := 2) rfl, app_set (by rw [iv_len, List.length_map, h8]), app_set (by rw [iv_len, List.length_map, h8]), app_set (by rw [List.length_map, h8]), rmC]
  rfl
theorem rm_setfl (hs : R.l[i]? = some s) (F : Rf) : rmC { R with l := R.l.set i { s with fl := F } } = rmC R := by
  simp only [rmC]
  rw [map_same (s' := { s with fl := F }) (f := (·.prio)) hs rfl, map_same (s' := { s with fl := F }) (f := (·.share)) hs rfl, map_same (s' := { s with fl := F }) (f := fun s => P1 s.p 0) hs rfl, map_same (s' := { s with fl := F }) (f := (·.count)) hs rfl, map_same (s' := { s with fl := F }) (f := (·.credit)) hs rfl]
end
theorem rfils_set {l : List RSrc} {i : Nat} {s s' : RSrc} (hi : l[i]? = some s) (h : (s'.p, s'.fl) = (s.p, s.fl)) : rfils (l.set i s') = rfils l := by
  have e1 : s'.p = s.p := congrArg Prod.fst h
  have e2 : s'.fl = s.fl := congrArg Prod.snd h
  rw [rfils, rfils, map_same hi (by rw [e1, e2])]
/-- bounds of a reference's filler -/
structure Rf.ok (G : Rf) : Prop where
  size : 32 ≤ G.size ∧ G.size ≤ 200
  len : G.L.length ≤ 100000
  tot : total G.L ≤ 1000000
  rest : G.rest.length ≤ 7
theorem rset_map {l : List RSrc} {i : Nat} {s : RSrc} {G : Rf} : (l.map fun s => rfilA s.p s.fl).set i (rfilA s.p G) = (l.set i { s with fl := G }).map fun s => rfilA s.p s.fl := by
  rw [List.map_set]
theorem rset_id {l : List RSrc} {i : Nat} {s : RSrc} (hi : l[i]? = some s) : (l.set i { s with fl := s.fl }) = l := by
  obtain ⟨h, e⟩ := List.getElem?_eq_some_iff.1 hi
  rw [← e, List.set_getElem_self]
theorem rwaitB {l : List RSrc} {i : Nat} {s : RSrc} (hi : l[i]? = some s) (hG : s.fl.ok) : Fn Try.prog 52 #[P1 s.p 0] [rfils l] (Ret fun v Q => v = .int .i64 (total s.fl.L) ∧ Q = [rfils l]) := by
  have h : Fn Try.prog 52 #[P1 s.p 0] [rfilA s.p s.fl] (Ret fun v Q => ∃ x : Unit, v = .int .i64 (total s.fl.L) ∧ Q = [rfilA s.p s.fl]) :=
    Fn.rfil (G' := fun _ => s.fl) fun ad c => (rwait_ok hG.len hG.tot).ret fun v Q hq => ⟨(), ad, c, hq.1, hq.2⟩
  refine (Fn.inBig (l := l.map fun s => rfilA s.p s.fl) (i := i) (B := fun _ : Unit => rfilA s.p s.fl) (by rw [List.getElem?_map, hi]; rfl) h).ret ?_
  rintro v Q ⟨_, hv, rfl⟩
  exact ⟨hv, by rw [rset_map, rset_id hi]; rfl⟩
theorem raddB {l : List RSrc} {i : Nat} {s : RSrc} {b : List UInt8} (hi : l[i]? = some s) (hG : s.fl.ok) (hb : b.length ≤ 1000000000) : Fn Try.prog 46 #[P1 s.p 0, S b] [rfils l] (Ret fun v Q => v = .int .i64 (rfAdd s.fl b).2 ∧ Q = [rfils (l.set i { s with fl := (rfAdd s.fl b).1 })]) := by
  have h : Fn Try.prog 46 #[P1 s.p 0, S b] [rfilA s.p s.fl] (Ret fun v Q => ∃ x : Unit, v = .int .i64 (rfAdd s.fl b).2 ∧ Q = [rfilA s.p (rfAdd s.fl b).1]) :=
    Fn.rfil (G' := fun _ => (rfAdd s.fl b).1) fun ad c => (radd_ok hG.len hG.tot hb).ret fun v Q ⟨ad1, c1, hv, hQ⟩ => ⟨(), ad1, c1, hv, hQ⟩
  refine (Fn.inBig (l := l.map fun s => rfilA s.p s.fl) (i := i) (B := fun _ : Unit => rfilA s.p (rfAdd s.fl b).1) (by rw [List.getElem?_map, hi]; rfl) h).ret ?_
  rintro v Q ⟨_, hv, rfl⟩
  exact ⟨hv, by rw [rset_map]; rfl⟩
theorem rnextB {l : List RSrc} {i : Nat} {s : RSrc} (hi : l[i]? = some s) (hG : s.fl.ok) : Fn Try.prog 50 #[P1 s.p 0] [rfils l] (Ret fun v Q => v = .tuple #[S (rfNext s.fl).1, .int .i64 (rfNext s.fl).2.1, .bool (rfNext s.fl).2.2.1] ∧ Q = [rfils (l.set i { s with fl := (rfNext s.fl).2.2.2 })]) := by
  have h : Fn Try.prog 50 #[P1 s.p 0] [rfilA s.p s.fl] (Ret fun v Q => ∃ x : Unit, v = .tuple #[S (rfNext s.fl).1, .int .i64 (rfNext s.fl).2.1, .bool (rfNext s.fl).2.2.1] ∧ Q = [rfilA s.p (rfNext s.fl).2.2.2]) :=
    Fn.rfil (G' := fun _ => (rfNext s.fl).2.2.2) fun ad c => (rnext_ok hG.size hG.len hG.tot hG.rest).ret fun v Q ⟨ad1, c1, hv, hQ⟩ => ⟨(), ad1, c1, hv, hQ⟩
  refine (Fn.inBig (l := l.map fun s => rfilA s.p s.fl) (i := i) (B := fun _ : Unit => rfilA s.p (rfNext s.fl).2.2.2) (by rw [List.getElem?_map, hi]; rfl) h).ret ?_
  rintro v Q ⟨_, hv, rfl⟩
  exact ⟨hv, by rw [rset_map]; rfl⟩
theorem rclearB {l : List RSrc} {i : Nat} {s : RSrc} (hi : l[i]? = some s) : Fn Try.prog 48 #[P1 s.p 0] [rfils l] (Ret fun _ Q => Q = [rfils (l.set i { s with fl := rfClear s.fl })]) := by
  have h : Fn Try.prog 48 #[P1 s.p 0] [rfilA s.p s.fl] (Ret fun v Q => ∃ x : Unit, True ∧ Q = [rfilA s.p (rfClear s.fl)]) := by
    refine Fn.rfil (G' := fun _ => rfClear s.fl) fun ad c => ?_
    have h0 := rclear_ok (p := s.p) (ad := ad) (c := c) (G := s.fl)
    intro w g hs
    refine (h0 w g hs).mono fun e w' ⟨Q, hq, hs2, hsame⟩ => ?_
    cases e with
    | returned v =>
      obtain rfl := hq
      have h5 := hs2.nil1 (A := rls none 0 0 []) (fun g => ownS_nil _ _ g)
      exact ⟨_, ⟨(), none, 0, trivial, rfl⟩, h5, hsame⟩
    | panicked _ => exact hq.elim
    | outgrown => exact hq.elim
  refine (Fn.inBig (l := l.map fun s => rfilA s.p s.fl) (i := i) (B := fun _ : Unit => rfilA s.p (rfClear s.fl)) (by rw [List.getElem?_map, hi]; rfl) h).ret ?_
  rintro v Q ⟨_, _, rfl⟩
  rw [rset_map]; rfl
end Sx
end Go.Proofs.Ytdgphamhpjnmpaa

/- The reference's mux: small functions. -/
namespace Go.Proofs.Ytdgphamhpjnmpaa
namespace Sx
section
variable {C : Cx} {ds : List Deferred} {env : Env} {As : List HP} {d : Option Tmp} {ty : TypeId} {pos : String} {af : Array Edge} {gd : Option (Nat × Bool)} {t : TypeId} {x y : Operand}
theorem ou_storeR {b off : Nat} {vs : List Value} {v : Value} {g : Bool} {tb : TypeId} {cs cs' : List Value} {n : Nat} {As' : List HP} (ha : tyAgg C.P t = some (g, n)) (hx : evo env x = some (.pointer (some ⟨b, off, none⟩))) (hy : evo env y = some v)
    (hv : CellsOf v vs) (hn : vs.length = n) (hone : (vs.all fun u => u.oneCell') = true) (hlt : off + n ≤ cs.length) (hw : wr cs off vs = cs') (hi : Rep As (row b tb cs) (row b tb cs') As') : OpU C ds env As ⟨d, .store t x y, ty, pos, af, gd⟩ undef As' := by
  obtain ⟨i, h1, h2⟩ := hi.spec
  subst hw; subst h2
  exact ou_storeL i ha hx hy hv.spec hn (by simpa using hone) h1 hlt
end
structure RMx.ok (R : RMx) : Prop where
  len : R.l.length = 8
  fl : ∀ s ∈ R.l, s.fl.ok
def rmWait (R : RMx) (ch : Int) : Int := if 0 ≤ ch ∧ ch < 8 then match R.l[ch.toNat]? with | some s => (total s.fl.L : Int) | none => 0 else 0
def rmAdd (R : RMx) (ch : Int) (p : List UInt8) : RMx × Int :=
  if 0 ≤ ch ∧ ch < 8 then match R.l[ch.toNat]? with
    | some s => ({ R with l := R.l.set ch.toNat { s with fl := (rfAdd s.fl p).1 } }, (rfAdd s.fl p).2)
    | none => (R, 2)
  else (R, 2)
theorem rmadd_ok {m : Nat} {R : RMx} (hR : R.ok) {ch : Int} {p : List UInt8} (hp : p.length ≤ 1000000000) : Fn Try.prog 23 #[P1 m 0, .int .i64 ch, S p] (rmx2 m R)
    (Ret fun v Q => v = .int .i64 (rmAdd R ch p).2 ∧ Q = rmx2 m (rmAdd R ch p).1) := by
  by_cases hc : 0 ≤ ch ∧ ch < 8
  · obtain ⟨k, rfl⟩ : ∃ k : Nat, ch = k := ⟨ch.toNat, by omega⟩
    have hk : k < R.l.length := by rw [hR.len]; omega
    obtain ⟨s, hs⟩ : ∃ s, R.l[k]? = some s := ⟨_, List.getElem?_eq_getElem hk⟩
    have hF := hR.fl s (List.mem_of_getElem? hs)
    have hd : rmAdd R (k : Int) p = ({ R with l := R.l.set k { s with fl := (rfAdd s.fl p).1 } }, (rfAdd s.fl p).2) := by rw [rmAdd, if_pos hc, Int.toNat_natCast, hs]
    rw [hd]
    have hfl := rm_fil hR.len hs
    refine Fn.of (args := _) Try.func23 rfl Try.ntmps23 rfl ?_
    intro w0 g0
    refine CW.seq ?_
    refine CW.region ?_
    refine LW.v (ov_assign rfl) ?_
    refine LW.nil ?_
    refine KW.thenN ?_
    refine CW.seq ?_
    refine CW.seq ?_
    refine CW.region ?_
    refine LW.v (ov_move rfl) ?_
    refine LW.v (OpV.eq (ov_lss rfl rfl) (congrArg Value.bool (decide_eq_false (by first | omega | assumption)))) ?_
    refine LW.v (ov_move rfl) ?_
    refine LW.v (ov_move rfl) ?_
    refine LW.v (OpV.eq (ov_gtr rfl rfl) (congrArg Value.bool (decide_eq_false (by first | omega | assumption)))) ?_
    first | refine LW.v (ov_pickT rfl rfl) ?_ | refine LW.v (ov_pickF rfl rfl) ?_ | refine LW.v (ov_pick rfl rfl rfl) ?_
    refine LW.nil ?_
    refine KW.thenN ?_
    refine CW.condF rfl rfl ?_
    refine CW.skip ?_
    refine KW.thenN ?_
    refine CW.seq ?_
    refine CW.region ?_
    refine LW.v (ov_move rfl) ?_
    refine LW.v (ov_move rfl) ?_
    refine LW.v (ov_nilP rfl) ?_
    refine LW.v (ov_fieldAddr fo120_4 rfl) ?_
    refine LW.v (ov_idxA (i := k) ar118 ta117 rfl rfl rfl (by omega)) ?_
    refine LW.v (ov_loadR 1 ta117 rfl rfl hfl) ?_
    refine LW.v (ov_move rfl) ?_
    refine LW.call [2] (oc_fn cf46 rfl) rfl rfl rfl rfl (raddB hs hF hp) ?_
    rintro _ _ ⟨rfl, rfl⟩
    simp only [putBack, List.set_cons_succ, List.set_cons_zero, List.append_nil]
    refine LW.v (ov_assign rfl) ?_
    refine LW.nil ?_
    refine KW.thenN ?_
    refine CW.ret ?_
    exact KW.retF (.cons (.tmp rfl) (.nil)) [1, 2] rfl rfl (⟨rfl, by simp only [rmx2, rmrow]; rw [rm_setfl hs]; rfl⟩)
  · have hd : rmAdd R ch p = (R, 2) := by rw [rmAdd, if_neg hc]
    rw [hd]
    by_cases h0 : ch < 0
    · refine Fn.of (args := _) Try.func23 rfl Try.ntmps23 rfl ?_
      intro w0 g0
      refine CW.seq ?_
      refine CW.region ?_
      refine LW.v (ov_assign rfl) ?_
      refine LW.nil ?_
      refine KW.thenN ?_
      refine CW.seq ?_
      refine CW.seq ?_
      refine CW.region ?_
      refine LW.v (ov_move rfl) ?_
      refine LW.v (OpV.eq (ov_lss rfl rfl) (congrArg Value.bool (decide_eq_true (by first | omega | assumption)))) ?_
      refine LW.v (ov_move rfl) ?_
      refine LW.skip rfl rfl ?_
      refine LW.skip rfl rfl ?_
      first | refine LW.v (ov_pickT rfl rfl) ?_ | refine LW.v (ov_pickF rfl rfl) ?_ | refine LW.v (ov_pick rfl rfl rfl) ?_
      refine LW.nil ?_
      refine KW.thenN ?_
      refine CW.condT rfl rfl ?_
      refine CW.seq ?_
      refine CW.region ?_
      refine LW.v (ov_assign rfl) ?_
      refine LW.nil ?_
      refine KW.thenN ?_
      refine CW.ret ?_
      refine KW.thenR ?_
      exact KW.retF (.cons (.tmp rfl) (.nil)) [1, 2] rfl rfl (⟨rfl, rfl⟩)
    · refine Fn.of (args := _) Try.func23 rfl Try.ntmps23 rfl ?_
      intro w0 g0
      refine CW.seq ?_
      refine CW.region ?_
      refine LW.v (ov_assign rfl) ?_
      refine LW.nil ?_
      refine KW.thenN ?_
      refine CW.seq ?_
      refine CW.seq ?_
      refine CW.region ?_
      refine LW.v (ov_move rfl) ?_
      refine LW.v (OpV.eq (ov_lss rfl rfl) (congrArg Value.bool (decide_eq_false (by first | omega | assumption)))) ?_
      refine LW.v (ov_move rfl) ?_
      refine LW.v (ov_move rfl) ?_
      refine LW.v (OpV.eq (ov_gtr rfl rfl) (congrArg Value.bool (decide_eq_true (by first | omega | assumption)))) ?_
      first | refine LW.v (ov_pickT rfl rfl) ?_ | refine LW.v (ov_pickF rfl rfl) ?_ | refine LW.v (ov_pick rfl rfl rfl) ?_
      refine LW.nil ?_
      refine KW.thenN ?_
      refine CW.condT rfl rfl ?_
      refine CW.seq ?_
      refine CW.region ?_
      refine LW.v (ov_assign rfl) ?_
      refine LW.nil ?_
      refine KW.thenN ?_
      refine CW.ret ?_
      refine KW.thenR ?_
      exact KW.retF (.cons (.tmp rfl) (.nil)) [1, 2] rfl rfl (⟨rfl, rfl⟩)
theorem rmwait_ok {m : Nat} {R : RMx} (hR : R.ok) {ch : Int} : Fn Try.prog 27 #[P1 m 0, .int .i64 ch] (rmx2 m R)
    (Ret fun v Q => v = .int .i64 (rmWait R ch) ∧ Q = rmx2 m R) := by
  by_cases hc : 0 ≤ ch ∧ ch < 8
  · obtain ⟨k, rfl⟩ : ∃ k : Nat, ch = k := ⟨ch.toNat, by omega⟩
    have hk : k < R.l.length := by rw [hR.len]; omega
    obtain ⟨s, hs⟩ : ∃ s, R.l[k]? = some s := ⟨_, List.getElem?_eq_getElem hk⟩
    have hF := hR.fl s (List.mem_of_getElem? hs)
    have hd : rmWait R (k : Int) = (total s.fl.L : Int) := by rw [rmWait, if_pos hc, Int.toNat_natCast, hs]
    rw [hd]
    have hfl := rm_fil hR.len hs
    refine Fn.of (args := _) Try.func27 rfl Try.ntmps27 rfl ?_
    intro w0 g0
    refine CW.seq ?_
    refine CW.region ?_
    refine LW.v (ov_assign rfl) ?_
    refine LW.nil ?_
    refine KW.thenN ?_
    refine CW.seq ?_
    refine CW.seq ?_
    refine CW.region ?_
    refine LW.v (ov_move rfl) ?_
    refine LW.v (OpV.eq (ov_lss rfl rfl) (congrArg Value.bool (decide_eq_false (by first | omega | assumption)))) ?_
    refine LW.v (ov_move rfl) ?_
    refine LW.v (ov_move rfl) ?_
    refine LW.v (OpV.eq (ov_gtr rfl rfl) (congrArg Value.bool (decide_eq_false (by first | omega | assumption)))) ?_
    first | refine LW.v (ov_pickT rfl rfl) ?_ | refine LW.v (ov_pickF rfl rfl) ?_ | refine LW.v (ov_pick rfl rfl rfl) ?_
    refine LW.nil ?_
    refine KW.thenN ?_
    refine CW.condF rfl rfl ?_
    refine CW.skip ?_
    refine KW.thenN ?_
    refine CW.seq ?_
    refine CW.region ?_
    refine LW.v (ov_move rfl) ?_
    refine LW.v (ov_move rfl) ?_
    refine LW.v (ov_nilP rfl) ?_
    refine LW.v (ov_fieldAddr fo120_4 rfl) ?_
    refine LW.v (ov_idxA (i := k) ar118 ta117 rfl rfl rfl (by omega)) ?_
    refine LW.v (ov_loadR 1 ta117 rfl rfl hfl) ?_
    refine LW.call [2] (oc_fn cf52 rfl) rfl rfl rfl rfl (rwaitB hs hF) ?_
    rintro _ _ ⟨rfl, rfl⟩
    simp only [putBack, List.set_cons_succ, List.set_cons_zero, List.append_nil]
    refine LW.v (ov_assign rfl) ?_
    refine LW.nil ?_
    refine KW.thenN ?_
    refine CW.ret ?_
    exact KW.retF (.cons (.tmp rfl) (.nil)) [1, 2] rfl rfl (⟨rfl, rfl⟩)
  · have hd : rmWait R ch = 0 := by rw [rmWait, if_neg hc]
    rw [hd]
    by_cases h0 : ch < 0
    · refine Fn.of (args := _) Try.func27 rfl Try.ntmps27 rfl ?_
      intro w0 g0
      refine CW.seq ?_
      refine CW.region ?_
      refine LW.v (ov_assign rfl) ?_
      refine LW.nil ?_
      refine KW.thenN ?_
      refine CW.seq ?_
      refine CW.seq ?_
      refine CW.region ?_
      refine LW.v (ov_move rfl) ?_
      refine LW.v (OpV.eq (ov_lss rfl rfl) (congrArg Value.bool (decide_eq_true (by first | omega | assumption)))) ?_
      refine LW.v (ov_move rfl) ?_
      refine LW.skip rfl rfl ?_
      refine LW.skip rfl rfl ?_
      first | refine LW.v (ov_pickT rfl rfl) ?_ | refine LW.v (ov_pickF rfl rfl) ?_ | refine LW.v (ov_pick rfl rfl rfl) ?_
      refine LW.nil ?_
      refine KW.thenN ?_
      refine CW.condT rfl rfl ?_
      refine CW.seq ?_
      refine CW.region ?_
      refine LW.v (ov_assign rfl) ?_
      refine LW.nil ?_
      refine KW.thenN ?_
      refine CW.ret ?_
      refine KW.thenR ?_
      exact KW.retF (.cons (.tmp rfl) (.nil)) [1, 2] rfl rfl (⟨rfl, rfl⟩)
    · refine Fn.of (args := _) Try.func27 rfl Try.ntmps27 rfl ?_
      intro w0 g0
      refine CW.seq ?_
      refine CW.region ?_
      refine LW.v (ov_assign rfl) ?_
      refine LW.nil ?_
      refine KW.thenN ?_
      refine CW.seq ?_
      refine CW.seq ?_
      refine CW.region ?_
      refine LW.v (ov_move rfl) ?_
      refine LW.v (OpV.eq (ov_lss rfl rfl) (congrArg Value.bool (decide_eq_false (by first | omega | assumption)))) ?_
      refine LW.v (ov_move rfl) ?_
      refine LW.v (ov_move rfl) ?_
      refine LW.v (OpV.eq (ov_gtr rfl rfl) (congrArg Value.bool (decide_eq_true (by first | omega | assumption)))) ?_
      first | refine LW.v (ov_pickT rfl rfl) ?_ | refine LW.v (ov_pickF rfl rfl) ?_ | refine LW.v (ov_pick rfl rfl rfl) ?_
      refine LW.nil ?_
      refine KW.thenN ?_
      refine CW.condT rfl rfl ?_
      refine CW.seq ?_
      refine CW.region ?_
      refine LW.v (ov_assign rfl) ?_
      refine LW.nil ?_
      refine KW.thenN ?_
      refine CW.ret ?_
      refine KW.thenR ?_
      exact KW.retF (.cons (.tmp rfl) (.nil)) [1, 2] rfl rfl (⟨rfl, rfl⟩)
def rclr (s : RSrc) : RSrc := { s with credit := 0, count := 0, fl := rfClear s.fl }
def rclf (s : RSrc) : RSrc := { s with fl := rfClear s.fl }
theorem rmC_map {f : RSrc → RSrc} {R : RMx} (h1 : ∀ s, (f s).prio = s.prio) (h2 : ∀ s, (f s).share = s.share) (h3 : ∀ s, (f s).p = s.p) : rmC { R with l := R.l.map f } =
    [.int .i64 R.craft, .int .i64 R.size] ++ (iv (R.l.map (·.prio)) ++ (iv (R.l.map (·.share)) ++ ((R.l.map fun s => P1 s.p 0) ++ ([.int .i64 R.master] ++ (iv (R.l.map fun s => (f s).count) ++ iv (R.l.map fun s => (f s).credit)))))) := by
  simp only [rmC, List.map_map]
  have e1 : (fun s => P1 s.p 0) ∘ f = fun s => P1 s.p 0 := by funext s; simp [h3]
  have e2 : (·.prio) ∘ f = (·.prio) := by funext s; simp [h1]
  have e3 : (·.share) ∘ f = (·.share) := by funext s; simp [h2]
  rw [e1, e2, e3]; rfl
theorem wr_tailS {A B vs : List Value} {n k : Nat} (hA : A.length = n) (hk : k + vs.length ≤ B.length) : wr (A ++ B) (n + k) vs = A ++ wr B k vs := by
  have := wr_mid A [] vs B k hk
  rw [List.append_nil, List.append_nil, hA] at this; exact this
theorem wr_head {A B vs : List Value} (h : A.length = vs.length) : wr (A ++ B) 0 vs = vs ++ B := by
  have h1 := wr_mid [] B vs A 0 (by omega)
  rw [List.nil_append, List.length_nil] at h1
  rw [show (0 : Nat) + 0 = 0 from rfl] at h1
  rw [h1, wr_whole vs A h.symm]; rfl
theorem iv0 (l : List RSrc) (h : l.length = 8) : iv (l.map fun _ => (0 : Int)) = [.int .i64 0, .int .i64 0, .int .i64 0, .int .i64 0, .int .i64 0, .int .i64 0, .int .i64 0, .int .i64 0] := by
  rw [List.map_const', h]; rfl
theorem rmclear_ok {m : Nat} {R : RMx} (hR : R.ok) : Fn Try.prog 25 #[P1 m 0] (rmx2 m R)
    (Ret fun _ Q => Q = rmx2 m { R with master := 0, l := R.l.map rclr }) := by
  obtain ⟨craft, size, master, l⟩ := R
  obtain ⟨hlen, hfl⟩ := hR
  simp only at hlen hfl ⊢
  refine Fn.of (args := _) Try.func25 rfl Try.ntmps25 rfl ?_
  intro w0 g0
  refine CW.seq ?_
  refine CW.seq ?_
  refine CW.region ?_
  refine LW.v (ov_assign rfl) ?_
  refine LW.nil ?_
  refine KW.thenN ?_
  refine CW.block ?_
  refine CW.loopW (fun r env As => ∃ i : Nat, i + r = 8 ∧ env = [(0, P1 m 0), (2, .int .i64 i)] ∧ As = [ex g0, rmrow m ⟨craft, size, master, l⟩, rfils (mapN rclf i l)]) 8 [0, 1, 2] ⟨0, rfl, rfl, rfl⟩ ⟨rfl, rfl, trivial⟩ rfl rfl ?_
  rintro r _ _ ⟨i, hir, rfl, rfl⟩
  refine CW.seq ?_
  refine CW.seq ?_
  refine CW.region ?_
  refine LW.v (ov_move rfl) ?_
  refine LW.v (ov_lss rfl rfl) ?_
  refine LW.nil ?_
  refine KW.thenN ?_
  refine CW.condD (by rfl) (fun h => ?_) (fun h => ?_)
  · have hi : i < l.length := by omega
    obtain ⟨s, hs⟩ : ∃ s, l[i]? = some s := ⟨_, List.getElem?_eq_getElem hi⟩
    have hs0 : (mapN rclf i l)[i]? = some s := by rw [mapN_get]; exact hs
    have hset := mapN_set rclf i l s hs
    have hfp := rm_fil (R := ⟨craft, size, master, l⟩) hlen hs
    generalize mapN rclf i l = l1 at hs0 hset ⊢
    refine CW.skip ?_
    refine KW.thenN ?_
    refine CW.seq ?_
    refine CW.block ?_
    refine CW.region ?_
    refine LW.v (ov_move rfl) ?_
    refine LW.v (ov_move rfl) ?_
    refine LW.v (ov_nilP rfl) ?_
    refine LW.v (ov_fieldAddr fo120_4 rfl) ?_
    refine LW.v (ov_idxA (i := i) ar118 ta117 rfl rfl rfl (by omega)) ?_
    refine LW.v (ov_loadR 1 ta117 rfl rfl hfp) ?_
    refine LW.call [2] (oc_fn cf48 rfl) rfl rfl rfl rfl (rclearB hs0) ?_
    rintro _ _ rfl
    simp only [putBack, List.set_cons_succ, List.set_cons_zero, List.append_nil]
    refine LW.nil ?_
    refine KW.blockN ?_
    refine KW.thenN ?_
    refine CW.region ?_
    refine LW.v (ov_move rfl) ?_
    first | refine LW.v (ov_add rfl rfl (by omega)) ?_ | refine LW.v (ov_addW rfl rfl) ?_
    refine LW.v (ov_assign rfl) ?_
    refine LW.nil ?_
    have hs' : l1.set i { s with fl := rfClear s.fl } = mapN rclf (i + 1) l := hset
    rw [hs']
    exact KW.again (r - 1) [0, 1, 2] (by omega) ⟨i + 1, by omega, rfl, rfl⟩ ⟨rfl, rfl, trivial⟩ rfl rfl
  · obtain rfl : i = 8 := by omega
    have e : mapN rclf 8 l = l.map rclf := by rw [← hlen]; exact mapN_all rclf l
    have ef : rfils (l.map rclf) = rfils (l.map rclr) := by rw [rfils, rfils, List.map_map, List.map_map]; rfl
    rw [e, ef]
    have hcl := rmC_len (R := ⟨craft, size, master, l⟩) hlen
    have hm0 : wr (rmC ⟨craft, size, master, l⟩) (0 + 26) [.int .i64 0] = rmC ⟨craft, size, 0, l⟩ := rm_setMaster (R := ⟨craft, size, master, l⟩) hlen 0
    have hcl0 := rmC_len (R := ⟨craft, size, 0, l⟩) hlen
    have e27 : wr (rmC ⟨craft, size, 0, l⟩) (0 + 27) [.int .i64 0, .int .i64 0, .int .i64 0, .int .i64 0, .int .i64 0, .int .i64 0, .int .i64 0, .int .i64 0] = rmC ⟨craft, size, 0, l.map fun s => { s with count := 0 }⟩ := by
      have := rmC_map (f := fun s => { s with count := 0 }) (R := ⟨craft, size, 0, l⟩) (fun _ => rfl) (fun _ => rfl) (fun _ => rfl)
      simp only at this
      rw [this, iv0 l hlen, rmC, show 0 + 27 = 2 + (8 + (8 + (8 + (1 + 0)))) by omega]
      have lens : ∀ f : RSrc → Int, (iv (l.map f)).length = 8 := fun f => by rw [iv_len, List.length_map, hlen]
      rw [wr_tailS (n := 2) rfl (by simp [lens, hlen]), wr_tailS (lens _) (by simp [lens, hlen]), wr_tailS (lens _) (by simp [lens, hlen]), wr_tailS (by rw [List.length_map, hlen]) (by simp [lens]), wr_tailS (n := 1) rfl (by simp [lens]), wr_head (lens _)]
    have e35 : wr (rmC ⟨craft, size, 0, l.map fun s => { s with count := 0 }⟩) (0 + 35) [.int .i64 0, .int .i64 0, .int .i64 0, .int .i64 0, .int .i64 0, .int .i64 0, .int .i64 0, .int .i64 0] = rmC ⟨craft, size, 0, l.map rclr⟩ := by
      have h1 := rmC_map (f := fun s => { s with count := 0 }) (R := ⟨craft, size, 0, l⟩) (fun _ => rfl) (fun _ => rfl) (fun _ => rfl)
      have h2 := rmC_map (f := rclr) (R := ⟨craft, size, 0, l⟩) (fun _ => rfl) (fun _ => rfl) (fun _ => rfl)
      simp only at h1 h2
      have hz : (fun s : RSrc => (rclr s).credit) = fun _ => 0 := rfl
      have hz' : (fun s : RSrc => (rclr s).count) = fun _ => 0 := rfl
      rw [h1, h2, hz, hz', iv0 l hlen, show 0 + 35 = 2 + (8 + (8 + (8 + (1 + (8 + 0))))) by omega]
      have lens : ∀ f : RSrc → Int, (iv (l.map f)).length = 8 := fun f => by rw [iv_len, List.length_map, hlen]
      rw [wr_tailS (n := 2) rfl (by simp [lens, hlen]), wr_tailS (lens _) (by simp [lens, hlen]), wr_tailS (lens _) (by simp [lens, hlen]), wr_tailS (by rw [List.length_map, hlen]) (by simp [lens]), wr_tailS (n := 1) rfl (by simp [lens]), wr_tailS (n := 8) rfl (by simp [lens]), wr_whole _ _ (by rw [lens]; rfl)]
    have hl27 := rmC_len (R := ⟨craft, size, 0, l.map fun s => { s with count := 0 }⟩) (by simp [hlen])
    refine CW.exit ?_
    refine KW.thenX ?_
    refine KW.thenX ?_
    refine KW.hit ?_
    refine KW.thenN ?_
    refine CW.region ?_
    refine LW.v (ov_move rfl) ?_
    refine LW.v (ov_move rfl) ?_
    refine LW.v (ov_move rfl) ?_
    refine LW.v (ov_buildA ar38 ta3 zc38 rfl (.n)) ?_
    refine LW.v (ov_buildA ar38 ta3 zc38 rfl (.n)) ?_
    refine LW.v (ov_nilP rfl) ?_
    refine LW.v (ov_fieldAddr fo120_5 rfl) ?_
    refine LW.opU (ou_storeR ta3 rfl rfl (.one rfl) rfl rfl (by omega) hm0 (.t (.h))) rfl ?_
    refine LW.v (ov_nilP rfl) ?_
    refine LW.v (ov_fieldAddr fo120_6 rfl) ?_
    refine LW.opU (ou_storeR ta38 rfl rfl .agg rfl rfl (by omega) e27 (.t (.h))) rfl ?_
    refine LW.v (ov_nilP rfl) ?_
    refine LW.v (ov_fieldAddr fo120_7 rfl) ?_
    refine LW.opU (ou_storeR ta38 rfl rfl .agg rfl rfl (by omega) e35 (.t (.h))) rfl ?_
    refine LW.nil ?_
    exact KW.endF (.nil) [1, 2] rfl rfl (rfl)
end Sx
end Go.Proofs.Ytdgphamhpjnmpaa

/- The reference's mux: the channel of the next frame. -/
namespace Go.Proofs.Ytdgphamhpjnmpaa
namespace Sx

def rwt (l : List RSrc) (i : Nat) : Int := match l[i]? with | some s => (total s.fl.L : Int) | none => 0
def rpr (l : List RSrc) (i : Nat) : Int := match l[i]? with | some s => s.prio | none => 0
def rcr (l : List RSrc) (i : Nat) : Int := match l[i]? with | some s => s.credit | none => 0
def rAt (l : List RSrc) (n : Int) : List Nat := (List.range 8).filter fun i => decide (n ≤ rwt l i)
def rL (size : Int) (l : List RSrc) : List Nat := if rAt l size = [] then rAt l 1 else rAt l size
def gmx (l : List RSrc) (L : List Nat) : Int := L.foldl (fun a i => max a (rpr l i)) 0
def onG (l : List RSrc) (g : Int) (L : List Nat) : List Nat := L.filter fun i => decide (rpr l i = g)
def spentB (l : List RSrc) (U : List Nat) : Bool := U.all fun i => !decide (0 < rcr l i)
def rrefill (p : Int) (s : RSrc) : RSrc := if s.prio = p then { s with credit := s.share } else s
def rdec (s : RSrc) : RSrc := { s with credit := s.credit - 1 }
def rchoose (size : Int) (l : List RSrc) : Option Nat × List RSrc :=
  if rL size l = [] then (none, l) else
  let g := gmx l (rL size l)
  let U := onG l g (rL size l)
  let l' := if spentB l U then l.map (rrefill g) else l
  let o := hd (bestL (rcr l') U)
  (some o, match l'[o]? with | some s => l'.set o (rdec s) | none => l')
def nI (i : Nat) : Value := .int .i64 (i : Int)
abbrev ilist (ad : Option Addr) (c : Nat) (L : List Nat) : HP := ownS 3 1 (.slice ad L.length c) L.length (L.map nI)
theorem rat_ok {m : Nat} {R : RMx} (hR : R.ok) {n : Int} : Fn Try.prog 85 #[P1 m 0, .int .i64 n] (rmx2 m R)
    (Ret fun v Q => ∃ ad c, v = .slice ad (rAt R.l n).length c ∧ Q = rmx2 m R ++ [ilist ad c (rAt R.l n)]) := by
  refine Fn.of (args := _) Try.func85 rfl Try.ntmps85 rfl ?_
  intro w0 g0
  refine KW.newS 3 1 ?_
  simp only [List.cons_append, List.nil_append]
  refine CW.seq ?_
  refine CW.region ?_
  refine LW.v (ov_assign rfl) ?_
  refine LW.nil ?_
  refine KW.thenN ?_
  refine CW.seq ?_
  refine CW.region ?_
  refine LW.v (ov_assign rfl) ?_
  refine LW.nil ?_
  refine KW.thenN ?_
  refine CW.seq ?_
  refine CW.seq ?_
  refine CW.region ?_
  refine LW.v (ov_assign rfl) ?_
  refine LW.nil ?_
  refine KW.thenN ?_
  refine CW.block ?_
  refine CW.loopW (fun r env As => ∃ (k : Nat) (is : List Nat) (ad : Option Addr) (c : Nat), k + r = 8 ∧ is = (List.range k).filter (fun i => decide (n ≤ rwt R.l i)) ∧ env = [(0, P1 m 0), (1, .int .i64 n), (5, .slice ad is.length c), (6, .int .i64 k)] ∧
    As = [ex g0, rmrow m R, rfils R.l, ilist ad c is]) 8 [0, 1, 2, 3] ⟨0, [], none, 0, rfl, rfl, rfl, rfl⟩ ⟨rfl, rfl, rfl, rfl, trivial⟩ rfl rfl ?_
  rintro r _ _ ⟨k, is, ad, c, hkr, his, rfl, rfl⟩
  have hisl : is.length ≤ 8 := by
    have := List.length_filter_le (fun i => decide (n ≤ rwt R.l i)) (List.range k)
    rw [← his, List.length_range] at this; omega
  refine CW.seq ?_
  refine CW.seq ?_
  refine CW.region ?_
  refine LW.v (ov_move rfl) ?_
  refine LW.v (ov_lss rfl rfl) ?_
  refine LW.nil ?_
  refine KW.thenN ?_
  refine CW.condD (by rfl) (fun h => ?_) (fun h => ?_)
  · have hk : k < R.l.length := by rw [hR.len]; omega
    obtain ⟨s, hs⟩ : ∃ s, R.l[k]? = some s := ⟨_, List.getElem?_eq_getElem hk⟩
    have hw : rmWait R (k : Int) = rwt R.l k := by rw [rmWait, if_pos (by omega), Int.toNat_natCast, rwt] <;> rfl
    refine CW.skip ?_
    refine KW.thenN ?_
    refine CW.seq ?_
    refine CW.block ?_
    refine CW.seq ?_
    refine CW.region ?_
    refine LW.v (ov_move rfl) ?_
    refine LW.v (ov_move rfl) ?_
    refine LW.call [1, 2] (oc_fn cf27 rfl) rfl rfl rfl rfl (rmwait_ok hR) ?_
    rintro _ _ ⟨rfl, rfl⟩
    simp only [putBack, List.set_cons_succ, List.set_cons_zero, List.append_nil]
    refine LW.v (ov_move rfl) ?_
    refine LW.v (ov_geq rfl rfl) ?_
    refine LW.nil ?_
    refine KW.thenN ?_
    refine CW.condD (by rfl) (fun g1 => ?_) (fun g1 => ?_)
    · refine CW.region ?_
      refine LW.v (ov_move rfl) ?_
      refine LW.v (ov_move rfl) ?_
      refine LW.opBA (ob_bs1 so43 zc3 (xs := [_]) rfl rfl rfl (by decide) rfl (fun _ => .c (.c (.c (.c (.n)))))) rfl rfl (fun b18 => ?_)
      refine LW.opX (ox_appR 4 so43 zo3 rfl so43 rfl rfl rfl rfl rfl (by omega) (by omega) (by omega) (fun _ => .t (.t (.t (.h))))) rfl rfl (fun a19 c19 => ?_)
      refine LW.v (ov_assign rfl) ?_
      refine LW.nil ?_
      refine KW.blockN ?_
      refine KW.thenN ?_
      refine CW.region ?_
      refine LW.v (ov_move rfl) ?_
      first | refine LW.v (ov_add rfl rfl (by omega)) ?_ | refine LW.v (ov_addW rfl rfl) ?_
      refine LW.v (ov_assign rfl) ?_
      refine LW.nil ?_
      have e : is ++ [k] = (List.range (k + 1)).filter (fun i => decide (n ≤ rwt R.l i)) := by
        rw [List.range_succ, List.filter_append, ← his, List.filter_cons_of_pos (by rw [← hw]; exact decide_eq_true g1)]; rfl
      exact KW.again (r - 1) [0, 1, 2, 3] (by omega) ⟨k + 1, is ++ [k], _, _, by omega, e, rfl, rfl⟩ ⟨rfl, rfl, by rw [List.length_append]; rfl, rfl, trivial⟩ rfl (by rw [ilist, List.length_append, List.map_append]; rfl)
    · refine CW.skip ?_
      refine KW.blockN ?_
      refine KW.thenN ?_
      refine CW.region ?_
      refine LW.v (ov_move rfl) ?_
      first | refine LW.v (ov_add rfl rfl (by omega)) ?_ | refine LW.v (ov_addW rfl rfl) ?_
      refine LW.v (ov_assign rfl) ?_
      refine LW.nil ?_
      have e : is = (List.range (k + 1)).filter (fun i => decide (n ≤ rwt R.l i)) := by
        rw [List.range_succ, List.filter_append, ← his, List.filter_cons_of_neg (by rw [← hw]; simpa using g1)]; simp
      exact KW.again (r - 1) [0, 1, 2, 3] (by omega) ⟨k + 1, is, _, _, by omega, e, rfl, rfl⟩ ⟨rfl, rfl, rfl, rfl, trivial⟩ rfl rfl
  · obtain rfl : k = 8 := by omega
    have hisr : is = rAt R.l n := his
    subst hisr
    refine CW.exit ?_
    refine KW.thenX ?_
    refine KW.thenX ?_
    refine KW.hit ?_
    refine KW.thenN ?_
    refine CW.seq ?_
    refine CW.region ?_
    refine LW.v (ov_move rfl) ?_
    refine LW.v (ov_assign rfl) ?_
    refine LW.nil ?_
    refine KW.thenN ?_
    refine CW.ret ?_
    exact KW.retF (.cons (.tmp rfl) (.nil)) [1, 2, 3] rfl rfl (⟨ad, c, rfl, rfl⟩)
theorem rAt_lt {l : List RSrc} {n : Int} {i : Nat} (h : i ∈ rAt l n) : i < 8 := List.mem_range.1 (List.mem_filter.1 h).1
theorem rAt_len (l : List RSrc) (n : Int) : (rAt l n).length ≤ 8 := by
  have := List.length_filter_le (fun i => decide (n ≤ rwt l i)) (List.range 8)
  simpa [rAt] using this
theorem rL_lt {size : Int} {l : List RSrc} {i : Nat} (h : i ∈ rL size l) : i < 8 := by
  unfold rL at h; split at h <;> exact rAt_lt h
theorem rL_len (size : Int) (l : List RSrc) : (rL size l).length ≤ 8 := by
  unfold rL; split <;> exact rAt_len _ _
theorem gmx_snoc (l : List RSrc) (L : List Nat) (i : Nat) : gmx l (L ++ [i]) = max (gmx l L) (rpr l i) := by simp [gmx]
theorem gmx_ge (l : List RSrc) : ∀ (L : List Nat) (a : Int), a ≤ L.foldl (fun a i => max a (rpr l i)) a ∧ ∀ i ∈ L, rpr l i ≤ L.foldl (fun a i => max a (rpr l i)) a := by
  intro L; induction L with
  | nil => intro a; exact ⟨Int.le_refl _, fun i h => by cases h⟩
  | cons x L ih =>
    intro a
    obtain ⟨h1, h2⟩ := ih (max a (rpr l x))
    refine ⟨by simp only [List.foldl_cons]; omega, fun i hi => ?_⟩
    rcases List.mem_cons.1 hi with rfl | hi
    · simp only [List.foldl_cons]; omega
    · exact h2 i hi
theorem gmx_in (l : List RSrc) : ∀ (L : List Nat) (a : Int), L.foldl (fun a i => max a (rpr l i)) a = a ∨ ∃ i ∈ L, rpr l i = L.foldl (fun a i => max a (rpr l i)) a := by
  intro L; induction L with
  | nil => intro a; exact .inl rfl
  | cons x L ih =>
    intro a
    rcases ih (max a (rpr l x)) with h | ⟨i, hi, h⟩
    · simp only [List.foldl_cons]
      rw [h]
      by_cases q : a ≤ rpr l x
      · exact .inr ⟨x, List.mem_cons_self .., by omega⟩
      · exact .inl (by omega)
    · exact .inr ⟨i, List.mem_cons_of_mem _ hi, h⟩
structure RSrc.ok (s : RSrc) : Prop where
  prio : 0 ≤ s.prio ∧ s.prio ≤ 1000
  credit : 0 ≤ s.credit ∧ s.credit ≤ 1000
  share : 1 ≤ s.share ∧ s.share ≤ 1000
  fl : s.fl.ok
theorem gmx_mem {l : List RSrc} {L : List Nat} (hne : L ≠ []) (hp : ∀ i ∈ L, 0 ≤ rpr l i) : ∃ i ∈ L, rpr l i = gmx l L := by
  rcases gmx_in l L 0 with h | h
  · cases L with
    | nil => exact absurd rfl hne
    | cons x L =>
      have h1 := (gmx_ge l (x :: L) 0).2 x (List.mem_cons_self ..)
      have h2 := hp x (List.mem_cons_self ..)
      exact ⟨x, List.mem_cons_self .., by unfold gmx; omega⟩
  · exact h
theorem onG_snoc (l : List RSrc) (g : Int) (L : List Nat) (i : Nat) : onG l g (L ++ [i]) = if rpr l i = g then onG l g L ++ [i] else onG l g L := by
  unfold onG; rw [List.filter_append]
  split
  · rename_i h; rw [List.filter_cons_of_pos (by simpa using h)]; rfl
  · rename_i h; rw [List.filter_cons_of_neg (by simpa using h)]; simp
def hdI (l : List Nat) : Int := match l with | [] => -1 | o :: _ => o
theorem hdI_step (f : Nat → Int) (out : List Nat) (s : Nat) : hdI (bestS f out s) = if hdI out < 0 then (s : Int) else if f (hd out) < f s then (s : Int) else hdI out := by
  cases out with
  | nil => rfl
  | cons o os =>
    have h0 : ¬ hdI (o :: os) < 0 := by simp [hdI]
    rw [if_neg h0]
    show hdI (if f o < f s then [s] else if f s = f o then (o :: os) ++ [s] else o :: os) = if f o < f s then (s : Int) else hdI (o :: os)
    split
    · rfl
    · split <;> rfl
theorem rchoose_ok {m : Nat} {R : RMx} (hlen : R.l.length = 8) (hok : ∀ s ∈ R.l, s.ok) : Fn Try.prog 49 #[P1 m 0] (rmx2 m R)
    (Ret fun v Q => v = (match (rchoose R.size R.l).1 with | some o => .int .i64 (o : Int) | none => .int .i64 (-1)) ∧ Q = rmx2 m { R with l := (rchoose R.size R.l).2 }) := by
  have hR : R.ok := ⟨hlen, fun s h => (hok s h).fl⟩
  refine Fn.of (args := _) Try.func49 rfl Try.ntmps49 rfl ?_
  intro w0 g0
  refine CW.seq ?_
  refine CW.region ?_
  refine LW.v (ov_assign rfl) ?_
  refine LW.nil ?_
  refine KW.thenN ?_
  refine CW.seq ?_
  refine CW.region ?_
  refine LW.v (ov_move rfl) ?_
  refine LW.v (ov_move rfl) ?_
  refine LW.v (ov_nilP rfl) ?_
  refine LW.v (ov_fieldAddr fo120_1 rfl) ?_
  refine LW.v (ov_loadR 1 ta3 rfl rfl rfl) ?_
  refine LW.call [1, 2] (oc_fn cf85 rfl) rfl rfl rfl rfl (rat_ok hR) ?_
  rintro _ _ ⟨ad, c, rfl, rfl⟩
  simp only [putBack, List.set_cons_succ, List.set_cons_zero, List.cons_append, List.nil_append]
  refine LW.v (ov_assign rfl) ?_
  refine LW.nil ?_
  refine KW.thenN ?_
  refine CW.cut (fun env As => ∃ ad c, env = [(0, P1 m 0), (3, .slice ad (rL R.size R.l).length c)] ∧ As = [ex g0, rmrow m R, rfils R.l, ilist ad c (rL R.size R.l)]) (fun Mm hMm => ?_) ?_
  · refine CW.seq ?_
    refine CW.region ?_
    refine LW.v (ov_move rfl) ?_
    refine LW.v (ov_lenL so43 rfl) ?_
    refine LW.v (ov_eql rfl rfl) ?_
    refine LW.nil ?_
    refine KW.thenN ?_
    refine CW.condD (by rfl) (fun g1 => ?_) (fun g1 => ?_)
    · have e : rL R.size R.l = rAt R.l 1 := by rw [rL, if_pos (List.eq_nil_of_length_eq_zero (by omega))]
      refine CW.region ?_
      refine LW.v (ov_move rfl) ?_
      refine LW.call [1, 2] (oc_fn cf85 rfl) rfl rfl rfl rfl (rat_ok hR) ?_
      rintro _ _ ⟨ad2, c2, rfl, rfl⟩
      simp only [putBack, List.set_cons_succ, List.set_cons_zero, List.cons_append, List.nil_append]
      refine LW.v (ov_assign rfl) ?_
      refine LW.nil ?_
      refine KW.thenN ?_
      exact KW.meet [0, 1, 2, 4] hMm ⟨ad2, c2, rfl, rfl⟩ ⟨rfl, by rw [e]; rfl, trivial⟩ rfl (by rw [e]; rfl)
    · have e : rL R.size R.l = rAt R.l R.size := by rw [rL, if_neg (fun q => g1 (by rw [q]; rfl))]
      refine CW.skip ?_
      refine KW.thenN ?_
      exact KW.meet [0, 1, 2, 3] hMm ⟨ad, c, rfl, rfl⟩ ⟨rfl, by rw [e]; rfl, trivial⟩ rfl (by rw [e]; rfl)
  clear ad c
  rintro _ _ ⟨ad, c, rfl, rfl⟩
  have hch : rchoose R.size R.l = if rL R.size R.l = [] then (none, R.l) else
    (some (hd (bestL (rcr (if spentB R.l (onG R.l (gmx R.l (rL R.size R.l)) (rL R.size R.l)) then R.l.map (rrefill (gmx R.l (rL R.size R.l))) else R.l)) (onG R.l (gmx R.l (rL R.size R.l)) (rL R.size R.l)))),
      match (if spentB R.l (onG R.l (gmx R.l (rL R.size R.l)) (rL R.size R.l)) then R.l.map (rrefill (gmx R.l (rL R.size R.l))) else R.l)[hd (bestL (rcr (if spentB R.l (onG R.l (gmx R.l (rL R.size R.l)) (rL R.size R.l)) then R.l.map (rrefill (gmx R.l (rL R.size R.l))) else R.l)) (onG R.l (gmx R.l (rL R.size R.l)) (rL R.size R.l)))]? with
      | some s => (if spentB R.l (onG R.l (gmx R.l (rL R.size R.l)) (rL R.size R.l)) then R.l.map (rrefill (gmx R.l (rL R.size R.l))) else R.l).set (hd (bestL (rcr (if spentB R.l (onG R.l (gmx R.l (rL R.size R.l)) (rL R.size R.l)) then R.l.map (rrefill (gmx R.l (rL R.size R.l))) else R.l)) (onG R.l (gmx R.l (rL R.size R.l)) (rL R.size R.l)))) (rdec s)
      | none => (if spentB R.l (onG R.l (gmx R.l (rL R.size R.l)) (rL R.size R.l)) then R.l.map (rrefill (gmx R.l (rL R.size R.l))) else R.l)) := rfl
  rw [hch]
  clear hch
  have hll := rL_len R.size R.l
  have hlt := fun i => @rL_lt R.size R.l i
  generalize rL R.size R.l = L at hll hlt ⊢
  obtain ⟨craft, size, master, l⟩ := R
  simp only at hlen hok ⊢
  refine CW.seq ?_
  refine CW.seq ?_
  refine CW.region ?_
  refine LW.v (ov_move rfl) ?_
  refine LW.v (ov_lenL so43 rfl) ?_
  refine LW.v (ov_eql rfl rfl) ?_
  refine LW.nil ?_
  refine KW.thenN ?_
  refine CW.condD (by rfl) (fun g1 => ?_) (fun g1 => ?_)
  · have h0 : L = [] := List.eq_nil_of_length_eq_zero (by omega)
    rw [if_pos h0]
    refine CW.seq ?_
    refine CW.region ?_
    refine LW.v (ov_assign rfl) ?_
    refine LW.nil ?_
    refine KW.thenN ?_
    refine CW.ret ?_
    refine KW.thenR ?_
    exact KW.retF (.cons (.tmp rfl) (.nil)) [1, 2] rfl rfl (⟨rfl, rfl⟩)
  have hne : L ≠ [] := fun q => g1 (by rw [q]; rfl)
  rw [if_neg hne]
  refine KW.ownC 3 rfl (fun q1 q2 q3 q4 => absurd (List.eq_nil_of_length_eq_zero q2) hne) (fun bl ex1 q1 q2 q3 q4 => ?_)
  subst q1
  simp only [List.set_cons_succ, List.set_cons_zero]
  have hLk : ∀ {k : Nat} {x : Nat}, L[k]? = some x → (L.map nI ++ ex1)[0 + k * 1]? = some (.int .i64 (x : Int)) := fun {k x} h => by
    rw [Nat.zero_add, Nat.mul_one, List.getElem?_append_left (by simpa using lt_of_get h), List.getElem?_map, h]; rfl
  have hsrc : ∀ {x : Nat}, x ∈ L → ∃ s, l[x]? = some s := fun {x} h => ⟨_, List.getElem?_eq_getElem (by have := hlt x h; omega)⟩
  refine CW.skip ?_
  refine KW.thenN ?_
  refine CW.seq ?_
  refine CW.region ?_
  refine LW.v (ov_assign rfl) ?_
  refine LW.nil ?_
  refine KW.thenN ?_
  -- the greatest priority
  refine CW.cut (fun env As => env = [(0, P1 m 0), (3, .slice (some ⟨bl, 0, none⟩) L.length c), (4, .int .i64 (gmx l L))] ∧ As = [ex g0, rmrow m ⟨craft, size, master, l⟩, rfils l, row bl 3 (L.map nI ++ ex1)]) (fun Mm hMm => ?_) ?_
  · refine CW.seq ?_
    refine CW.region ?_
    refine LW.v (ov_assign rfl) ?_
    refine LW.nil ?_
    refine KW.thenN ?_
    refine CW.block ?_
    refine CW.loopW (fun r env As => ∃ k : Nat, k + r = L.length ∧ env = [(0, P1 m 0), (3, .slice (some ⟨bl, 0, none⟩) L.length c), (4, .int .i64 (gmx l (L.take k))), (5, .int .i64 k)] ∧ As = [ex g0, rmrow m ⟨craft, size, master, l⟩, rfils l, row bl 3 (L.map nI ++ ex1)]) L.length [0, 1, 2, 3] ⟨0, by simp, rfl, rfl⟩ ⟨rfl, rfl, rfl, rfl, trivial⟩ rfl rfl ?_
    rintro r _ _ ⟨k, hkr, rfl, rfl⟩
    refine CW.seq ?_
    refine CW.seq ?_
    refine CW.region ?_
    refine LW.v (ov_move rfl) ?_
    refine LW.v (ov_move rfl) ?_
    refine LW.v (ov_lenL so43 rfl) ?_
    refine LW.v (ov_lss rfl rfl) ?_
    refine LW.nil ?_
    refine KW.thenN ?_
    refine CW.condD (by rfl) (fun h => ?_) (fun h => ?_)
    · have hk : k < L.length := by omega
      obtain ⟨x, hx⟩ : ∃ x, L[k]? = some x := ⟨_, List.getElem?_eq_getElem hk⟩
      obtain ⟨s, hs⟩ := hsrc (List.mem_of_getElem? hx)
      have hx8 := hlt x (List.mem_of_getElem? hx)
      have htk : gmx l (L.take (k + 1)) = max (gmx l (L.take k)) s.prio := by
        rw [List.take_succ_eq_append_getElem hk, gmx_snoc]
        rw [List.getElem?_eq_getElem hk] at hx
        simp only [Option.some.injEq] at hx; rw [hx, rpr, hs]
      refine CW.skip ?_
      refine KW.thenN ?_
      refine CW.seq ?_
      refine CW.block ?_
      refine CW.draw [1,3] rfl mixed rfl (ls := #[false, false, false, false, false, false, false, false, false, false, false, false]) (by kernel_rfl) ?_
      refine DW.tk 0 [1,3] rfl (ov_move rfl) ?_
      refine DW.tk 1 [1,3] rfl (ov_move rfl) ?_
      refine DW.tk 2 [1,3] rfl (ov_move rfl) ?_
      refine DW.tk 3 [1,3] rfl (ov_move rfl) ?_
      refine DW.tk 4 [1,3] rfl (ov_idxL (i := k) so43 rfl rfl rfl hk) ?_
      refine DW.tk 5 [1,3] rfl (ov_loadR 1 ta3 rfl rfl (hLk hx)) ?_
      first | refine DW.tk 6 [1,3] rfl (ov_nilP rfl) ?_ | refine DW.tk 6 [1,3] rfl (ov_nilF rfl) ?_
      refine DW.tk 7 [1,3] rfl (ov_fieldAddr fo120_2 rfl) ?_
      refine DW.tk 8 [1,3] rfl (ov_idxA (i := x) ar38 ta3 rfl rfl rfl hx8) ?_
      refine DW.tk 9 [1,3] rfl (ov_loadR 0 ta3 rfl rfl (rm_prio (R := ⟨craft, size, master, l⟩) hlen hs)) ?_
      refine DW.tk 10 [1,3] rfl (ov_max rfl rfl) ?_
      refine DW.tk 11 [1,3] rfl (ov_assign rfl) ?_
      refine DW.done (by kernel_rfl) ?_
      refine KW.blockN ?_
      refine KW.thenN ?_
      refine CW.region ?_
      refine LW.v (ov_move rfl) ?_
      first | refine LW.v (ov_add rfl rfl (by omega)) ?_ | refine LW.v (ov_addW rfl rfl) ?_
      refine LW.v (ov_assign rfl) ?_
      refine LW.nil ?_
      exact KW.again (r - 1) [0, 1, 2, 3] (by omega) ⟨k + 1, by omega, rfl, rfl⟩ ⟨rfl, rfl, by rw [htk]; rfl, rfl, trivial⟩ rfl rfl
    · obtain rfl : k = L.length := by omega
      refine CW.exit ?_
      refine KW.thenX ?_
      refine KW.thenX ?_
      refine KW.hit ?_
      refine KW.thenN ?_
      exact KW.meet [0, 1, 2, 3] hMm ⟨rfl, rfl⟩ ⟨rfl, rfl, by rw [List.take_length]; rfl, trivial⟩ rfl rfl
  rintro _ _ ⟨rfl, rfl⟩
  have hgm := gmx_mem (l := l) (L := L) hne (fun i hi => by obtain ⟨s, hs⟩ := hsrc hi; rw [rpr, hs]; exact (hok s (List.mem_of_getElem? hs)).prio.1)
  generalize gmx l L = g at hgm ⊢
  have hUne : onG l g L ≠ [] := by
    obtain ⟨i, hi, e⟩ := hgm
    exact List.ne_nil_of_mem (List.mem_filter.2 ⟨hi, by simpa using e⟩)
  -- is the credit spent?
  refine CW.seq ?_
  refine CW.region ?_
  refine LW.v (ov_assign rfl) ?_
  refine LW.v (ov_assign rfl) ?_
  refine LW.nil ?_
  refine KW.thenN ?_
  refine CW.cut (fun env As => env = [(0, P1 m 0), (3, .slice (some ⟨bl, 0, none⟩) L.length c), (4, .int .i64 g), (6, .int .i64 (-1)), (7, .bool (spentB l (onG l g L)))] ∧ As = [ex g0, rmrow m ⟨craft, size, master, l⟩, rfils l, row bl 3 (L.map nI ++ ex1)]) (fun Mm hMm => ?_) ?_
  · refine CW.seq ?_
    refine CW.region ?_
    refine LW.v (ov_assign rfl) ?_
    refine LW.nil ?_
    refine KW.thenN ?_
    refine CW.block ?_
    refine CW.loopW (fun r env As => ∃ k : Nat, k + r = L.length ∧ env = [(0, P1 m 0), (3, .slice (some ⟨bl, 0, none⟩) L.length c), (4, .int .i64 g), (6, .int .i64 (-1)), (7, .bool (spentB l (onG l g (L.take k)))), (8, .int .i64 k)] ∧ As = [ex g0, rmrow m ⟨craft, size, master, l⟩, rfils l, row bl 3 (L.map nI ++ ex1)]) L.length [0, 1, 2, 3] ⟨0, by simp, rfl, rfl⟩ ⟨rfl, rfl, rfl, rfl, rfl, rfl, trivial⟩ rfl rfl ?_
    rintro r _ _ ⟨k, hkr, rfl, rfl⟩
    refine CW.seq ?_
    refine CW.seq ?_
    refine CW.region ?_
    refine LW.v (ov_move rfl) ?_
    refine LW.v (ov_move rfl) ?_
    refine LW.v (ov_lenL so43 rfl) ?_
    refine LW.v (ov_lss rfl rfl) ?_
    refine LW.nil ?_
    refine KW.thenN ?_
    refine CW.condD (by rfl) (fun h => ?_) (fun h => ?_)
    · have hk : k < L.length := by omega
      obtain ⟨x, hx⟩ : ∃ x, L[k]? = some x := ⟨_, List.getElem?_eq_getElem hk⟩
      obtain ⟨s, hs⟩ := hsrc (List.mem_of_getElem? hx)
      have hx8 := hlt x (List.mem_of_getElem? hx)
      have htk : spentB l (onG l g (L.take (k + 1))) = if s.prio = g then (spentB l (onG l g (L.take k)) && !decide (0 < s.credit)) else spentB l (onG l g (L.take k)) := by
        rw [List.take_succ_eq_append_getElem hk]
        rw [List.getElem?_eq_getElem hk] at hx
        simp only [Option.some.injEq] at hx; rw [hx, onG_snoc]
        have e1 : rpr l x = s.prio := by rw [rpr, hs]
        have e2 : rcr l x = s.credit := by rw [rcr, hs]
        rw [e1]; split
        · rw [spentB, List.all_append, ← spentB]; simp [e2]
        · rfl
      refine CW.skip ?_
      refine KW.thenN ?_
      refine CW.seq ?_
      refine CW.block ?_
      refine CW.seq ?_
      refine CW.draw [1,3] rfl mixed rfl (ls := #[false, false, false, false, false, false, false, false, false, false, false, false, false, false, false, false, false, false, false, false, false, false, false]) (by kernel_rfl) ?_
      refine DW.tk 0 [1,3] rfl (ov_move rfl) ?_
      refine DW.tk 1 [1,3] rfl (ov_move rfl) ?_
      refine DW.tk 2 [1,3] rfl (ov_move rfl) ?_
      refine DW.tk 3 [1,3] rfl (ov_idxL (i := k) so43 rfl rfl rfl hk) ?_
      refine DW.tk 4 [1,3] rfl (ov_loadR 1 ta3 rfl rfl (hLk hx)) ?_
      first | refine DW.tk 5 [1,3] rfl (ov_nilP rfl) ?_ | refine DW.tk 5 [1,3] rfl (ov_nilF rfl) ?_
      refine DW.tk 6 [1,3] rfl (ov_fieldAddr fo120_2 rfl) ?_
      refine DW.tk 7 [1,3] rfl (ov_idxA (i := x) ar38 ta3 rfl rfl rfl hx8) ?_
      refine DW.tk 8 [1,3] rfl (ov_loadR 0 ta3 rfl rfl (rm_prio (R := ⟨craft, size, master, l⟩) hlen hs)) ?_
      refine DW.tk 9 [1,3] rfl (ov_move rfl) ?_
      refine DW.tk 10 [1,3] rfl (ov_eql rfl rfl) ?_
      refine DW.tk 11 [1,3] rfl (ov_move rfl) ?_
      first | refine KW.splitD 59 rfl (fun h59 => ?_) (fun h59 => ?_) | refine KW.split 59 rfl (fun h59 => ?_) (fun h59 => ?_)
      · refine DW.tk 12 [1,3] rfl (ov_move rfl) ?_
        refine DW.tk 13 [1,3] rfl (ov_move rfl) ?_
        refine DW.tk 14 [1,3] rfl (ov_move rfl) ?_
        refine DW.tk 15 [1,3] rfl (ov_idxL (i := k) so43 rfl rfl rfl hk) ?_
        refine DW.tk 16 [1,3] rfl (ov_loadR 1 ta3 rfl rfl (hLk hx)) ?_
        first | refine DW.tk 17 [1,3] rfl (ov_nilP rfl) ?_ | refine DW.tk 17 [1,3] rfl (ov_nilF rfl) ?_
        refine DW.tk 18 [1,3] rfl (ov_fieldAddr fo120_7 rfl) ?_
        refine DW.tk 19 [1,3] rfl (ov_idxA (i := x) ar38 ta3 rfl rfl rfl hx8) ?_
        refine DW.tk 20 [1,3] rfl (ov_loadR 0 ta3 rfl rfl (rm_credit (R := ⟨craft, size, master, l⟩) hlen hs)) ?_
        refine DW.tk 21 [1,3] rfl (ov_gtr rfl rfl) ?_
        first | refine DW.tk 22 [1,3] rfl (ov_pickT rfl rfl) ?_ | refine DW.tk 22 [1,3] rfl (ov_pickF rfl rfl) ?_ | refine DW.tk 22 [1,3] rfl (ov_pick rfl rfl rfl) ?_
        refine DW.done (by kernel_rfl) ?_
        refine KW.thenN ?_
        first | refine KW.splitD 70 rfl (fun h70 => ?_) (fun h70 => ?_) | refine KW.split 70 rfl (fun h70 => ?_) (fun h70 => ?_)
        · refine CW.condT rfl rfl ?_
          refine CW.region ?_
          refine LW.v (ov_assign rfl) ?_
          refine LW.nil ?_
          refine KW.blockN ?_
          refine KW.thenN ?_
          refine CW.region ?_
          refine LW.v (ov_move rfl) ?_
          first | refine LW.v (ov_add rfl rfl (by omega)) ?_ | refine LW.v (ov_addW rfl rfl) ?_
          refine LW.v (ov_assign rfl) ?_
          refine LW.nil ?_
          exact KW.again (r - 1) [0, 1, 2, 3] (by omega) ⟨k + 1, by omega, rfl, rfl⟩ ⟨rfl, rfl, rfl, rfl, by rw [htk]; first | (rw [if_neg (by assumption)]; rfl) | (rw [if_pos (by assumption), decide_eq_true (by assumption), Bool.not_true, Bool.and_false]; rfl) | (rw [if_pos (by assumption), decide_eq_false (by assumption), Bool.not_false, Bool.and_true]; rfl), rfl, trivial⟩ rfl rfl
        · refine CW.condF rfl rfl ?_
          refine CW.skip ?_
          refine KW.blockN ?_
          refine KW.thenN ?_
          refine CW.region ?_
          refine LW.v (ov_move rfl) ?_
          first | refine LW.v (ov_add rfl rfl (by omega)) ?_ | refine LW.v (ov_addW rfl rfl) ?_
          refine LW.v (ov_assign rfl) ?_
          refine LW.nil ?_
          exact KW.again (r - 1) [0, 1, 2, 3] (by omega) ⟨k + 1, by omega, rfl, rfl⟩ ⟨rfl, rfl, rfl, rfl, by rw [htk]; first | (rw [if_neg (by assumption)]; rfl) | (rw [if_pos (by assumption), decide_eq_true (by assumption), Bool.not_true, Bool.and_false]; rfl) | (rw [if_pos (by assumption), decide_eq_false (by assumption), Bool.not_false, Bool.and_true]; rfl), rfl, trivial⟩ rfl rfl
      · refine DW.skip 12 [1,3] rfl (by kernel_rfl) (by kernel_rfl) (by kernel_rfl) (fun _ _ _ h => h) rfl rfl rfl rfl rfl ?_
        refine DW.skip 13 [1,3] rfl (by kernel_rfl) (by kernel_rfl) (by kernel_rfl) (fun _ _ _ h => h) rfl rfl rfl rfl rfl ?_
        refine DW.skip 14 [1,3] rfl (by kernel_rfl) (by kernel_rfl) (by kernel_rfl) (fun _ _ _ h => h) rfl rfl rfl rfl rfl ?_
        refine DW.skip 15 [1,3] rfl (by kernel_rfl) (by kernel_rfl) (by kernel_rfl) (fun _ _ _ h => h) rfl rfl rfl rfl rfl ?_
        refine DW.skip 16 [1,3] rfl (by kernel_rfl) (by kernel_rfl) (by kernel_rfl) (fun _ _ _ h => h) rfl rfl rfl rfl rfl ?_
        refine DW.skip 17 [1,3] rfl (by kernel_rfl) (by kernel_rfl) (by kernel_rfl) (fun _ _ _ h => h) rfl rfl rfl rfl rfl ?_
        refine DW.skip 18 [1,3] rfl (by kernel_rfl) (by kernel_rfl) (by kernel_rfl) (fun _ _ _ h => h) rfl rfl rfl rfl rfl ?_
        refine DW.skip 19 [1,3] rfl (by kernel_rfl) (by kernel_rfl) (by kernel_rfl) (fun _ _ _ h => h) rfl rfl rfl rfl rfl ?_
        refine DW.skip 20 [1,3] rfl (by kernel_rfl) (by kernel_rfl) (by kernel_rfl) (fun _ _ _ h => h) rfl rfl rfl rfl rfl ?_
        refine DW.skip 21 [1,3] rfl (by kernel_rfl) (by kernel_rfl) (by kernel_rfl) (fun _ _ _ h => h) rfl rfl rfl rfl rfl ?_
        first | refine DW.tk 22 [1,3] rfl (ov_pickT rfl rfl) ?_ | refine DW.tk 22 [1,3] rfl (ov_pickF rfl rfl) ?_ | refine DW.tk 22 [1,3] rfl (ov_pick rfl rfl rfl) ?_
        refine DW.done (by kernel_rfl) ?_
        refine KW.thenN ?_
        refine CW.condF rfl rfl ?_
        refine CW.skip ?_
        refine KW.blockN ?_
        refine KW.thenN ?_
        refine CW.region ?_
        refine LW.v (ov_move rfl) ?_
        first | refine LW.v (ov_add rfl rfl (by omega)) ?_ | refine LW.v (ov_addW rfl rfl) ?_
        refine LW.v (ov_assign rfl) ?_
        refine LW.nil ?_
        exact KW.again (r - 1) [0, 1, 2, 3] (by omega) ⟨k + 1, by omega, rfl, rfl⟩ ⟨rfl, rfl, rfl, rfl, by rw [htk]; first | (rw [if_neg (by assumption)]; rfl) | (rw [if_pos (by assumption), decide_eq_true (by assumption), Bool.not_true, Bool.and_false]; rfl) | (rw [if_pos (by assumption), decide_eq_false (by assumption), Bool.not_false, Bool.and_true]; rfl), rfl, trivial⟩ rfl rfl
    · obtain rfl : k = L.length := by omega
      refine CW.exit ?_
      refine KW.thenX ?_
      refine KW.thenX ?_
      refine KW.hit ?_
      refine KW.thenN ?_
      exact KW.meet [0, 1, 2, 3] hMm ⟨rfl, rfl⟩ ⟨rfl, rfl, rfl, rfl, by rw [List.take_length]; rfl, trivial⟩ rfl rfl
  rintro _ _ ⟨rfl, rfl⟩
  obtain ⟨l', hl'⟩ : ∃ l', l' = (if spentB l (onG l g L) = true then l.map (rrefill g) else l) := ⟨_, rfl⟩
  rw [← hl']
  -- new credit
  refine CW.cut (fun env As => env = [(0, P1 m 0), (3, .slice (some ⟨bl, 0, none⟩) L.length c), (4, .int .i64 g), (6, .int .i64 (-1))] ∧ As = [ex g0, rmrow m ⟨craft, size, master, l'⟩, rfils l', row bl 3 (L.map nI ++ ex1)]) (fun Mm hMm => ?_) ?_
  · cases hsp : spentB l (onG l g L) with
    | false =>
      rw [hsp, if_neg (by decide)] at hl'
      subst hl'
      refine CW.seq ?_
      refine CW.region ?_
      refine LW.v (ov_assign rfl) ?_
      refine LW.nil ?_
      refine KW.thenN ?_
      refine CW.block ?_
      refine CW.loopW (fun r env As => r = 0 ∧ env = [(0, P1 m 0), (3, .slice (some ⟨bl, 0, none⟩) L.length c), (4, .int .i64 g), (6, .int .i64 (-1)), (7, .bool false), (9, .int .i64 0)] ∧ As = [ex g0, rmrow m ⟨craft, size, master, l'⟩, rfils l', row bl 3 (L.map nI ++ ex1)]) 0 [0, 1, 2, 3] ⟨rfl, rfl, rfl⟩ ⟨rfl, rfl, rfl, rfl, rfl, rfl, trivial⟩ rfl rfl ?_
      rintro r _ _ ⟨rfl, rfl, rfl⟩
      refine CW.seq ?_
      refine CW.seq ?_
      refine CW.region ?_
      refine LW.v (ov_move rfl) ?_
      refine LW.v (OpV.eq (ov_lss rfl rfl) (congrArg Value.bool (decide_eq_true (by first | omega | assumption)))) ?_
      refine LW.v (ov_move rfl) ?_
      refine LW.v (ov_move rfl) ?_
      first | refine LW.v (ov_pickT rfl rfl) ?_ | refine LW.v (ov_pickF rfl rfl) ?_ | refine LW.v (ov_pick rfl rfl rfl) ?_
      refine LW.nil ?_
      refine KW.thenN ?_
      refine CW.condF rfl rfl ?_
      refine CW.exit ?_
      refine KW.thenX ?_
      refine KW.thenX ?_
      refine KW.hit ?_
      refine KW.thenN ?_
      exact KW.meet [0, 1, 2, 3] hMm ⟨rfl, rfl⟩ ⟨rfl, rfl, rfl, rfl, trivial⟩ rfl rfl
    | true =>
      rw [hsp, if_pos rfl] at hl'
      refine CW.seq ?_
      refine CW.region ?_
      refine LW.v (ov_assign rfl) ?_
      refine LW.nil ?_
      refine KW.thenN ?_
      refine CW.block ?_
      refine CW.loopW (fun r env As => ∃ k : Nat, k + r = 8 ∧ env = [(0, P1 m 0), (3, .slice (some ⟨bl, 0, none⟩) L.length c), (4, .int .i64 g), (6, .int .i64 (-1)), (7, .bool true), (9, .int .i64 k)] ∧ As = [ex g0, rmrow m ⟨craft, size, master, mapN (rrefill g) k l⟩, rfils l, row bl 3 (L.map nI ++ ex1)]) 8 [0, 1, 2, 3] ⟨0, rfl, rfl, rfl⟩ ⟨rfl, rfl, rfl, rfl, rfl, rfl, trivial⟩ rfl rfl ?_
      rintro r _ _ ⟨k, hkr, rfl, rfl⟩
      refine CW.seq ?_
      refine CW.seq ?_
      refine CW.region ?_
      refine LW.v (ov_move rfl) ?_
      refine LW.v (ov_lss rfl rfl) ?_
      refine LW.v (ov_move rfl) ?_
      refine KW.splitD 73 rfl (fun h => ?_) (fun h => ?_)
      · have hk : k < l.length := by omega
        obtain ⟨s, hs⟩ : ∃ s, l[k]? = some s := ⟨_, List.getElem?_eq_getElem hk⟩
        have hs0 : (mapN (rrefill g) k l)[k]? = some s := by rw [mapN_get]; exact hs
        have hset := mapN_set (rrefill g) k l s hs
        have hml : (mapN (rrefill g) k l).length = 8 := by rw [mapN_len]; exact hlen
        generalize mapN (rrefill g) k l = l1 at hs0 hset hml ⊢
        refine LW.v (ov_move rfl) ?_
        first | refine LW.v (ov_pickT rfl rfl) ?_ | refine LW.v (ov_pickF rfl rfl) ?_ | refine LW.v (ov_pick rfl rfl rfl) ?_
        refine LW.nil ?_
        refine KW.thenN ?_
        refine CW.condT rfl rfl ?_
        refine CW.skip ?_
        refine KW.thenN ?_
        refine CW.seq ?_
        refine CW.block ?_
        refine CW.seq ?_
        refine CW.region ?_
        refine LW.v (ov_move rfl) ?_
        refine LW.v (ov_move rfl) ?_
        refine LW.v (ov_nilP rfl) ?_
        refine LW.v (ov_fieldAddr fo120_2 rfl) ?_
        refine LW.v (ov_idxA (i := k) ar38 ta3 rfl rfl rfl (by omega)) ?_
        refine LW.v (ov_loadR 1 ta3 rfl rfl (rm_prio (R := ⟨craft, size, master, l1⟩) hml hs0)) ?_
        refine LW.v (ov_move rfl) ?_
        refine LW.v (ov_eql rfl rfl) ?_
        refine LW.nil ?_
        refine KW.thenN ?_
        refine CW.condD (by rfl) (fun g4 => ?_) (fun g4 => ?_)
        · have er : ({ s with credit := s.share } : RSrc) = rrefill g s := by rw [rrefill, if_pos g4]
          have hrl := rmC_len (R := ⟨craft, size, master, l1⟩) hml
          refine CW.draw [] rfl mixed rfl (ls := #[false, false, false, false, false, false, false, false, false, false, false, false]) (by kernel_rfl) ?_
          refine DW.tk 0 [] rfl (ov_move rfl) ?_
          refine DW.tk 1 [] rfl (ov_move rfl) ?_
          refine DW.tk 2 [] rfl (ov_move rfl) ?_
          refine DW.tk 3 [] rfl (ov_move rfl) ?_
          first | refine DW.tk 4 [] rfl (ov_nilP rfl) ?_ | refine DW.tk 4 [] rfl (ov_nilF rfl) ?_
          refine DW.tk 5 [] rfl (ov_fieldAddr fo120_3 rfl) ?_
          refine DW.tk 6 [] rfl (ov_idxA (i := k) ar38 ta3 rfl rfl rfl (by omega)) ?_
          first | refine DW.tk 8 [] rfl (ov_nilP rfl) ?_ | refine DW.tk 8 [] rfl (ov_nilF rfl) ?_
          refine DW.tk 9 [] rfl (ov_fieldAddr fo120_7 rfl) ?_
          refine DW.all1 7 (by kernel_rfl) ?_
          refine DO.opV [] rfl (ov_loadR 1 ta3 rfl rfl (rm_share (R := ⟨craft, size, master, l1⟩) hml hs0)) rfl rfl rfl rfl rfl ?_
          refine DW.tk 10 [] rfl (ov_idxA (i := k) ar38 ta3 rfl rfl rfl (by omega)) ?_
          refine DW.all1 11 (by kernel_rfl) ?_
          refine DO.opU [] rfl (ou_storeAt ta3 rfl rfl rfl (by omega) (.t (.h))) rfl rfl rfl rfl ?_
          refine DW.done (by kernel_rfl) ?_
          refine KW.blockN ?_
          refine KW.thenN ?_
          refine CW.region ?_
          refine LW.v (ov_move rfl) ?_
          first | refine LW.v (ov_add rfl rfl (by omega)) ?_ | refine LW.v (ov_addW rfl rfl) ?_
          refine LW.v (ov_assign rfl) ?_
          refine LW.nil ?_
          rw [rm_setCredit (R := ⟨craft, size, master, l1⟩) hml hs0 s.share]
          simp only
          rw [er, hset]
          exact KW.again (r - 1) [0, 1, 2, 3] (by omega) ⟨k + 1, by omega, rfl, rfl⟩ ⟨rfl, rfl, rfl, rfl, rfl, rfl, trivial⟩ rfl rfl
        · have er : s = rrefill g s := by rw [rrefill, if_neg g4]
          have e1 : l1 = mapN (rrefill g) (k + 1) l := by
            rw [← hset, ← er]
            obtain ⟨hi, hg⟩ := List.getElem?_eq_some_iff.1 hs0
            rw [← hg, List.set_getElem_self]
          refine CW.skip ?_
          refine KW.blockN ?_
          refine KW.thenN ?_
          refine CW.region ?_
          refine LW.v (ov_move rfl) ?_
          first | refine LW.v (ov_add rfl rfl (by omega)) ?_ | refine LW.v (ov_addW rfl rfl) ?_
          refine LW.v (ov_assign rfl) ?_
          refine LW.nil ?_
          rw [e1]
          exact KW.again (r - 1) [0, 1, 2, 3] (by omega) ⟨k + 1, by omega, rfl, rfl⟩ ⟨rfl, rfl, rfl, rfl, rfl, rfl, trivial⟩ rfl rfl
      · obtain rfl : k = 8 := by omega
        have e1 : mapN (rrefill g) 8 l = l' := by rw [hl', ← hlen]; exact mapN_all _ _
        have e2 : rfils l = rfils l' := by
          rw [hl', rfils, rfils, List.map_map]
          have : ((fun s : RSrc => rfilA s.p s.fl) ∘ rrefill g) = fun s => rfilA s.p s.fl := by funext s; unfold rrefill; simp only [Function.comp]; split <;> rfl
          rw [this]
        rw [e1, e2]
        refine LW.skip rfl rfl ?_
        first | refine LW.v (ov_pickT rfl rfl) ?_ | refine LW.v (ov_pickF rfl rfl) ?_ | refine LW.v (ov_pick rfl rfl rfl) ?_
        refine LW.nil ?_
        refine KW.thenN ?_
        refine CW.condF rfl rfl ?_
        refine CW.exit ?_
        refine KW.thenX ?_
        refine KW.thenX ?_
        refine KW.hit ?_
        refine KW.thenN ?_
        exact KW.meet [0, 1, 2, 3] hMm ⟨rfl, rfl⟩ ⟨rfl, rfl, rfl, rfl, trivial⟩ rfl rfl
  rintro _ _ ⟨rfl, rfl⟩
  have hl'len : l'.length = 8 := by rw [hl']; split <;> simp [hlen]
  have hl'ok : ∀ s ∈ l', s.ok := by
    rw [hl']; split
    · intro s hs
      obtain ⟨s0, h0, rfl⟩ := List.mem_map.1 hs
      have := hok s0 h0
      unfold rrefill; split
      · exact ⟨this.prio, by have := this.share; simp only; omega, this.share, this.fl⟩
      · exact this
    · exact hok
  have hsrc' : ∀ {x : Nat}, x ∈ L → ∃ s, l'[x]? = some s ∧ s.prio = rpr l x ∧ rcr l' x = s.credit := fun {x} h => by
    obtain ⟨s, hs⟩ := hsrc h
    have hp : rpr l x = s.prio := by rw [rpr, hs]
    rw [hl', hp]; split
    · refine ⟨rrefill g s, by rw [List.getElem?_map, hs]; rfl, by unfold rrefill; split <;> rfl, ?_⟩
      rw [rcr, List.getElem?_map, hs]; rfl
    · exact ⟨s, hs, rfl, by rw [rcr, hs]⟩
  clear hl'
  -- the best one
  refine CW.cut (fun env As => env = [(0, P1 m 0), (6, .int .i64 (hdI (bestL (rcr l') (onG l g L))))] ∧ As = [ex g0, rmrow m ⟨craft, size, master, l'⟩, rfils l']) (fun Mm hMm => ?_) ?_
  · refine CW.seq ?_
    refine CW.region ?_
    refine LW.v (ov_assign rfl) ?_
    refine LW.nil ?_
    refine KW.thenN ?_
    refine CW.block ?_
    refine CW.loopW (fun r env As => ∃ k : Nat, k + r = L.length ∧ env = [(0, P1 m 0), (3, .slice (some ⟨bl, 0, none⟩) L.length c), (4, .int .i64 g), (6, .int .i64 (hdI (bestL (rcr l') (onG l g (L.take k))))), (10, .int .i64 k)] ∧ As = [ex g0, rmrow m ⟨craft, size, master, l'⟩, rfils l', row bl 3 (L.map nI ++ ex1)]) L.length [0, 1, 2, 3] ⟨0, by simp, rfl, rfl⟩ ⟨rfl, rfl, rfl, rfl, rfl, trivial⟩ rfl rfl ?_
    rintro r _ _ ⟨k, hkr, rfl, rfl⟩
    refine CW.seq ?_
    refine CW.seq ?_
    refine CW.region ?_
    refine LW.v (ov_move rfl) ?_
    refine LW.v (ov_move rfl) ?_
    refine LW.v (ov_lenL so43 rfl) ?_
    refine LW.v (ov_lss rfl rfl) ?_
    refine LW.nil ?_
    refine KW.thenN ?_
    refine CW.condD (by rfl) (fun h => ?_) (fun h => ?_)
    · have hk : k < L.length := by omega
      obtain ⟨x, hx⟩ : ∃ x, L[k]? = some x := ⟨_, List.getElem?_eq_getElem hk⟩
      obtain ⟨s, hs, hsp, hsc⟩ := hsrc' (List.mem_of_getElem? hx)
      have hx8 := hlt x (List.mem_of_getElem? hx)
      have htk : hdI (bestL (rcr l') (onG l g (L.take (k + 1)))) = if s.prio = g then (if hdI (bestL (rcr l') (onG l g (L.take k))) < 0 then (x : Int) else if rcr l' (hd (bestL (rcr l') (onG l g (L.take k)))) < s.credit then (x : Int) else hdI (bestL (rcr l') (onG l g (L.take k)))) else hdI (bestL (rcr l') (onG l g (L.take k))) := by
        rw [List.take_succ_eq_append_getElem hk]
        rw [List.getElem?_eq_getElem hk] at hx
        simp only [Option.some.injEq] at hx; rw [hx, onG_snoc, hsp]
        split
        · rw [bestL_snoc, hdI_step, hsc]
        · rfl
      have hout : ∀ y ∈ bestL (rcr l') (onG l g (L.take k)), y ∈ L := fun y hy => List.mem_of_mem_take (List.mem_filter.1 (bestL_sub _ hy)).1
      generalize bestL (rcr l') (onG l g (L.take k)) = out at htk hout ⊢
      refine CW.skip ?_
      refine KW.thenN ?_
      refine CW.seq ?_
      refine CW.block ?_
      refine CW.seq ?_
      by_cases hpg : s.prio = g
      · cases out with
        | nil =>
          rw [if_pos hpg, if_pos (by simp [hdI])] at htk
          refine CW.draw [1,3] rfl mixed rfl (ls := #[false, false, false, false, false, false, false, false, false, false, false, false, false, false, false, false, false, false, false, false, false, false, false, false, false, false, false, false, false, false, false, false, false]) (by kernel_rfl) ?_
          refine DW.tk 0 [1,3] rfl (ov_move rfl) ?_
          refine DW.tk 1 [1,3] rfl (ov_move rfl) ?_
          refine DW.tk 2 [1,3] rfl (ov_move rfl) ?_
          refine DW.tk 3 [1,3] rfl (ov_idxL (i := k) so43 rfl rfl rfl hk) ?_
          refine DW.tk 4 [1,3] rfl (ov_loadR 1 ta3 rfl rfl (hLk hx)) ?_
          first | refine DW.tk 5 [1,3] rfl (ov_nilP rfl) ?_ | refine DW.tk 5 [1,3] rfl (ov_nilF rfl) ?_
          refine DW.tk 6 [1,3] rfl (ov_fieldAddr fo120_2 rfl) ?_
          refine DW.tk 7 [1,3] rfl (ov_idxA (i := x) ar38 ta3 rfl rfl rfl hx8) ?_
          refine DW.tk 8 [1,3] rfl (ov_loadR 0 ta3 rfl rfl (rm_prio (R := ⟨craft, size, master, l'⟩) hl'len hs)) ?_
          refine DW.tk 9 [1,3] rfl (ov_move rfl) ?_
          refine DW.tk 10 [1,3] rfl (OpV.eq (ov_eql rfl rfl) (congrArg Value.bool (decide_eq_true (by first | omega | assumption)))) ?_
          refine DW.tk 11 [1,3] rfl (ov_move rfl) ?_
          refine DW.tk 12 [1,3] rfl (ov_move rfl) ?_
          refine DW.tk 13 [1,3] rfl (ov_lss rfl rfl) ?_
          refine DW.tk 14 [1,3] rfl (ov_move rfl) ?_
          refine DW.skip 15 [1,3] rfl (by kernel_rfl) (by kernel_rfl) (by kernel_rfl) (fun _ _ _ h => h) rfl rfl rfl rfl rfl ?_
          refine DW.skip 16 [1,3] rfl (by kernel_rfl) (by kernel_rfl) (by kernel_rfl) (fun _ _ _ h => h) rfl rfl rfl rfl rfl ?_
          refine DW.skip 17 [1,3] rfl (by kernel_rfl) (by kernel_rfl) (by kernel_rfl) (fun _ _ _ h => h) rfl rfl rfl rfl rfl ?_
          refine DW.skip 18 [1,3] rfl (by kernel_rfl) (by kernel_rfl) (by kernel_rfl) (fun _ _ _ h => h) rfl rfl rfl rfl rfl ?_
          refine DW.skip 19 [1,3] rfl (by kernel_rfl) (by kernel_rfl) (by kernel_rfl) (fun _ _ _ h => h) rfl rfl rfl rfl rfl ?_
          refine DW.skip 20 [1,3] rfl (by kernel_rfl) (by kernel_rfl) (by kernel_rfl) (fun _ _ _ h => h) rfl rfl rfl rfl rfl ?_
          refine DW.skip 21 [1,3] rfl (by kernel_rfl) (by kernel_rfl) (by kernel_rfl) (fun _ _ _ h => h) rfl rfl rfl rfl rfl ?_
          refine DW.skip 22 [1,3] rfl (by kernel_rfl) (by kernel_rfl) (by kernel_rfl) (fun _ _ _ h => h) rfl rfl rfl rfl rfl ?_
          refine DW.skip 23 [1,3] rfl (by kernel_rfl) (by kernel_rfl) (by kernel_rfl) (fun _ _ _ h => h) rfl rfl rfl rfl rfl ?_
          refine DW.skip 24 [1,3] rfl (by kernel_rfl) (by kernel_rfl) (by kernel_rfl) (fun _ _ _ h => h) rfl rfl rfl rfl rfl ?_
          refine DW.skip 25 [1,3] rfl (by kernel_rfl) (by kernel_rfl) (by kernel_rfl) (fun _ _ _ h => h) rfl rfl rfl rfl rfl ?_
          refine DW.skip 26 [1,3] rfl (by kernel_rfl) (by kernel_rfl) (by kernel_rfl) (fun _ _ _ h => h) rfl rfl rfl rfl rfl ?_
          refine DW.skip 27 [1,3] rfl (by kernel_rfl) (by kernel_rfl) (by kernel_rfl) (fun _ _ _ h => h) rfl rfl rfl rfl rfl ?_
          refine DW.skip 28 [1,3] rfl (by kernel_rfl) (by kernel_rfl) (by kernel_rfl) (fun _ _ _ h => h) rfl rfl rfl rfl rfl ?_
          refine DW.skip 29 [1,3] rfl (by kernel_rfl) (by kernel_rfl) (by kernel_rfl) (fun _ _ _ h => h) rfl rfl rfl rfl rfl ?_
          refine DW.skip 30 [1,3] rfl (by kernel_rfl) (by kernel_rfl) (by kernel_rfl) (fun _ _ _ h => h) rfl rfl rfl rfl rfl ?_
          first | refine DW.tk 31 [1,3] rfl (ov_pickT rfl rfl) ?_ | refine DW.tk 31 [1,3] rfl (ov_pickF rfl rfl) ?_ | refine DW.tk 31 [1,3] rfl (ov_pick rfl rfl rfl) ?_
          first | refine DW.tk 32 [1,3] rfl (ov_pickT rfl rfl) ?_ | refine DW.tk 32 [1,3] rfl (ov_pickF rfl rfl) ?_ | refine DW.tk 32 [1,3] rfl (ov_pick rfl rfl rfl) ?_
          refine DW.done (by kernel_rfl) ?_
          refine KW.thenN ?_
          refine CW.condT rfl rfl ?_
          refine CW.region ?_
          refine LW.v (ov_move rfl) ?_
          refine LW.v (ov_move rfl) ?_
          refine LW.v (ov_idxL (i := k) so43 rfl rfl rfl hk) ?_
          refine LW.v (ov_loadR 3 ta3 rfl rfl (hLk hx)) ?_
          refine LW.v (ov_assign rfl) ?_
          refine LW.nil ?_
          refine KW.blockN ?_
          refine KW.thenN ?_
          refine CW.region ?_
          refine LW.v (ov_move rfl) ?_
          first | refine LW.v (ov_add rfl rfl (by omega)) ?_ | refine LW.v (ov_addW rfl rfl) ?_
          refine LW.v (ov_assign rfl) ?_
          refine LW.nil ?_
          exact KW.again (r - 1) [0, 1, 2, 3] (by omega) ⟨k + 1, by omega, rfl, rfl⟩ ⟨rfl, rfl, rfl, by rw [htk]; rfl, rfl, trivial⟩ rfl rfl
        | cons o os =>
          have hoL := hout o (List.mem_cons_self ..)
          obtain ⟨so, hso, _, hsoc⟩ := hsrc' hoL
          have ho8 := hlt o hoL
          have hox : rcr l' (hd (o :: os)) = so.credit := hsoc
          rw [if_pos hpg, if_neg (by simp [hdI]), hox] at htk
          refine CW.draw [1,3] rfl mixed rfl (ls := #[false, false, false, false, false, false, false, false, false, false, false, false, false, false, false, false, false, false, false, false, false, false, false, false, false, false, false, false, false, false, false, false, false]) (by kernel_rfl) ?_
          refine DW.tk 0 [1,3] rfl (ov_move rfl) ?_
          refine DW.tk 1 [1,3] rfl (ov_move rfl) ?_
          refine DW.tk 2 [1,3] rfl (ov_move rfl) ?_
          refine DW.tk 3 [1,3] rfl (ov_idxL (i := k) so43 rfl rfl rfl hk) ?_
          refine DW.tk 4 [1,3] rfl (ov_loadR 1 ta3 rfl rfl (hLk hx)) ?_
          first | refine DW.tk 5 [1,3] rfl (ov_nilP rfl) ?_ | refine DW.tk 5 [1,3] rfl (ov_nilF rfl) ?_
          refine DW.tk 6 [1,3] rfl (ov_fieldAddr fo120_2 rfl) ?_
          refine DW.tk 7 [1,3] rfl (ov_idxA (i := x) ar38 ta3 rfl rfl rfl hx8) ?_
          refine DW.tk 8 [1,3] rfl (ov_loadR 0 ta3 rfl rfl (rm_prio (R := ⟨craft, size, master, l'⟩) hl'len hs)) ?_
          refine DW.tk 9 [1,3] rfl (ov_move rfl) ?_
          refine DW.tk 10 [1,3] rfl (OpV.eq (ov_eql rfl rfl) (congrArg Value.bool (decide_eq_true (by first | omega | assumption)))) ?_
          refine DW.tk 11 [1,3] rfl (ov_move rfl) ?_
          refine DW.tk 12 [1,3] rfl (ov_move rfl) ?_
          refine DW.tk 13 [1,3] rfl (OpV.eq (ov_lss rfl rfl) (congrArg Value.bool (decide_eq_false (by simp [hdI])))) ?_
          refine DW.tk 14 [1,3] rfl (ov_move rfl) ?_
          refine DW.tk 15 [1,3] rfl (ov_move rfl) ?_
          refine DW.tk 16 [1,3] rfl (ov_move rfl) ?_
          refine DW.tk 17 [1,3] rfl (ov_move rfl) ?_
          refine DW.tk 18 [1,3] rfl (ov_idxL (i := k) so43 rfl rfl rfl hk) ?_
          refine DW.tk 19 [1,3] rfl (ov_loadR 1 ta3 rfl rfl (hLk hx)) ?_
          first | refine DW.tk 20 [1,3] rfl (ov_nilP rfl) ?_ | refine DW.tk 20 [1,3] rfl (ov_nilF rfl) ?_
          refine DW.tk 21 [1,3] rfl (ov_fieldAddr fo120_7 rfl) ?_
          refine DW.tk 22 [1,3] rfl (ov_idxA (i := x) ar38 ta3 rfl rfl rfl hx8) ?_
          refine DW.tk 23 [1,3] rfl (ov_loadR 0 ta3 rfl rfl (rm_credit (R := ⟨craft, size, master, l'⟩) hl'len hs)) ?_
          refine DW.tk 24 [1,3] rfl (ov_move rfl) ?_
          refine DW.tk 25 [1,3] rfl (ov_move rfl) ?_
          first | refine DW.tk 26 [1,3] rfl (ov_nilP rfl) ?_ | refine DW.tk 26 [1,3] rfl (ov_nilF rfl) ?_
          refine DW.tk 27 [1,3] rfl (ov_fieldAddr fo120_7 rfl) ?_
          refine DW.tk 28 [1,3] rfl (ov_idxA (i := o) ar38 ta3 rfl rfl rfl ho8) ?_
          refine DW.tk 29 [1,3] rfl (ov_loadR 0 ta3 rfl rfl (rm_credit (R := ⟨craft, size, master, l'⟩) hl'len hso)) ?_
          refine DW.tk 30 [1,3] rfl (ov_gtr rfl rfl) ?_
          first | refine DW.tk 31 [1,3] rfl (ov_pickT rfl rfl) ?_ | refine DW.tk 31 [1,3] rfl (ov_pickF rfl rfl) ?_ | refine DW.tk 31 [1,3] rfl (ov_pick rfl rfl rfl) ?_
          first | refine DW.tk 32 [1,3] rfl (ov_pickT rfl rfl) ?_ | refine DW.tk 32 [1,3] rfl (ov_pickF rfl rfl) ?_ | refine DW.tk 32 [1,3] rfl (ov_pick rfl rfl rfl) ?_
          refine DW.done (by kernel_rfl) ?_
          refine KW.thenN ?_
          refine CW.condD (by rfl) (fun g5 => ?_) (fun g5 => ?_)
          · rw [if_pos g5] at htk
            refine CW.region ?_
            refine LW.v (ov_move rfl) ?_
            refine LW.v (ov_move rfl) ?_
            refine LW.v (ov_idxL (i := k) so43 rfl rfl rfl hk) ?_
            refine LW.v (ov_loadR 3 ta3 rfl rfl (hLk hx)) ?_
            refine LW.v (ov_assign rfl) ?_
            refine LW.nil ?_
            refine KW.blockN ?_
            refine KW.thenN ?_
            refine CW.region ?_
            refine LW.v (ov_move rfl) ?_
            first | refine LW.v (ov_add rfl rfl (by omega)) ?_ | refine LW.v (ov_addW rfl rfl) ?_
            refine LW.v (ov_assign rfl) ?_
            refine LW.nil ?_
            exact KW.again (r - 1) [0, 1, 2, 3] (by omega) ⟨k + 1, by omega, rfl, rfl⟩ ⟨rfl, rfl, rfl, by rw [htk]; rfl, rfl, trivial⟩ rfl rfl
          · rw [if_neg g5] at htk
            refine CW.skip ?_
            refine KW.blockN ?_
            refine KW.thenN ?_
            refine CW.region ?_
            refine LW.v (ov_move rfl) ?_
            first | refine LW.v (ov_add rfl rfl (by omega)) ?_ | refine LW.v (ov_addW rfl rfl) ?_
            refine LW.v (ov_assign rfl) ?_
            refine LW.nil ?_
            exact KW.again (r - 1) [0, 1, 2, 3] (by omega) ⟨k + 1, by omega, rfl, rfl⟩ ⟨rfl, rfl, rfl, by rw [htk]; rfl, rfl, trivial⟩ rfl rfl
      · rw [if_neg hpg] at htk
        refine CW.draw [1,3] rfl mixed rfl (ls := #[false, false, false, false, false, false, false, false, false, false, false, false, false, false, false, false, false, false, false, false, false, false, false, false, false, false, false, false, false, false, false, false, false]) (by kernel_rfl) ?_
        refine DW.tk 0 [1,3] rfl (ov_move rfl) ?_
        refine DW.tk 1 [1,3] rfl (ov_move rfl) ?_
        refine DW.tk 2 [1,3] rfl (ov_move rfl) ?_
        refine DW.tk 3 [1,3] rfl (ov_idxL (i := k) so43 rfl rfl rfl hk) ?_
        refine DW.tk 4 [1,3] rfl (ov_loadR 1 ta3 rfl rfl (hLk hx)) ?_
        first | refine DW.tk 5 [1,3] rfl (ov_nilP rfl) ?_ | refine DW.tk 5 [1,3] rfl (ov_nilF rfl) ?_
        refine DW.tk 6 [1,3] rfl (ov_fieldAddr fo120_2 rfl) ?_
        refine DW.tk 7 [1,3] rfl (ov_idxA (i := x) ar38 ta3 rfl rfl rfl hx8) ?_
        refine DW.tk 8 [1,3] rfl (ov_loadR 0 ta3 rfl rfl (rm_prio (R := ⟨craft, size, master, l'⟩) hl'len hs)) ?_
        refine DW.tk 9 [1,3] rfl (ov_move rfl) ?_
        refine DW.tk 10 [1,3] rfl (OpV.eq (ov_eql rfl rfl) (congrArg Value.bool (decide_eq_false (by first | omega | assumption)))) ?_
        refine DW.tk 11 [1,3] rfl (ov_move rfl) ?_
        refine DW.skip 12 [1,3] rfl (by kernel_rfl) (by kernel_rfl) (by kernel_rfl) (fun _ _ _ h => h) rfl rfl rfl rfl rfl ?_
        refine DW.skip 13 [1,3] rfl (by kernel_rfl) (by kernel_rfl) (by kernel_rfl) (fun _ _ _ h => h) rfl rfl rfl rfl rfl ?_
        refine DW.skip 14 [1,3] rfl (by kernel_rfl) (by kernel_rfl) (by kernel_rfl) (fun _ _ _ h => h) rfl rfl rfl rfl rfl ?_
        refine DW.skip 15 [1,3] rfl (by kernel_rfl) (by kernel_rfl) (by kernel_rfl) (fun _ _ _ h => h) rfl rfl rfl rfl rfl ?_
        refine DW.skip 16 [1,3] rfl (by kernel_rfl) (by kernel_rfl) (by kernel_rfl) (fun _ _ _ h => h) rfl rfl rfl rfl rfl ?_
        refine DW.skip 17 [1,3] rfl (by kernel_rfl) (by kernel_rfl) (by kernel_rfl) (fun _ _ _ h => h) rfl rfl rfl rfl rfl ?_
        refine DW.skip 18 [1,3] rfl (by kernel_rfl) (by kernel_rfl) (by kernel_rfl) (fun _ _ _ h => h) rfl rfl rfl rfl rfl ?_
        refine DW.skip 19 [1,3] rfl (by kernel_rfl) (by kernel_rfl) (by kernel_rfl) (fun _ _ _ h => h) rfl rfl rfl rfl rfl ?_
        refine DW.skip 20 [1,3] rfl (by kernel_rfl) (by kernel_rfl) (by kernel_rfl) (fun _ _ _ h => h) rfl rfl rfl rfl rfl ?_
        refine DW.skip 21 [1,3] rfl (by kernel_rfl) (by kernel_rfl) (by kernel_rfl) (fun _ _ _ h => h) rfl rfl rfl rfl rfl ?_
        refine DW.skip 22 [1,3] rfl (by kernel_rfl) (by kernel_rfl) (by kernel_rfl) (fun _ _ _ h => h) rfl rfl rfl rfl rfl ?_
        refine DW.skip 23 [1,3] rfl (by kernel_rfl) (by kernel_rfl) (by kernel_rfl) (fun _ _ _ h => h) rfl rfl rfl rfl rfl ?_
        refine DW.skip 24 [1,3] rfl (by kernel_rfl) (by kernel_rfl) (by kernel_rfl) (fun _ _ _ h => h) rfl rfl rfl rfl rfl ?_
        refine DW.skip 25 [1,3] rfl (by kernel_rfl) (by kernel_rfl) (by kernel_rfl) (fun _ _ _ h => h) rfl rfl rfl rfl rfl ?_
        refine DW.skip 26 [1,3] rfl (by kernel_rfl) (by kernel_rfl) (by kernel_rfl) (fun _ _ _ h => h) rfl rfl rfl rfl rfl ?_
        refine DW.skip 27 [1,3] rfl (by kernel_rfl) (by kernel_rfl) (by kernel_rfl) (fun _ _ _ h => h) rfl rfl rfl rfl rfl ?_
        refine DW.skip 28 [1,3] rfl (by kernel_rfl) (by kernel_rfl) (by kernel_rfl) (fun _ _ _ h => h) rfl rfl rfl rfl rfl ?_
        refine DW.skip 29 [1,3] rfl (by kernel_rfl) (by kernel_rfl) (by kernel_rfl) (fun _ _ _ h => h) rfl rfl rfl rfl rfl ?_
        refine DW.skip 30 [1,3] rfl (by kernel_rfl) (by kernel_rfl) (by kernel_rfl) (fun _ _ _ h => h) rfl rfl rfl rfl rfl ?_
        refine DW.skip 31 [1,3] rfl (by kernel_rfl) (by kernel_rfl) (by kernel_rfl) (fun _ _ _ h => h) rfl rfl rfl rfl rfl ?_
        first | refine DW.tk 32 [1,3] rfl (ov_pickT rfl rfl) ?_ | refine DW.tk 32 [1,3] rfl (ov_pickF rfl rfl) ?_ | refine DW.tk 32 [1,3] rfl (ov_pick rfl rfl rfl) ?_
        refine DW.done (by kernel_rfl) ?_
        refine KW.thenN ?_
        refine CW.condF rfl rfl ?_
        refine CW.skip ?_
        refine KW.blockN ?_
        refine KW.thenN ?_
        refine CW.region ?_
        refine LW.v (ov_move rfl) ?_
        first | refine LW.v (ov_add rfl rfl (by omega)) ?_ | refine LW.v (ov_addW rfl rfl) ?_
        refine LW.v (ov_assign rfl) ?_
        refine LW.nil ?_
        exact KW.again (r - 1) [0, 1, 2, 3] (by omega) ⟨k + 1, by omega, rfl, rfl⟩ ⟨rfl, rfl, rfl, by rw [htk]; rfl, rfl, trivial⟩ rfl rfl
    · obtain rfl : k = L.length := by omega
      refine CW.exit ?_
      refine KW.thenX ?_
      refine KW.thenX ?_
      refine KW.hit ?_
      refine KW.thenN ?_
      exact KW.meet [0, 1, 2] hMm ⟨rfl, rfl⟩ ⟨rfl, by rw [List.take_length]; rfl, trivial⟩ rfl rfl
  rintro _ _ ⟨rfl, rfl⟩
  have hbne := bestL_ne (rcr l') hUne
  have hbm : hd (bestL (rcr l') (onG l g L)) ∈ L := (List.mem_filter.1 (bestL_sub _ (hd_mem hbne))).1
  obtain ⟨os, hos⟩ := hd_cons hbne
  have hdi : hdI (bestL (rcr l') (onG l g L)) = (hd (bestL (rcr l') (onG l g L)) : Int) := by rw [hos]; rfl
  rw [hdi]
  generalize hd (bestL (rcr l') (onG l g L)) = o at hbm ⊢
  obtain ⟨s, hs, _, _⟩ := hsrc' hbm
  have ho8 := hlt o hbm
  have hso := hl'ok s (List.mem_of_getElem? hs)
  have hcr := hso.credit
  have hrl := rmC_len (R := ⟨craft, size, master, l'⟩) hl'len
  refine CW.seq ?_
  refine CW.draw [] rfl mixed rfl (ls := #[false, false, false, false, false, false, false, false, false, false, false]) (by kernel_rfl) ?_
  refine DW.tk 0 [] rfl (ov_move rfl) ?_
  refine DW.tk 1 [] rfl (ov_move rfl) ?_
  first | refine DW.tk 2 [] rfl (ov_nilP rfl) ?_ | refine DW.tk 2 [] rfl (ov_nilF rfl) ?_
  refine DW.tk 3 [] rfl (ov_fieldAddr fo120_7 rfl) ?_
  refine DW.tk 4 [] rfl (ov_idxA (i := o) ar38 ta3 rfl rfl rfl ho8) ?_
  first | refine DW.tk 7 [] rfl (ov_nilP rfl) ?_ | refine DW.tk 7 [] rfl (ov_nilF rfl) ?_
  refine DW.tk 8 [] rfl (ov_fieldAddr fo120_7 rfl) ?_
  refine DW.all1 5 (by kernel_rfl) ?_
  refine DO.opV [] rfl (ov_loadR 1 ta3 rfl rfl (rm_credit (R := ⟨craft, size, master, l'⟩) hl'len hs)) rfl rfl rfl rfl rfl ?_
  first | refine DW.tk 6 [] rfl (ov_sub rfl rfl (by omega)) ?_ | refine DW.tk 6 [] rfl (ov_subW rfl rfl) ?_
  refine DW.tk 9 [] rfl (ov_idxA (i := o) ar38 ta3 rfl rfl rfl ho8) ?_
  refine DW.all1 10 (by kernel_rfl) ?_
  refine DO.opU [] rfl (ou_storeAt ta3 rfl rfl rfl (by omega) (.t (.h))) rfl rfl rfl rfl ?_
  refine DW.done (by kernel_rfl) ?_
  refine KW.thenN ?_
  refine CW.seq ?_
  refine CW.region ?_
  refine LW.v (ov_move rfl) ?_
  refine LW.v (ov_assign rfl) ?_
  refine LW.nil ?_
  refine KW.thenN ?_
  refine CW.ret ?_
  rw [rm_setCredit (R := ⟨craft, size, master, l'⟩) hl'len hs (s.credit - 1)]
  simp only [hs]
  have e3 : rfils l' = rfils (l'.set o (rdec s)) := (rfils_set (s' := rdec s) hs rfl).symm
  rw [e3]
  exact KW.retF (.cons (.tmp rfl) (.nil)) [1, 2] rfl rfl (⟨rfl, rfl⟩)
end Sx
end Go.Proofs.Ytdgphamhpjnmpaa

/- The reference's mux: the next frame. -/
namespace Go.Proofs.Ytdgphamhpjnmpaa
namespace Sx

def rnxt (R : RMx) : Nat × List UInt8 × Int × List RSrc :=
  match (rchoose R.size R.l).1 with
  | none => (7, List.replicate R.size.toNat 85, 2046, (rchoose R.size R.l).2)
  | some o => match (rchoose R.size R.l).2[o]? with
    | some s => (o, (rfNext s.fl).1, (rfNext s.fl).2.1, (rchoose R.size R.l).2.set o { s with fl := (rfNext s.fl).2.2.2 })
    | none => (7, [], 0, (rchoose R.size R.l).2)
def rinc (s : RSrc) : RSrc := { s with count := (s.count + 1) % 256 }
def rcntAt (l : List RSrc) (k : Nat) : Int := match l[k]? with | some s => s.count | none => 0
def rincAt (l : List RSrc) (k : Nat) : List RSrc := match l[k]? with | some s => l.set k (rinc s) | none => l
def rframeOf (R : RMx) (word : Int) : Tf := ⟨R.craft, (rnxt R).1, R.master, rcntAt (rnxt R).2.2.2 (rnxt R).1, (rnxt R).2.2.1, (rnxt R).2.1, word⟩
def rmNext (R : RMx) : RMx := { R with master := (R.master + 1) % 256, l := rincAt (rnxt R).2.2.2 (rnxt R).1 }
structure SameR (s s' : RSrc) : Prop where
  p : s'.p = s.p
  prio : s'.prio = s.prio
  share : s'.share = s.share
  count : s'.count = s.count
  fl : s'.fl = s.fl
theorem rchoose_same (size : Int) (l : List RSrc) : (rchoose size l).2.length = l.length ∧ ∀ (i : Nat) (s' : RSrc), (rchoose size l).2[i]? = some s' → ∃ s, l[i]? = some s ∧ SameR s s' := by
  have h0 : ∀ (i : Nat) (s' : RSrc), l[i]? = some s' → ∃ s, l[i]? = some s ∧ SameR s s' := fun i s' h => ⟨s', h, ⟨rfl, rfl, rfl, rfl, rfl⟩⟩
  unfold rchoose
  split
  · exact ⟨rfl, h0⟩
  · simp only
    have h1 : ∀ p : Int, (l.map (rrefill p)).length = l.length ∧ ∀ (i : Nat) (s' : RSrc), (l.map (rrefill p))[i]? = some s' → ∃ s, l[i]? = some s ∧ SameR s s' := fun p => by
      refine ⟨List.length_map _, fun i s' h => ?_⟩
      rw [List.getElem?_map] at h
      cases e : l[i]? with
      | none => rw [e] at h; cases h
      | some s =>
        rw [e] at h; simp only [Option.map_some, Option.some.injEq] at h; subst h
        refine ⟨s, rfl, ?_⟩
        unfold rrefill; split <;> exact ⟨rfl, rfl, rfl, rfl, rfl⟩
    generalize onG l (gmx l (rL size l)) (rL size l) = U
    generalize gmx l (rL size l) = g
    generalize hl' : (if spentB l U = true then l.map (rrefill g) else l) = l'
    have h2 : l'.length = l.length ∧ ∀ (i : Nat) (s' : RSrc), l'[i]? = some s' → ∃ s, l[i]? = some s ∧ SameR s s' := by
      subst hl'; split
      · exact h1 _
      · exact ⟨rfl, h0⟩
    split
    · rename_i s hs
      refine ⟨by rw [List.length_set]; exact h2.1, fun i s' h => ?_⟩
      by_cases e : i = hd (bestL (rcr l') U)
      · rw [e, List.getElem?_set_self (lt_of_get hs)] at h
        simp only [Option.some.injEq] at h; subst h
        obtain ⟨s0, g0, g⟩ := h2.2 _ s hs
        exact ⟨s0, by rw [e]; exact g0, ⟨g.p, g.prio, g.share, g.count, g.fl⟩⟩
      · rw [List.getElem?_set_ne (Ne.symm e)] at h
        exact h2.2 i s' h
    · exact h2
structure RMx.good (R : RMx) : Prop where
  len : R.l.length = 8
  ok : ∀ s ∈ R.l, s.ok
  size : 32 ≤ R.size ∧ R.size ≤ 200
  master : 0 ≤ R.master ∧ R.master ≤ 255
  count : ∀ s ∈ R.l, 0 ≤ s.count ∧ s.count ≤ 255
theorem rchoose_lt {size : Int} {l : List RSrc} (hlen : l.length = 8) (hok : ∀ s ∈ l, s.ok) {o : Nat} (h : (rchoose size l).1 = some o) : o < 8 := by
  unfold rchoose at h
  split at h
  · cases h
  · rename_i hne
    simp only [Option.some.injEq] at h
    subst h
    have hgm := gmx_mem (l := l) (L := rL size l) hne (fun i hi => by
      obtain ⟨s, hs⟩ : ∃ s, l[i]? = some s := ⟨_, List.getElem?_eq_getElem (by have := rL_lt hi; omega)⟩
      rw [rpr, hs]; exact (hok s (List.mem_of_getElem? hs)).prio.1)
    have hUne : onG l (gmx l (rL size l)) (rL size l) ≠ [] := by
      obtain ⟨i, hi, e⟩ := hgm
      exact List.ne_nil_of_mem (List.mem_filter.2 ⟨hi, by simpa using e⟩)
    have := hd_mem (bestL_ne (rcr (if spentB l (onG l (gmx l (rL size l)) (rL size l)) = true then l.map (rrefill (gmx l (rL size l))) else l)) hUne)
    exact rL_lt (List.mem_filter.1 (bestL_sub _ this)).1
theorem rep_set {α : Type} {a b : α} : ∀ (i n : Nat), i < n → (List.replicate i a ++ List.replicate (n - i) b).set i a = List.replicate (i + 1) a ++ List.replicate (n - (i + 1)) b := by
  intro i n h
  rw [List.set_append_right _ _ (by simp), List.length_replicate, Nat.sub_self]
  obtain ⟨m, hm⟩ : ∃ m, n - i = m + 1 := ⟨n - i - 1, by omega⟩
  rw [hm, show n - (i + 1) = m by omega, List.replicate_succ, List.set_cons_zero, List.replicate_succ' (n := i), List.append_assoc]; rfl
theorem rmnext_ok {m : Nat} {R : RMx} (hR : R.good) {word : Int} (hw : 0 ≤ word ∧ word < 4294967296) : Fn Try.prog 26 #[P1 m 0, .int .u32 word] (rmx2 m R)
    (Ret fun v Q => v = (if (rframeOf R word).ok then .tuple #[S (encF (rframeOf R word)), .int .i64 0] else .tuple #[S [], .int .i64 2]) ∧ Q = rmx2 m (rmNext R)) := by
  obtain ⟨hlen, hok, hsz, hma, hct⟩ := hR
  have hcs := rchoose_same R.size R.l
  have hch := rchoose_ok (m := m) (R := R) hlen hok
  have hfr : rframeOf R word = ⟨R.craft, (rnxt R).1, R.master, rcntAt (rnxt R).2.2.2 (rnxt R).1, (rnxt R).2.2.1, (rnxt R).2.1, word⟩ := rfl
  have hmn : rmNext R = { R with master := (R.master + 1) % 256, l := rincAt (rnxt R).2.2.2 (rnxt R).1 } := rfl
  have hnx : rnxt R = match (rchoose R.size R.l).1 with
    | none => (7, List.replicate R.size.toNat 85, 2046, (rchoose R.size R.l).2)
    | some o => match (rchoose R.size R.l).2[o]? with
      | some s => (o, (rfNext s.fl).1, (rfNext s.fl).2.1, (rchoose R.size R.l).2.set o { s with fl := (rfNext s.fl).2.2.2 })
      | none => (7, [], 0, (rchoose R.size R.l).2) := rfl
  rw [hfr, hmn]
  have hlt := fun o => @rchoose_lt R.size R.l hlen hok o
  generalize hcc : rchoose R.size R.l = cc at hcs hch hnx hlt
  obtain ⟨oo, l1⟩ := cc
  simp only at hcs hch hnx hlt
  rw [hlen] at hcs
  have hok1 : ∀ (i : Nat) (s : RSrc), l1[i]? = some s → s.fl.ok ∧ 0 ≤ s.count ∧ s.count ≤ 255 := fun i s h => by
    obtain ⟨s0, h0, g⟩ := hcs.2 i s h
    have h1 := hok s0 (List.mem_of_getElem? h0)
    have h2 := hct s0 (List.mem_of_getElem? h0)
    rw [g.fl, g.count]; exact ⟨h1.fl, h2⟩
  generalize rnxt R = nx at hnx ⊢
  have hma0 := rm_master (R := R) hlen
  refine Fn.of (args := _) Try.func26 rfl Try.ntmps26 rfl ?_
  intro w0 g0
  refine CW.seq ?_
  refine CW.region ?_
  refine LW.v (ov_assign rfl) ?_
  refine LW.v (ov_assign rfl) ?_
  refine LW.nil ?_
  refine KW.thenN ?_
  refine CW.seq ?_
  refine CW.draw [1] rfl mixed rfl (ls := #[false, false, false, false, false, false, false, false, false, false, false, false]) (by kernel_rfl) ?_
  refine DW.tk 0 [1] rfl (ov_move rfl) ?_
  first | refine DW.tk 1 [1] rfl (ov_nilP rfl) ?_ | refine DW.tk 1 [1] rfl (ov_nilF rfl) ?_
  refine DW.tk 2 [1] rfl (ov_fieldAddr fo120_0 rfl) ?_
  refine DW.tk 3 [1] rfl (ov_loadR 0 (v := .int .i64 R.craft) ta3 rfl rfl rfl) ?_
  refine DW.tk 4 [1] rfl (ov_move rfl) ?_
  first | refine DW.tk 5 [1] rfl (ov_nilP rfl) ?_ | refine DW.tk 5 [1] rfl (ov_nilF rfl) ?_
  refine DW.tk 6 [1] rfl (ov_fieldAddr fo120_5 rfl) ?_
  refine DW.tk 7 [1] rfl (ov_loadR 0 ta3 rfl rfl hma0) ?_
  refine DW.tk 8 [1] rfl (ov_move rfl) ?_
  refine DW.tk 9 [1] rfl (ov_build zc85 pl85 rfl (.c rfl (.one rfl) rfl (.h (.n)) (.c rfl (.one rfl) rfl (.t (.h (.n))) (.c rfl (.one rfl) rfl (.t (.t (.h (.n)))) (.c rfl (.one rfl) rfl (.t (.t (.t (.t (.h (.n)))))) (.c rfl (.one rfl) rfl (.t (.t (.t (.t (.t (.t (.h (.n)))))))) (.n))))))) ?_
  refine DW.all1 10 (by kernel_rfl) ?_
  refine DO.opBA [1] rfl (ob_alloc zc85 (fun _ => .c (.c (.c (.n))))) rfl rfl (fun _ => rfl) (fun _ => rfl) rfl (fun b6 => ?_)
  refine DW.all1 11 (by kernel_rfl) ?_
  refine DO.opU [1] rfl (ou_storeW ta85 rfl rfl .agg rfl rfl (.h (.h (.h (.h (.h (.h (.h (.n)))))))) (.t (.t (.t (.h))))) rfl rfl rfl rfl ?_
  refine DW.done (by kernel_rfl) ?_
  refine KW.thenN ?_
  refine CW.seq ?_
  refine CW.region ?_
  refine LW.v (ov_move rfl) ?_
  refine LW.call [1, 2] (oc_fn cf49 rfl) rfl rfl rfl rfl (hch) ?_
  rintro _ _ ⟨rfl, rfl⟩
  simp only [putBack, List.set_cons_succ, List.set_cons_zero, List.append_nil]
  refine LW.v (ov_assign rfl) ?_
  refine LW.nil ?_
  refine KW.thenN ?_
  refine CW.cut (fun env As => ∃ b6 s, nx.1 < 8 ∧ nx.2.2.2.length = 8 ∧ nx.2.2.2[nx.1]? = some s ∧ 0 ≤ s.count ∧ s.count ≤ 255 ∧ env = [(0, P1 m 0), (6, P1 b6 0), (7, .int .i64 nx.1)] ∧
    As = [ex g0, rmrow m { R with l := nx.2.2.2 }, rfils nx.2.2.2, row b6 85 [.int .i64 R.craft, .int .i64 nx.1, .int .i64 R.master, .int .i64 0, .int .i64 nx.2.2.1, S nx.2.1, .int .u32 word]]) (fun Mm hMm => ?_) ?_
  · cases oo with
    | none =>
      simp only at hnx
      subst hnx
      obtain ⟨n, hn⟩ : ∃ n : Nat, R.size = n := ⟨R.size.toNat, by omega⟩
      obtain ⟨s7, hs7⟩ : ∃ s, l1[7]? = some s := ⟨_, List.getElem?_eq_getElem (by omega)⟩
      have hk7 := hok1 7 s7 hs7
      have hn2 : R.size.toNat = n := by omega
      refine CW.seq ?_
      refine CW.region ?_
      refine LW.v (ov_move rfl) ?_
      refine LW.v (OpV.eq (ov_lss rfl rfl) (congrArg Value.bool (decide_eq_true (by first | omega | assumption)))) ?_
      refine LW.nil ?_
      refine KW.thenN ?_
      refine CW.condT rfl rfl ?_
      refine CW.seq ?_
      refine CW.region ?_
      refine LW.v (ov_assign rfl) ?_
      refine LW.nil ?_
      refine KW.thenN ?_
      refine CW.seq ?_
      refine CW.region ?_
      refine LW.v (ov_move rfl) ?_
      refine LW.v (ov_nilP rfl) ?_
      refine LW.v (ov_fieldAddr fo120_1 rfl) ?_
      refine LW.v (OpV.eq (ov_loadR 1 (v := .int .i64 R.size) ta3 rfl rfl rfl) (congrArg (Value.int .i64) hn)) ?_
      refine LW.opBA (ob_make so107 zc5 rfl rfl rfl (by omega) (by omega) (fun _ => (.c (.c (.c (.c (.n))))))) rfl rfl (fun b31 => ?_)
      refine LW.v (ov_assign rfl) ?_
      refine LW.nil ?_
      refine KW.thenN ?_
      refine CW.seq ?_
      refine CW.seq ?_
      refine CW.region ?_
      refine LW.v (ov_assign rfl) ?_
      refine LW.nil ?_
      refine KW.thenN ?_
      refine CW.block ?_
      have hz : (List.replicate n [Value.int .u8 0]).flatten = List.replicate 0 (bv 85) ++ List.replicate (n - 0) (bv 0) := by rw [repl_bv, List.map_replicate]; rfl
      rw [hz]
      refine CW.loopW (fun r env As => ∃ k : Nat, k + r = n ∧ env = [(0, P1 m 0), (6, P1 b6 0), (7, .int .i64 7), (8, .slice (some ⟨b31, 0, none⟩) n n), (9, .int .i64 k)] ∧
        As = [ex g0, rmrow m { R with l := l1 }, rfils l1, row b6 85 [.int .i64 R.craft, .int .i64 7, .int .i64 R.master, .int .i64 0, .int .i64 2046, S [], .int .u32 word], row b31 5 (List.replicate k (bv 85) ++ List.replicate (n - k) (bv 0))]) n [0, 1, 2, 3, 4] ⟨0, by simp, rfl, rfl⟩ ⟨rfl, rfl, rfl, rfl, rfl, trivial⟩ rfl rfl ?_
      rintro r _ _ ⟨k, hkr, rfl, rfl⟩
      refine CW.seq ?_
      refine CW.seq ?_
      refine CW.region ?_
      refine LW.v (ov_move rfl) ?_
      refine LW.v (ov_move rfl) ?_
      refine LW.v (ov_nilP rfl) ?_
      refine LW.v (ov_fieldAddr fo120_1 rfl) ?_
      refine LW.v (OpV.eq (ov_loadR 1 (v := .int .i64 R.size) ta3 rfl rfl rfl) (congrArg (Value.int .i64) hn)) ?_
      refine LW.v (ov_lss rfl rfl) ?_
      refine LW.nil ?_
      refine KW.thenN ?_
      refine CW.condD (by rfl) (fun h => ?_) (fun h => ?_)
      · have hk : k < n := by omega
        refine CW.skip ?_
        refine KW.thenN ?_
        refine CW.seq ?_
        refine CW.block ?_
        refine CW.region ?_
        refine LW.v (ov_move rfl) ?_
        refine LW.v (ov_move rfl) ?_
        refine LW.v (ov_idxL (i := k) so107 rfl rfl rfl hk) ?_
        refine LW.opU (ou_storeAt ta5 rfl rfl rfl (by simp; omega) (.t (.t (.t (.t (.h)))))) rfl ?_
        refine LW.nil ?_
        refine KW.blockN ?_
        refine KW.thenN ?_
        refine CW.region ?_
        refine LW.v (ov_move rfl) ?_
        first | refine LW.v (ov_add rfl rfl (by omega)) ?_ | refine LW.v (ov_addW rfl rfl) ?_
        refine LW.v (ov_assign rfl) ?_
        refine LW.nil ?_
        have e : (List.replicate k (bv 85) ++ List.replicate (n - k) (bv 0)).set (0 + k * 1) (.int .u8 85) = List.replicate (k + 1) (bv 85) ++ List.replicate (n - (k + 1)) (bv 0) := by
          rw [Nat.zero_add, Nat.mul_one]; exact rep_set k n hk
        rw [e]
        exact KW.again (r - 1) [0, 1, 2, 3, 4] (by omega) ⟨k + 1, by omega, rfl, rfl⟩ ⟨rfl, rfl, rfl, rfl, rfl, trivial⟩ rfl rfl
      · obtain rfl : k = n := by omega
        have e : List.replicate k (bv 85) ++ List.replicate (k - k) (bv 0) = (List.replicate k (85 : UInt8)).map bv := by rw [Nat.sub_self, List.map_replicate]; simp
        rw [e]
        refine CW.exit ?_
        refine KW.thenX ?_
        refine KW.thenX ?_
        refine KW.hit ?_
        refine KW.thenN ?_
        refine CW.region ?_
        refine LW.v (ov_move rfl) ?_
        refine LW.v (ov_b2sR (l := List.replicate k 85) 4 so107 un9 un5 rfl (by rw [List.length_replicate]) rfl (fun j v hj => by rw [Nat.zero_add]; exact hj)) ?_
        refine LW.v (ov_fieldAddr fo85_5 rfl) ?_
        refine LW.opU (ou_storeW ta9 rfl rfl (.one rfl) rfl rfl (.t (.t (.t (.t (.t (.h (.n))))))) (.t (.t (.t (.h))))) rfl ?_
        refine LW.nil ?_
        refine KW.thenN ?_
        exact KW.meet [0, 1, 2, 3] hMm ⟨b6, s7, show 7 < 8 by decide, hcs.1, hs7, hk7.2.1, hk7.2.2, rfl, rfl⟩ ⟨rfl, rfl, rfl, trivial⟩ rfl (by rw [hn2]; rfl)
    | some o =>
      have ho := hlt o rfl
      obtain ⟨s, hs⟩ : ∃ s, l1[o]? = some s := ⟨_, List.getElem?_eq_getElem (by omega)⟩
      have hk := hok1 o s hs
      simp only [hs] at hnx
      subst hnx
      have hsl : (l1.set o { s with fl := (rfNext s.fl).2.2.2 })[o]? = some { s with fl := (rfNext s.fl).2.2.2 } := List.getElem?_set_self (lt_of_get hs)
      have esr : rmrow m { R with l := l1 } = rmrow m { R with l := l1.set o { s with fl := (rfNext s.fl).2.2.2 } } := by
        have := rm_setfl (R := { R with l := l1 }) hs (rfNext s.fl).2.2.2
        simp only [rmrow]; rw [← this]
      refine CW.seq ?_
      refine CW.region ?_
      refine LW.v (ov_move rfl) ?_
      refine LW.v (OpV.eq (ov_lss rfl rfl) (congrArg Value.bool (decide_eq_false (by first | omega | assumption)))) ?_
      refine LW.nil ?_
      refine KW.thenN ?_
      refine CW.condF rfl rfl ?_
      refine CW.seq ?_
      refine CW.region ?_
      refine LW.v (ov_move rfl) ?_
      refine LW.v (ov_move rfl) ?_
      refine LW.v (ov_nilP rfl) ?_
      refine LW.v (ov_fieldAddr fo120_4 rfl) ?_
      refine LW.v (ov_idxA (i := o) ar118 ta117 rfl rfl rfl ho) ?_
      refine LW.v (ov_loadR 1 ta117 rfl rfl (rm_fil (R := { R with l := l1 }) hcs.1 hs)) ?_
      refine LW.call [2] (oc_fn cf50 rfl) rfl rfl rfl rfl (rnextB hs hk.1) ?_
      rintro _ _ ⟨rfl, rfl⟩
      simp only [putBack, List.set_cons_succ, List.set_cons_zero, List.append_nil]
      refine LW.v (ov_move rfl) ?_
      refine LW.v (ov_extract rfl rfl) ?_
      refine LW.v (ov_extract rfl rfl) ?_
      refine LW.v (ov_extract rfl rfl) ?_
      refine LW.v (ov_assign rfl) ?_
      refine LW.v (ov_assign rfl) ?_
      refine LW.v (ov_assign rfl) ?_
      refine LW.nil ?_
      refine KW.thenN ?_
      refine CW.region ?_
      refine LW.v (ov_move rfl) ?_
      refine LW.v (ov_move rfl) ?_
      refine LW.v (ov_move rfl) ?_
      refine LW.v (ov_fieldAddr fo85_1 rfl) ?_
      refine LW.opU (ou_storeW ta3 rfl rfl (.one rfl) rfl rfl (.t (.h (.n))) (.t (.t (.t (.h))))) rfl ?_
      refine LW.v (ov_fieldAddr fo85_5 rfl) ?_
      refine LW.opU (ou_storeW ta9 rfl rfl (.one rfl) rfl rfl (.t (.t (.t (.t (.t (.h (.n))))))) (.t (.t (.t (.h))))) rfl ?_
      refine LW.v (ov_fieldAddr fo85_4 rfl) ?_
      refine LW.opU (ou_storeW ta3 rfl rfl (.one rfl) rfl rfl (.t (.t (.t (.t (.h (.n)))))) (.t (.t (.t (.h))))) rfl ?_
      refine LW.nil ?_
      refine KW.thenN ?_
      rw [esr]
      exact KW.meet [0, 1, 2, 3] hMm ⟨b6, _, ho, by rw [List.length_set]; exact hcs.1, hsl, hk.2.1, hk.2.2, rfl, rfl⟩ ⟨rfl, rfl, rfl, trivial⟩ rfl rfl
  rintro _ _ ⟨b6, s, hk8, hl8, hs, hc1, hc2, rfl, rfl⟩
  clear hnx hcs hch hok1 hlt hma0
  obtain ⟨k, data, first, l2⟩ := nx
  simp only at hk8 hl8 hs ⊢
  have hca : rcntAt l2 k = s.count := by rw [rcntAt, hs]
  have hia : rincAt l2 k = l2.set k (rinc s) := by rw [rincAt, hs]
  rw [hca, hia]
  have hput := RPut_ok ⟨R.craft, k, R.master, s.count, first, data, word⟩ hw
  have hcn := rm_count (R := { R with l := l2 }) hl8 hs
  have hms : (rmC { R with l := l2 })[0 + 26]? = some (.int .i64 R.master) := rm_master (R := { R with l := l2 }) hl8
  have hl1 := rmC_len (R := { R with l := l2 }) hl8
  have em : wr (rmC { R with l := l2 }) (0 + 26) [.int .i64 ((R.master + 1) % 256)] = rmC { R with master := (R.master + 1) % 256, l := l2 } := rm_setMaster (R := { R with l := l2 }) hl8 _
  have hcn2 := rm_count (R := { R with master := (R.master + 1) % 256, l := l2 }) hl8 hs
  have hl2 := rmC_len (R := { R with master := (R.master + 1) % 256, l := l2 }) hl8
  have ec : wr (rmC { R with master := (R.master + 1) % 256, l := l2 }) (0 + 27 + k * 1) [.int .i64 ((s.count + 1) % 256)] = rmC { R with master := (R.master + 1) % 256, l := l2.set k (rinc s) } := rm_setCount (R := { R with master := (R.master + 1) % 256, l := l2 }) hl8 hs _
  refine CW.seq ?_
  refine CW.region ?_
  refine LW.v (ov_move rfl) ?_
  refine LW.v (ov_move rfl) ?_
  refine LW.v (ov_nilP rfl) ?_
  refine LW.v (ov_fieldAddr fo120_6 rfl) ?_
  refine LW.v (ov_idxA (i := k) ar38 ta3 rfl rfl rfl hk8) ?_
  refine LW.v (ov_loadR 1 ta3 rfl rfl hcn) ?_
  refine LW.v (ov_fieldAddr fo85_3 rfl) ?_
  refine LW.opU (ou_storeW ta3 rfl rfl (.one rfl) rfl rfl (.t (.t (.t (.h (.n))))) (.t (.t (.t (.h))))) rfl ?_
  refine LW.nil ?_
  refine KW.thenN ?_
  refine CW.seq ?_
  refine CW.region ?_
  refine LW.v (ov_move rfl) ?_
  refine LW.v (ov_move rfl) ?_
  refine LW.v (ov_nilP rfl) ?_
  refine LW.v (ov_fieldAddr fo120_5 rfl) ?_
  refine LW.v (ov_loadR 1 ta3 rfl rfl hms) ?_
  first | refine LW.v (ov_add rfl rfl (by omega)) ?_ | refine LW.v (ov_addW rfl rfl) ?_
  refine LW.v (ov_rem rfl rfl (by omega) (by omega)) ?_
  refine LW.v (ov_nilP rfl) ?_
  refine LW.v (ov_fieldAddr fo120_5 rfl) ?_
  refine LW.opU (ou_storeR ta3 rfl rfl (.one rfl) rfl rfl (by omega) em (.t (.h))) rfl ?_
  refine LW.nil ?_
  refine KW.thenN ?_
  refine CW.seq ?_
  refine CW.draw [] rfl mixed rfl (ls := #[false, false, false, false, false, false, false, false, false, false, false, false, false, false]) (by kernel_rfl) ?_
  refine DW.tk 0 [] rfl (ov_move rfl) ?_
  refine DW.tk 1 [] rfl (ov_move rfl) ?_
  refine DW.tk 2 [] rfl (ov_move rfl) ?_
  refine DW.tk 3 [] rfl (ov_move rfl) ?_
  first | refine DW.tk 4 [] rfl (ov_nilP rfl) ?_ | refine DW.tk 4 [] rfl (ov_nilF rfl) ?_
  refine DW.tk 5 [] rfl (ov_fieldAddr fo120_6 rfl) ?_
  refine DW.tk 6 [] rfl (ov_idxA (i := k) ar38 ta3 rfl rfl rfl hk8) ?_
  first | refine DW.tk 10 [] rfl (ov_nilP rfl) ?_ | refine DW.tk 10 [] rfl (ov_nilF rfl) ?_
  refine DW.tk 11 [] rfl (ov_fieldAddr fo120_6 rfl) ?_
  refine DW.all1 7 (by kernel_rfl) ?_
  refine DO.opV [] rfl (ov_loadR 1 ta3 rfl rfl hcn2) rfl rfl rfl rfl rfl ?_
  first | refine DW.tk 8 [] rfl (ov_add rfl rfl (by omega)) ?_ | refine DW.tk 8 [] rfl (ov_addW rfl rfl) ?_
  refine DW.tk 9 [] rfl (ov_rem rfl rfl (by omega) (by omega)) ?_
  refine DW.tk 12 [] rfl (ov_idxA (i := k) ar38 ta3 rfl rfl rfl hk8) ?_
  refine DW.all1 13 (by kernel_rfl) ?_
  refine DO.opU [] rfl (ou_storeR ta3 rfl rfl (.one rfl) rfl rfl (by omega) ec (.t (.h))) rfl rfl rfl rfl ?_
  refine DW.done (by kernel_rfl) ?_
  refine KW.thenN ?_
  have e3 : rfils l2 = rfils (l2.set k (rinc s)) := (rfils_set (s' := rinc s) hs rfl).symm
  rw [e3]
  by_cases hf : Tf.ok ⟨R.craft, k, R.master, s.count, first, data, word⟩
  · rw [if_pos hf] at hput ⊢
    refine CW.seq ?_
    refine CW.region ?_
    refine LW.v (ov_loadAR 3 ta85 rfl rfl (.h (.h (.h (.h (.h (.h (.h (.n))))))))) ?_
    refine LW.call [] (oc_fn cf51 rfl) rfl rfl rfl rfl (hput) ?_
    rintro _ _ ⟨rfl, rfl⟩
    simp only [putBack, List.append_nil]
    refine LW.v (ov_extract rfl rfl) ?_
    refine LW.v (ov_extract rfl rfl) ?_
    refine LW.v (ov_assign rfl) ?_
    refine LW.v (ov_assign rfl) ?_
    refine LW.nil ?_
    refine KW.thenN ?_
    refine CW.ret ?_
    exact KW.retF (.cons (.tmp rfl) (.cons (.tmp rfl) (.nil))) [1, 2] rfl rfl (⟨rfl, rfl⟩)
  · rw [if_neg hf] at hput ⊢
    refine CW.seq ?_
    refine CW.region ?_
    refine LW.v (ov_loadAR 3 ta85 rfl rfl (.h (.h (.h (.h (.h (.h (.h (.n))))))))) ?_
    refine LW.call [] (oc_fn cf51 rfl) rfl rfl rfl rfl (hput) ?_
    rintro _ _ ⟨rfl, rfl⟩
    simp only [putBack, List.append_nil]
    refine LW.v (ov_extract rfl rfl) ?_
    refine LW.v (ov_extract rfl rfl) ?_
    refine LW.v (ov_assign rfl) ?_
    refine LW.v (ov_assign rfl) ?_
    refine LW.nil ?_
    refine KW.thenN ?_
    refine CW.ret ?_
    exact KW.retF (.cons (.tmp rfl) (.cons (.tmp rfl) (.nil))) [1, 2] rfl rfl (⟨rfl, rfl⟩)
end Sx
end Go.Proofs.Ytdgphamhpjnmpaa

