/- Package packet: Split. -/
import Derived.Test.YtkofbanncacamaaPkH
namespace Go.Proofs.Ytkofbanncacamaa
namespace Sx

def pcells (p : Pk) : List Value := [.bool p.cmd, .int .i64 p.apid, .int .i64 p.flags, .int .i64 p.count, S p.data]
abbrev pkS (L : List Pk) : List Value := flat (L.map pcells)
theorem pcells_len (L : List Pk) : ∀ e ∈ L.map pcells, e.length = 5 := by
  intro e he; obtain ⟨r, _, rfl⟩ := List.mem_map.1 he; rfl
theorem pkS_len (L : List Pk) : (pkS L).length = L.length * 5 := by simpa using flat_len (pcells_len L)

def piecesN (m : Nat) : Nat → List UInt8 → List (List UInt8)
  | 0, _ => []
  | f + 1, l => if l = [] then [] else l.take m :: piecesN m f (l.drop m)
/-- a message cut into pieces of m bytes -/
def pieces (m : Nat) (l : List UInt8) : List (List UInt8) := piecesN m l.length l
theorem piecesN_fuel {m : Nat} (hm : 0 < m) : ∀ (f g : Nat) (l : List UInt8), l.length ≤ f → l.length ≤ g → piecesN m f l = piecesN m g l := by
  intro f; induction f with
  | zero =>
    intro g l h _
    have : l = [] := List.eq_nil_of_length_eq_zero (by omega)
    subst this; cases g <;> simp [piecesN]
  | succ f ih =>
    intro g l h1 h2
    cases g with
    | zero =>
      have : l = [] := List.eq_nil_of_length_eq_zero (by omega)
      subst this; simp [piecesN]
    | succ g =>
      simp only [piecesN]
      by_cases q : l = []
      · simp [q]
      · have := List.length_pos_iff.2 q
        rw [if_neg q, if_neg q, ih g (l.drop m) (by simp; omega) (by simp; omega)]
theorem pieces_nil (m : Nat) : pieces m [] = [] := rfl
theorem pieces_cons {m : Nat} (hm : 0 < m) {l : List UInt8} (h : l ≠ []) : pieces m l = l.take m :: pieces m (l.drop m) := by
  have hl := List.length_pos_iff.2 h
  unfold pieces
  obtain ⟨f, hf⟩ : ∃ f, l.length = f + 1 := ⟨l.length - 1, by omega⟩
  rw [hf]
  simp only [piecesN, if_neg h]
  rw [piecesN_fuel hm f (l.drop m).length _ (by simp; omega) (by simp)]
theorem pieces_len {m : Nat} (hm : 0 < m) : ∀ (n : Nat) (l : List UInt8), l.length ≤ n → (pieces m l).length ≤ l.length := by
  intro n; induction n with
  | zero =>
    intro l h
    have : l = [] := List.eq_nil_of_length_eq_zero (by omega)
    subst this; simp [pieces_nil]
  | succ n ih =>
    intro l h
    by_cases q : l = []
    · subst q; simp [pieces_nil]
    · have := List.length_pos_iff.2 q
      rw [pieces_cons hm q]
      have := ih (l.drop m) (by simp; omega)
      simp at this ⊢; omega
def raws (cmd : Bool) (apid count : Int) : Nat → List (List UInt8) → List Pk
  | _, [] => []
  | j, s :: r => ⟨cmd, apid, 0, (count + j) % 16384, s⟩ :: raws cmd apid count (j + 1) r
theorem raws_len (cmd : Bool) (apid count : Int) : ∀ (l : List (List UInt8)) (j : Nat), (raws cmd apid count j l).length = l.length := by
  intro l; induction l with
  | nil => intro j; rfl
  | cons a r ih => intro j; simp [raws, ih]
theorem raws_snoc (cmd : Bool) (apid count : Int) (s : List UInt8) : ∀ (l : List (List UInt8)) (j : Nat), raws cmd apid count j (l ++ [s]) = raws cmd apid count j l ++ [⟨cmd, apid, 0, (count + (j + l.length : Nat)) % 16384, s⟩] := by
  intro l; induction l with
  | nil => intro j; simp [raws]
  | cons a r ih =>
    intro j
    simp only [List.cons_append, raws, ih, List.length_cons]
    rw [show j + 1 + r.length = j + (r.length + 1) from by omega]
theorem raws_flags (cmd : Bool) (apid count : Int) : ∀ (l : List (List UInt8)) (j : Nat), ∀ p ∈ raws cmd apid count j l, p.flags = 0 := by
  intro l; induction l with
  | nil => intro j p hp; cases hp
  | cons a r ih =>
    intro j p hp
    rcases List.mem_cons.1 hp with rfl | hp
    · rfl
    · exact ih _ _ hp
theorem modify_at {α : Type _} {f : α → α} {l : List α} {i : Nat} {x : α} (h : l[i]? = some x) : l.modify i f = l.set i (f x) := by
  apply List.ext_getElem?
  intro j
  rw [List.getElem?_modify, List.getElem?_set]
  by_cases q : i = j
  · subst q; have hl := lt_of_get h; rw [h, if_pos rfl, if_pos hl]; simp
  · simp [q]
def setFl (p : Pk) (f : Int) : Pk := { p with flags := f }
/-- the packets that carry a message -/
def splitK (cmd : Bool) (apid count : Int) (most : Nat) (l : List UInt8) : List Pk :=
  let r := (raws cmd apid count 0 (pieces most l)).modify 0 fun p => setFl p 1
  r.modify (r.length - 1) fun p => setFl p (p.flags + 2)

theorem Split_ok {cmd : Bool} {apid count : Int} {most : Nat} {l : List UInt8} (ha : 0 ≤ apid ∧ apid ≤ 2046) (hc : 0 ≤ count ∧ count ≤ 16383) (hm : 1 ≤ most ∧ most ≤ 1024) (hl : 1 ≤ l.length ∧ l.length ≤ 16384) :
    Fn Try.prog 12 #[.bool cmd, .int .i64 apid, .int .i64 count, S l, .int .i64 most] [] (Ret fun v Q => ∃ (ad : Option Addr) (c : Nat), v = .tuple #[.slice ad (splitK cmd apid count most l).length c, .int .i64 0] ∧ Q = [ownS 34 5 (.slice ad (splitK cmd apid count most l).length c) (splitK cmd apid count most l).length (pkS (splitK cmd apid count most l))]) := by
  refine Fn.of (args := _) Try.func12 rfl Try.ntmps12 rfl ?_
  intro w0 g0
  refine KW.newS 34 5 ?_
  simp only [List.cons_append, List.nil_append]
  have e16 : decide (apid < 0) = false := decide_eq_false (by omega)
  have e18 : decide (2047 ≤ apid) = false := decide_eq_false (by omega)
  have e22 : decide (count < 0) = false := decide_eq_false (by omega)
  have e26 : decide (16383 < count) = false := decide_eq_false (by omega)
  have e30 : decide ((most : Int) < 1) = false := decide_eq_false (by omega)
  have e34 : decide (1024 < (most : Int)) = false := decide_eq_false (by omega)
  have e38 : decide (l = []) = false := decide_eq_false (by intro e; subst e; simp at hl)
  refine CW.seq ?_
  refine CW.region ?_
  refine LW.opV (ov_assign rfl) rfl rfl ?_
  refine LW.opV (ov_assign rfl) rfl rfl ?_
  refine LW.nil ?_
  refine KW.thenN ?_
  refine CW.seq ?_
  refine CW.seq ?_
  refine CW.region ?_
  refine LW.opV (ov_move rfl) rfl rfl ?_
  refine LW.opV (OpV.eq (ov_lss rfl rfl) (congrArg Value.bool e16)) rfl rfl ?_
  refine LW.opV (ov_move rfl) rfl rfl ?_
  refine LW.opV (ov_move rfl) rfl rfl ?_
  refine LW.opV (OpV.eq (ov_geq rfl rfl) (congrArg Value.bool e18)) rfl rfl ?_
  first | refine LW.opV (ov_pickT rfl rfl) rfl rfl ?_ | refine LW.opV (ov_pickF rfl rfl) rfl rfl ?_ | refine LW.opV (ov_pick rfl rfl rfl) rfl rfl ?_
  refine LW.opV (ov_move rfl) rfl rfl ?_
  refine LW.opV (ov_move rfl) rfl rfl ?_
  refine LW.opV (OpV.eq (ov_lss rfl rfl) (congrArg Value.bool e22)) rfl rfl ?_
  first | refine LW.opV (ov_pickT rfl rfl) rfl rfl ?_ | refine LW.opV (ov_pickF rfl rfl) rfl rfl ?_ | refine LW.opV (ov_pick rfl rfl rfl) rfl rfl ?_
  refine LW.opV (ov_move rfl) rfl rfl ?_
  refine LW.opV (ov_move rfl) rfl rfl ?_
  refine LW.opV (OpV.eq (ov_gtr rfl rfl) (congrArg Value.bool e26)) rfl rfl ?_
  first | refine LW.opV (ov_pickT rfl rfl) rfl rfl ?_ | refine LW.opV (ov_pickF rfl rfl) rfl rfl ?_ | refine LW.opV (ov_pick rfl rfl rfl) rfl rfl ?_
  refine LW.opV (ov_move rfl) rfl rfl ?_
  refine LW.opV (ov_move rfl) rfl rfl ?_
  refine LW.opV (OpV.eq (ov_lss rfl rfl) (congrArg Value.bool e30)) rfl rfl ?_
  first | refine LW.opV (ov_pickT rfl rfl) rfl rfl ?_ | refine LW.opV (ov_pickF rfl rfl) rfl rfl ?_ | refine LW.opV (ov_pick rfl rfl rfl) rfl rfl ?_
  refine LW.opV (ov_move rfl) rfl rfl ?_
  refine LW.opV (ov_move rfl) rfl rfl ?_
  refine LW.opV (OpV.eq (ov_gtr rfl rfl) (congrArg Value.bool e34)) rfl rfl ?_
  first | refine LW.opV (ov_pickT rfl rfl) rfl rfl ?_ | refine LW.opV (ov_pickF rfl rfl) rfl rfl ?_ | refine LW.opV (ov_pick rfl rfl rfl) rfl rfl ?_
  refine LW.opV (ov_move rfl) rfl rfl ?_
  refine LW.opV (ov_move rfl) rfl rfl ?_
  refine LW.opV (OpV.eq (ov_strEql rfl rfl) (congrArg Value.bool e38)) rfl rfl ?_
  first | refine LW.opV (ov_pickT rfl rfl) rfl rfl ?_ | refine LW.opV (ov_pickF rfl rfl) rfl rfl ?_ | refine LW.opV (ov_pick rfl rfl rfl) rfl rfl ?_
  refine LW.nil ?_
  refine KW.thenN ?_
  refine CW.condF rfl rfl ?_
  refine CW.skip ?_
  refine KW.thenN ?_
  refine CW.seq ?_
  refine CW.seq ?_
  refine CW.region ?_
  refine LW.opV (ov_move rfl) rfl rfl ?_
  refine LW.opV (ov_lenS un9 rfl) rfl rfl ?_
  refine LW.opV (ov_gtr rfl rfl) rfl rfl ?_
  refine LW.nil ?_
  refine KW.thenN ?_
  refine CW.condF rfl (decide_eq_false (by omega)) ?_
  refine CW.skip ?_
  refine KW.thenN ?_
  refine CW.seq ?_
  refine CW.region ?_
  refine LW.opV (ov_assign rfl) rfl rfl ?_
  refine LW.nil ?_
  refine KW.thenN ?_
  refine CW.seq ?_
  refine CW.block ?_
  generalize hW : pieces most l = W
  have hWl : W.length ≤ 16384 := by rw [← hW]; have := pieces_len (m := most) (by omega) l.length l (Nat.le_refl _); omega
  have hW0 : 0 < W.length := by rw [← hW, pieces_cons (by omega) (by intro e; subst e; simp at hl)]; simp
  refine CW.loopW (fun n env As => ∃ (a b : List (List UInt8)) (rest : List UInt8) (ad : Option Addr) (c k : Nat) (xs : List Value), rest.length = n ∧ n ≤ 16384 ∧ W = a ++ b ∧ b = pieces most rest ∧ k = a.length ∧ xs = pkS (raws cmd apid count 0 a) ∧ env = [(0, .bool cmd), (1, .int .i64 apid), (2, .int .i64 count), (3, S rest), (4, .int .i64 most), (12, .slice ad k c)] ∧ As = [ex g0, ownS 34 5 (.slice ad k c) k xs]) l.length [0, 1] ⟨[], W, l, none, 0, 0, [], rfl, by omega, rfl, hW.symm, rfl, rfl, rfl, rfl⟩ ⟨rfl, rfl, rfl, rfl, rfl, rfl, trivial⟩ rfl rfl ?_
  rintro n _ _ ⟨a, b, rest, ad, c, k, xs, hrn, hn, hab, hb, hk, hxs, rfl, rfl⟩
  refine CW.seq ?_
  refine CW.seq ?_
  refine CW.region ?_
  refine LW.opV (ov_move rfl) rfl rfl ?_
  refine LW.opV (ov_strNeq rfl rfl) rfl rfl ?_
  refine LW.nil ?_
  refine KW.thenN ?_
  refine CW.condD (by rfl) (fun h => ?_) (fun h => ?_)
  · have hr0 := List.length_pos_iff.2 h
    rw [pieces_cons (by omega) h] at hb
    subst hb
    have hal : a.length ≤ 16384 := by rw [hab] at hWl; simp at hWl; omega
    have e59 : min (most : Int) (rest.length : Int) = ((min most rest.length : Nat) : Int) := by omega
    have etk : (List.take (min most rest.length - 0) (List.drop 0 rest)) = rest.take most := by
      simp only [Nat.sub_zero, List.drop_zero]
      by_cases q : most ≤ rest.length
      · rw [Nat.min_eq_left q]
      · rw [Nat.min_eq_right (by omega), List.take_of_length_le (Nat.le_refl _), List.take_of_length_le (by omega)]
    have edr : List.take (rest.length - min most rest.length) (List.drop (min most rest.length) rest) = rest.drop most := by
      by_cases q : most ≤ rest.length
      · rw [Nat.min_eq_left q, List.take_of_length_le (by simp)]
      · rw [Nat.min_eq_right (by omega), List.drop_of_length_le (Nat.le_refl _), List.drop_of_length_le (by omega)]; simp
    refine CW.skip ?_
    refine KW.thenN ?_
    refine CW.block ?_
    refine CW.seq ?_
    refine CW.region ?_
    refine LW.opV (ov_move rfl) rfl rfl ?_
    refine LW.opV (ov_move rfl) rfl rfl ?_
    refine LW.opV (ov_lenS un9 rfl) rfl rfl ?_
    refine LW.opV (OpV.eq (ov_min rfl rfl) (congrArg (Value.int .i64) e59)) rfl rfl ?_
    refine LW.opV (ov_assign rfl) rfl rfl ?_
    refine LW.nil ?_
    refine KW.thenN ?_
    refine CW.seq ?_
    refine CW.region ?_
    refine LW.opV (ov_move rfl) rfl rfl ?_
    refine LW.opV (ov_move rfl) rfl rfl ?_
    refine LW.opV (ov_move rfl) rfl rfl ?_
    refine LW.opV (ov_move rfl) rfl rfl ?_
    refine LW.opV (ov_move rfl) rfl rfl ?_
    refine LW.opV (ov_lenL so22 rfl) rfl rfl ?_
    first | refine LW.opV (ov_add rfl rfl (by omega)) rfl rfl ?_ | refine LW.opV (ov_addW rfl rfl) rfl rfl ?_
    refine LW.opV (ov_bits (.inl rfl) rfl rfl (mask14 _)) rfl rfl ?_
    refine LW.opV (ov_move rfl) rfl rfl ?_
    refine LW.opV (ov_move rfl) rfl rfl ?_
    refine LW.opV (OpV.eq (ov_strSlice (i := 0) (j := min most rest.length) un9 rfl rfl ⟨_, _, rfl, rfl⟩ (by omega) (by omega)) (congrArg S etk)) rfl rfl ?_
    refine LW.call [] (oc_fn cf21 rfl) rfl rfl rfl rfl (Clone_ok (l := rest.take most) (by simp; omega)) ?_
    rintro _ _ ⟨rfl, rfl⟩
    simp only [putBack, List.set_cons_succ, List.set_cons_zero, List.cons_append, List.nil_append, List.append_nil]
    refine LW.opV (ov_build zc34 pl34 rfl (.c rfl (.one rfl) rfl (.h (.n)) (.c rfl (.one rfl) rfl (.t (.h (.n))) (.c rfl (.one rfl) rfl (.t (.t (.t (.h (.n))))) (.c rfl (.one rfl) rfl (.t (.t (.t (.t (.h (.n)))))) (.n)))))) rfl rfl ?_
    refine LW.opBA (ob_buildSlice so22 zc34 rfl (by decide) rfl (.c rfl .agg rfl (.h (.h (.h (.h (.h (.n)))))) (.n)) (fun _ => .c (.c (.n)))) rfl rfl (fun b62 => ?_)
    refine LW.opX (ox_appR 2 so22 zo34 rfl so22 rfl rfl rfl rfl rfl (by omega) (by omega) (by omega) (fun _ => (.t (.h)))) rfl rfl (fun a63 c63 => ?_)
    refine LW.opV (ov_assign rfl) rfl rfl ?_
    refine LW.nil ?_
    refine KW.thenN ?_
    refine CW.region ?_
    refine LW.opV (ov_move rfl) rfl rfl ?_
    refine LW.opV (ov_move rfl) rfl rfl ?_
    refine LW.opV (OpV.eq (ov_strSlice (i := min most rest.length) (j := rest.length) un9 rfl ⟨_, _, rfl, rfl⟩ rfl (by omega) (by omega)) (congrArg S edr)) rfl rfl ?_
    refine LW.opV (ov_assign rfl) rfl rfl ?_
    refine LW.nil ?_
    refine KW.blockN ?_
    have ec : pkS (raws cmd apid count 0 (a ++ [rest.take most])) = xs ++ [.bool cmd, .int .i64 apid, .int .i64 0, .int .i64 ((count + k) % 16384), S (rest.take most)] := by
      rw [raws_snoc, hxs, hk]; simp [pkS, flat, pcells]
    exact KW.again (rest.drop most).length [0, 1] (by simp; omega) ⟨a ++ [rest.take most], pieces most (rest.drop most), rest.drop most, _, _, _, _, rfl, by simp; omega, by rw [hab]; simp, rfl, by rw [hk]; simp, ec.symm, rfl, rfl⟩ ⟨rfl, rfl, rfl, rfl, rfl, rfl, trivial⟩ rfl rfl
  · have hr0 : rest = [] := by simpa using h
    subst hr0
    rw [pieces_nil] at hb
    subst hb
    have haW : a = W := by rw [hab]; simp
    subst haW
    subst hxs
    subst hk
    have hRl := raws_len cmd apid count a 0
    have hRf := raws_flags cmd apid count a 0
    have hsp : splitK cmd apid count most l = ((raws cmd apid count 0 a).modify 0 fun p => setFl p 1).modify (((raws cmd apid count 0 a).modify 0 fun p => setFl p 1).length - 1) fun p => setFl p (p.flags + 2) := by rw [splitK, hW]
    generalize raws cmd apid count 0 a = R at hRl hRf hsp ⊢
    rw [← hRl] at hW0 hWl ⊢
    obtain ⟨p0, hp0⟩ : ∃ p, R[0]? = some p := ⟨_, List.getElem?_eq_getElem hW0⟩
    have hf0 := hRf p0 (List.mem_of_getElem? hp0)
    rw [modify_at hp0] at hsp
    change splitK cmd apid count most l = (R.set 0 (setFl p0 1)).modify ((R.set 0 (setFl p0 1)).length - 1) fun p => setFl p (p.flags + 2) at hsp
    rw [List.length_set] at hsp
    refine KW.own 1 rfl (fun _ h0 => by omega) fun b c' extra hv hnc hxl hcl => ?_
    obtain ⟨rfl, rfl⟩ : ad = some ⟨b, 0, none⟩ ∧ c = c' := by simpa using hv
    simp only [List.set_cons_succ, List.set_cons_zero]
    refine KW.turn (As' := [ex g0, rowF b 34 (0 + 0 * 5) (pcells p0) (flat ((R.map pcells).take 0)) (flat ((R.map pcells).drop (0 + 1)) ++ extra)]) (fun w hs => hs.imp 1 rfl (foc_in (pcells_len R) (by simp [hp0]))) ?_
    obtain ⟨cmd0, apid0, f0, c0, d0⟩ := p0
    simp only at hf0; subst hf0
    simp only [pcells]
    generalize hpre : flat ((R.map pcells).take 0) = pre
    generalize hpost : flat ((R.map pcells).drop (0 + 1)) ++ extra = post
    refine CW.exit ?_
    refine KW.thenX ?_
    refine KW.thenX ?_
    refine KW.hit ?_
    refine KW.thenN ?_
    refine CW.seq ?_
    refine CW.region ?_
    refine LW.opV (ov_move rfl) rfl rfl ?_
    refine LW.opV (ov_idxL (i := 0) so22 rfl rfl rfl (by omega)) rfl rfl ?_
    refine LW.opV (ov_fieldAddr fo34_2 rfl) rfl rfl ?_
    refine LW.opV (ov_loadF 1 ta3 rfl rfl rfl) rfl rfl ?_
    refine LW.opV (ov_bits (.inr (.inl rfl)) rfl rfl (v := 1) (by rfl)) rfl rfl ?_
    refine LW.opV (ov_idxL (i := 0) so22 rfl rfl rfl (by omega)) rfl rfl ?_
    refine LW.opV (ov_fieldAddr fo34_2 rfl) rfl rfl ?_
    refine LW.opU (ou_storeF ta3 rfl rfl (.one rfl) rfl rfl (.t (.t (.h (.n)))) (.t (.h))) rfl ?_
    refine LW.nil ?_
    refine KW.thenN ?_
    subst hpre; subst hpost
    generalize hR1 : R.set 0 (setFl ⟨cmd0, apid0, 0, c0, d0⟩ 1) = R1 at hsp
    have hR1l : R1.length = R.length := by rw [← hR1]; simp
    have hR1m : (R.map pcells).set 0 (pcells (setFl ⟨cmd0, apid0, 0, c0, d0⟩ 1)) = R1.map pcells := by rw [← hR1, List.map_set]
    refine KW.turn (As' := [ex g0, row b 34 (pkS R1 ++ extra)]) (fun w hs => by
      have := hs.imp 1 rfl (foc_out (b := b) (es := R.map pcells) (i := 0) (e := pcells (setFl ⟨cmd0, apid0, 0, c0, d0⟩ 1)) (by simpa using hW0))
      rw [hR1m] at this
      exact this) ?_
    obtain ⟨q0, hq0⟩ : ∃ p, R1[R.length - 1]? = some p := ⟨_, List.getElem?_eq_getElem (by omega)⟩
    have hqf : q0.flags = 0 ∨ q0.flags = 1 := by
      have hm := List.mem_of_getElem? hq0
      rw [← hR1] at hm
      rcases List.mem_or_eq_of_mem_set hm with hm | rfl
      · exact .inl (hRf _ hm)
      · exact .inr rfl
    rw [modify_at hq0] at hsp
    change splitK cmd apid count most l = R1.set (R.length - 1) (setFl q0 (q0.flags + 2)) at hsp
    refine KW.turn (As' := [ex g0, rowF b 34 (0 + (R.length - 1) * 5) (pcells q0) (flat ((R1.map pcells).take (R.length - 1))) (flat ((R1.map pcells).drop (R.length - 1 + 1)) ++ extra)]) (fun w hs => hs.imp 1 rfl (foc_in (pcells_len R1) (by simp [hq0]))) ?_
    obtain ⟨cmd1, apid1, f1, c1, d1⟩ := q0
    simp only at hqf
    have ef : bits2 .or .i64 f1 2 = f1 + 2 := by rcases hqf with rfl | rfl <;> rfl
    simp only [pcells]
    generalize hpre : flat ((R1.map pcells).take (R.length - 1)) = pre
    generalize hpost : flat ((R1.map pcells).drop (R.length - 1 + 1)) ++ extra = post
    refine CW.seq ?_
    refine CW.region ?_
    refine LW.opV (ov_move rfl) rfl rfl ?_
    refine LW.opV (ov_move rfl) rfl rfl ?_
    refine LW.opV (ov_lenL so22 rfl) rfl rfl ?_
    first | refine LW.opV (ov_sub rfl rfl (by omega)) rfl rfl ?_ | refine LW.opV (ov_subW rfl rfl) rfl rfl ?_
    refine LW.opV (ov_idxL (i := R.length - 1) so22 rfl rfl (by omega) (by omega)) rfl rfl ?_
    refine LW.opV (ov_fieldAddr fo34_2 rfl) rfl rfl ?_
    refine LW.opV (ov_loadF 1 ta3 rfl rfl rfl) rfl rfl ?_
    refine LW.opV (ov_bits (.inr (.inl rfl)) rfl rfl ef) rfl rfl ?_
    refine LW.opV (ov_idxL (i := R.length - 1) so22 rfl rfl (by omega) (by omega)) rfl rfl ?_
    refine LW.opV (ov_fieldAddr fo34_2 rfl) rfl rfl ?_
    refine LW.opU (ou_storeF ta3 rfl rfl (.one rfl) rfl rfl (.t (.t (.h (.n)))) (.t (.h))) rfl ?_
    refine LW.nil ?_
    refine KW.thenN ?_
    refine CW.seq ?_
    refine CW.region ?_
    refine LW.opV (ov_move rfl) rfl rfl ?_
    refine LW.opV (ov_assign rfl) rfl rfl ?_
    refine LW.opV (ov_assign rfl) rfl rfl ?_
    refine LW.nil ?_
    refine KW.thenN ?_
    refine CW.ret ?_
    subst hpre; subst hpost
    have hR2m : (R1.map pcells).set (R.length - 1) (pcells (setFl ⟨cmd1, apid1, f1, c1, d1⟩ (f1 + 2))) = (splitK cmd apid count most l).map pcells := by rw [hsp, List.map_set]
    have hR2l : (splitK cmd apid count most l).length = R.length := by rw [hsp]; simp [hR1l]
    generalize splitK cmd apid count most l = R2 at hR2m hR2l ⊢
    refine KW.turn (As' := [ex g0, row b 34 (pkS R2 ++ extra)]) (fun w hs => by
      have := hs.imp 1 rfl (foc_out (b := b) (es := R1.map pcells) (i := R.length - 1) (e := pcells (setFl ⟨cmd1, apid1, f1, c1, d1⟩ (f1 + 2))) (by simp; omega))
      rw [hR2m] at this
      exact this) ?_
    rw [← hR2l] at hnc ⊢
    have h2 := pkS_len R2
    have h3 := pkS_len R
    refine KW.retE (.cons (.tmp rfl) (.cons (.tmp rfl) .nil)) fun w hs hw => ⟨_, ⟨_, _, rfl, rfl⟩, hs.imp 1 rfl (own_row hnc h2 ?_), hw⟩
    rw [List.length_append] at hcl ⊢
    omega
end Sx
end Go.Proofs.Ytkofbanncacamaa
