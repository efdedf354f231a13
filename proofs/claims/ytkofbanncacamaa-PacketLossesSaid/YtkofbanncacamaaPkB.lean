/- Package packet: the joiner: its state, and the contracts of New, none. -/
import Derived.Test.YtkofbanncacamaaPkA
namespace Go.Proofs.Ytkofbanncacamaa
namespace Sx

/-- what a joiner knows of an APID -/
structure Kn where
  next : Int
  txt : Option (List UInt8)
abbrev kval (k : Kn) (v : Value) : Value := .agg #[.int .i64 k.next, .bool k.txt.isSome, v]
abbrev nilv : Value := .slice none 0 0
def txtA (k : Kn) (v : Value) : HP := fun h => (k.txt = none ∧ v = nilv) ∨ ∃ l, k.txt = some l ∧ bytesA 5 v l h
abbrev Ent := Int × Kn × Value
def txts : List Ent → HP
  | [] => emp
  | (_, k, v) :: r => star (txtA k v) (txts r)
def mk (L : List Ent) : List (Int × Value) := L.map fun e => (e.1, kval e.2.1 e.2.2)
def stOf (L : List Ent) : List (Int × Kn) := L.map fun e => (e.1, e.2.1)
def look : List (Int × Kn) → Int → Option Kn
  | [], _ => none
  | (a, k) :: r, b => if a = b then some k else look r b
def putk : List (Int × Kn) → Int → Kn → List (Int × Kn)
  | [], b, k => [(b, k)]
  | (a, k') :: r, b, k => if a = b then (a, k) :: r else (a, k') :: putk r b k
def lset : List Ent → Int → Kn → Value → List Ent
  | [], b, k, v => [(b, k, v)]
  | (a, k', v') :: r, b, k, v => if a = b then (a, k, v) :: r else (a, k', v') :: lset r b k v
theorem mset_mk (a : Int) (k : Kn) (v : Value) : ∀ L, mset (mk L) a (kval k v) = mk (lset L a k v) := by
  intro L; induction L with
  | nil => rfl
  | cons e r ih =>
    obtain ⟨b, k', v'⟩ := e
    simp only [mk, List.map_cons, mset, lset] at ih ⊢
    by_cases h : b = a
    · simp [h]
    · simp only [if_neg h, List.map_cons, ih]
theorem stOf_lset (a : Int) (k : Kn) (v : Value) : ∀ L, stOf (lset L a k v) = putk (stOf L) a k := by
  intro L; induction L with
  | nil => rfl
  | cons e r ih =>
    obtain ⟨b, k', v'⟩ := e
    simp only [stOf, List.map_cons, putk, lset] at ih ⊢
    by_cases h : b = a
    · simp [h]
    · simp only [if_neg h, List.map_cons, ih]

theorem star_imp {A A' B B' : HP} (h1 : ∀ g, A g → A' g) (h2 : ∀ g, B g → B' g) : ∀ g, star A B g → star A' B' g := by
  rintro g ⟨f1, f2, a, b, c, d⟩; exact ⟨f1, f2, a, b, h1 _ c, h2 _ d⟩
theorem or_comm' {a b : Option Obj} (h : a = none ∨ b = none) : a.or b = b.or a := by rcases h with rfl | rfl <;> cases ‹Option Obj› <;> rfl
theorem star_left {A B D : HP} : ∀ g, star A (star B D) g → star B (star A D) g := by
  rintro g ⟨f1, f23, d1, e1, a, f2, f3, d2, e2, b, c⟩
  have h12 : ∀ k, f1 k = none ∨ f2 k = none := fun k => (d1 k).imp id fun h => by rw [e2] at h; cases e : f2 k with
    | none => rfl
    | some o => rw [e] at h; cases h
  have h13 : ∀ k, f1 k = none ∨ f3 k = none := fun k => (d1 k).imp id fun h => by rw [e2] at h; cases e : f2 k with
    | none => rw [e] at h; exact h
    | some o => rw [e] at h; cases h
  refine ⟨f2, fun k => (f1 k).or (f3 k), fun k => ?_, fun k => ?_, b, f1, f3, h13, fun _ => rfl, a, c⟩
  · rcases h12 k with h | h
    · rcases d2 k with h' | h'
      · exact .inl h'
      · exact .inr (by simp [h, h'])
    · exact .inl h
  · rw [e1, e2]
    rcases h12 k with h | h
    · simp [h]
    · simp [h]
/-- the entry of an APID apart from the others -/
theorem split_ent (a : Int) : ∀ L : List Ent, ∃ (k0 : Kn) (v0 : Value) (rest : HP), k0 = (look (stOf L) a).getD ⟨0, none⟩ ∧ mlook (mk L) a = (look (stOf L) a).map (fun k => kval k v0) ∧ (look (stOf L) a = none → v0 = nilv) ∧
    (∀ g, txts L g → star (txtA k0 v0) rest g) ∧ ∀ k' v' g, star (txtA k' v') rest g → txts (lset L a k' v') g := by
  intro L; induction L with
  | nil => exact ⟨⟨0, none⟩, nilv, emp, rfl, rfl, fun _ => rfl, fun g _ => ⟨fun _ => none, g, fun _ => .inl rfl, fun _ => rfl, .inl ⟨rfl, rfl⟩, trivial⟩, fun k' v' g h => h⟩
  | cons e r ih =>
    obtain ⟨b, k, v⟩ := e
    by_cases h : b = a
    · subst h
      exact ⟨k, v, txts r, by simp [stOf, look], by simp [stOf, look, mk, mlook], by simp [stOf, look], fun g h => h, fun k' v' g h => by simp only [lset, if_true]; exact h⟩
    · obtain ⟨k0, v0, rest, h1, h2, h3, h4, h5⟩ := ih
      refine ⟨k0, v0, star (txtA k v) rest, ?_, ?_, ?_, fun g hg => star_left g (star_imp (fun _ x => x) h4 g hg), fun k' v' g hg => ?_⟩
      · simp only [stOf, List.map_cons, look, if_neg h]; exact h1
      · simp only [stOf, mk, List.map_cons, look, mlook, if_neg h]; exact h2
      · simp only [stOf, List.map_cons, look, if_neg h]; exact h3
      · simp only [lset, if_neg h]; exact star_imp (fun _ x => x) (h5 k' v') g (star_left g hg)

/-- a joiner in memory -/
def JA (jb : Nat) (st : List (Int × Kn)) : HP := Ex fun mb : Nat => Ex fun L : List Ent => Pu (stOf L = st) (star (row jb 32 [.map (some mb)]) (star (mapI mb (mk L)) (txts L)))

theorem KW.openJ {C : Cx} {ds : List Deferred} {env : Env} {As : List HP} {K : Act → World → Prop} {jb : Nat} {st : List (Int × Kn)} (i : Nat) (hi : As[i]? = some (JA jb st))
    (h : ∀ mb L, stOf L = st → KW C ds K env (As.set i (row jb 32 [.map (some mb)]) ++ [mapI mb (mk L), txts L])) : KW C ds K env As := by
  have hl := lt_of_get hi
  refine KW.turnEx i hi fun mb => KW.turnEx i (by rw [List.getElem?_set_self hl]) fun L => ?_
  rw [List.set_set]
  refine KW.turnPu i (by rw [List.getElem?_set_self hl]) fun hst => ?_
  rw [List.set_set]
  intro a w ha hs hw
  have h1 := hs.split i (by rw [List.getElem?_set_self hl])
  rw [List.set_set] at h1
  have h2 := h1.split As.length (A := mapI mb (mk L)) (B := txts L) (by simp)
  refine h mb L hst a w ha ?_ hw
  have e : (As.set i (row jb 32 [.map (some mb)]) ++ [star (mapI mb (mk L)) (txts L)]).set As.length (mapI mb (mk L)) = As.set i (row jb 32 [.map (some mb)]) ++ [mapI mb (mk L)] := by
    rw [List.set_append_right _ _ (by simp)]; simp
  rw [e] at h2
  simpa using h2

/-- Three atoms are a joiner again. -/
theorem JA.mk' {w : World} {jb mb : Nat} {L : List Ent} {Bs : List HP} (h : Sat w (Bs ++ [row jb 32 [.map (some mb)], mapI mb (mk L), txts L])) : Sat w (Bs ++ [JA jb (stOf L)]) := by
  have h1 := h.join (Bs.length + 1) (Bs.length + 2) (A := mapI mb (mk L)) (B := txts L) (by simp) (by simp) (by omega)
  have e1 : (((Bs ++ [row jb 32 [.map (some mb)], mapI mb (mk L), txts L]).set (Bs.length + 1) (star (mapI mb (mk L)) (txts L))).set (Bs.length + 2) emp) = Bs ++ [row jb 32 [.map (some mb)], star (mapI mb (mk L)) (txts L), emp] := by
    rw [List.set_append_right _ _ (by omega)]
    simp [show Bs.length + 1 - Bs.length = 1 from by omega]
  rw [e1] at h1
  have h2 := h1.join Bs.length (Bs.length + 1) (A := row jb 32 [.map (some mb)]) (B := star (mapI mb (mk L)) (txts L)) (by simp) (by simp) (by omega)
  have e2 : (((Bs ++ [row jb 32 [.map (some mb)], star (mapI mb (mk L)) (txts L), emp]).set Bs.length (star (row jb 32 [.map (some mb)]) (star (mapI mb (mk L)) (txts L)))).set (Bs.length + 1) emp) = Bs ++ [star (row jb 32 [.map (some mb)]) (star (mapI mb (mk L)) (txts L)), emp, emp] := by
    rw [List.set_append_right _ _ (by omega)]
    simp
  rw [e2] at h2
  have h3 := h2.imp Bs.length (B := JA jb (stOf L)) (by simp) (fun g hg => ⟨mb, L, rfl, hg⟩)
  rw [List.set_append_right _ _ (by omega)] at h3
  simp only [Nat.sub_self, List.set_cons_zero] at h3
  obtain ⟨H, al⟩ := h3
  refine ⟨H, fun i A hi => al.ok i A ?_, fun i j hi hj hij => al.dj i j (by simp at hi ⊢; omega) (by simp at hj ⊢; omega) hij, fun i hi => al.inn i (by simp at hi ⊢; omega)⟩
  by_cases q : i < Bs.length
  · rw [List.getElem?_append_left q] at hi ⊢; exact hi
  · have := lt_of_get hi
    simp at this
    have e : i = Bs.length := by omega
    subst e; simpa using hi

theorem none_nil : Fn Try.prog 17 #[.pointer none] [] (Ret fun v Q => v = .bool true ∧ Q = []) := by
  refine Fn.of (args := _) Try.func17 rfl Try.ntmps17 rfl ?_
  intro w0 g0
  refine CW.seq ?_
  refine CW.region ?_
  refine LW.opV (ov_assign rfl) rfl rfl ?_
  refine LW.nil ?_
  refine KW.thenN ?_
  refine CW.seq ?_
  refine CW.region ?_
  refine LW.opV (ov_move rfl) rfl rfl ?_
  refine LW.opV (ov_ptreql un24 rfl rfl (by simp)) rfl rfl ?_
  refine LW.opV (ov_move rfl) rfl rfl ?_
  refine KW.re 5 rfl (v' := .bool true) rfl ?_
  refine LW.skip rfl rfl ?_
  refine LW.skip rfl rfl ?_
  refine LW.skip rfl rfl ?_
  refine LW.skip rfl rfl ?_
  refine LW.skip rfl rfl ?_
  first | refine LW.opV (ov_pickT rfl rfl) rfl rfl ?_ | refine LW.opV (ov_pickF rfl rfl) rfl rfl ?_ | refine LW.opV (ov_pick rfl rfl rfl) rfl rfl ?_
  refine LW.opV (ov_assign rfl) rfl rfl ?_
  refine LW.nil ?_
  refine KW.thenN ?_
  refine CW.ret ?_
  exact KW.retF (.cons (.tmp rfl) .nil) [] rfl rfl ⟨rfl, rfl⟩
theorem none_ok (jb mb : Nat) : Fn Try.prog 17 #[.pointer (some ⟨jb, 0, none⟩)] [row jb 32 [.map (some mb)]] (Ret fun v Q => v = .bool false ∧ Q = [row jb 32 [.map (some mb)]]) := by
  refine Fn.of (args := _) Try.func17 rfl Try.ntmps17 rfl ?_
  intro w0 g0
  refine CW.seq ?_
  refine CW.region ?_
  refine LW.opV (ov_assign rfl) rfl rfl ?_
  refine LW.nil ?_
  refine KW.thenN ?_
  refine CW.seq ?_
  refine CW.region ?_
  refine LW.opV (ov_move rfl) rfl rfl ?_
  refine LW.opV (ov_ptreql un24 rfl rfl (by simp)) rfl rfl ?_
  refine LW.opV (ov_move rfl) rfl rfl ?_
  refine KW.re 5 rfl (v' := .bool false) rfl ?_
  refine LW.opV (ov_move rfl) rfl rfl ?_
  first | refine LW.opV (ov_nilP rfl) rfl rfl ?_ | refine LW.opV (ov_nilF rfl) rfl rfl ?_
  refine LW.opV (ov_fieldAddr fo32_0 rfl) rfl rfl ?_
  refine LW.opV (ov_loadR 1 ta30 rfl rfl rfl) rfl rfl ?_
  refine LW.opV (ov_mapeql un30 rfl rfl (by simp)) rfl rfl ?_
  first | refine LW.opV (ov_pickT rfl rfl) rfl rfl ?_ | refine LW.opV (ov_pickF rfl rfl) rfl rfl ?_ | refine LW.opV (ov_pick rfl rfl rfl) rfl rfl ?_
  refine LW.opV (ov_assign rfl) rfl rfl ?_
  refine LW.nil ?_
  refine KW.thenN ?_
  refine CW.ret ?_
  exact KW.retF (.cons (.tmp rfl) .nil) [1] rfl rfl ⟨rfl, rfl⟩
theorem none_zero (jb : Nat) : Fn Try.prog 17 #[.pointer (some ⟨jb, 0, none⟩)] [row jb 32 [.map none]] (Ret fun v Q => v = .bool true ∧ Q = [row jb 32 [.map none]]) := by
  refine Fn.of (args := _) Try.func17 rfl Try.ntmps17 rfl ?_
  intro w0 g0
  refine CW.seq ?_
  refine CW.region ?_
  refine LW.opV (ov_assign rfl) rfl rfl ?_
  refine LW.nil ?_
  refine KW.thenN ?_
  refine CW.seq ?_
  refine CW.region ?_
  refine LW.opV (ov_move rfl) rfl rfl ?_
  refine LW.opV (ov_ptreql un24 rfl rfl (by simp)) rfl rfl ?_
  refine LW.opV (ov_move rfl) rfl rfl ?_
  refine KW.re 5 rfl (v' := .bool false) rfl ?_
  refine LW.opV (ov_move rfl) rfl rfl ?_
  first | refine LW.opV (ov_nilP rfl) rfl rfl ?_ | refine LW.opV (ov_nilF rfl) rfl rfl ?_
  refine LW.opV (ov_fieldAddr fo32_0 rfl) rfl rfl ?_
  refine LW.opV (ov_loadR 1 ta30 rfl rfl rfl) rfl rfl ?_
  refine LW.opV (ov_mapeql un30 rfl rfl (by simp)) rfl rfl ?_
  first | refine LW.opV (ov_pickT rfl rfl) rfl rfl ?_ | refine LW.opV (ov_pickF rfl rfl) rfl rfl ?_ | refine LW.opV (ov_pick rfl rfl rfl) rfl rfl ?_
  refine LW.opV (ov_assign rfl) rfl rfl ?_
  refine LW.nil ?_
  refine KW.thenN ?_
  refine CW.ret ?_
  exact KW.retF (.cons (.tmp rfl) .nil) [1] rfl rfl ⟨rfl, rfl⟩
theorem New_ok : Fn Try.prog 6 #[] [] (Ret fun v Q => ∃ jb, v = .pointer (some ⟨jb, 0, none⟩) ∧ Q = [JA jb []]) := by
  refine Fn.of (args := _) Try.func6 rfl Try.ntmps6 rfl ?_
  intro w0 g0
  refine CW.seq ?_
  refine CW.region ?_
  refine LW.opV (ov_assign rfl) rfl rfl ?_
  refine LW.nil ?_
  refine KW.thenN ?_
  refine CW.seq ?_
  refine CW.region ?_
  refine LW.opBA (ob_makeMap (fun _ => .c (.n))) rfl rfl (fun b1 => ?_)
  refine LW.opV (ov_build zc32 pl32 rfl (.c rfl (.one rfl) rfl (.h (.n)) (.n))) rfl rfl ?_
  refine LW.opBA (ob_box rfl .agg (fun _ => .c (.c (.n)))) rfl rfl (fun b3 => ?_)
  refine LW.opV (ov_assign rfl) rfl rfl ?_
  refine LW.nil ?_
  refine KW.thenN ?_
  refine CW.ret ?_
  refine KW.retE (.cons (.tmp rfl) .nil) fun w hs hw => ⟨_, ⟨_, rfl, rfl⟩, ?_, hw⟩
  have h1 := hs.picks [0, 2, 1] rfl
  obtain ⟨H, al⟩ := id h1
  have h2 : Sat w ([ex g0] ++ [row b3 32 [.map (some b1)], mapI b1 (mk []), txts []]) := by
    refine ⟨fun j => if j < 3 then H j else fun _ => none, fun i A hi => ?_, fun i j hi hj hij => ?_, fun i hi => ?_⟩
    · match i, hi with
      | 0, hi => exact al.ok 0 A hi
      | 1, hi => exact al.ok 1 A hi
      | 2, hi => exact al.ok 2 A hi
      | 3, hi => simp at hi; subst hi; trivial
      | i + 4, hi => simp at hi
    · simp only [List.length_append, List.length_cons, List.length_nil] at hi hj
      by_cases q : i < 3
      · rw [if_pos q]
        by_cases q' : j < 3
        · rw [if_pos q']; exact al.dj i j q q' hij
        · rw [if_neg q']; exact fun _ => .inr rfl
      · rw [if_neg q]; exact fun _ => .inl rfl
    · by_cases q : i < 3
      · rw [if_pos q]; exact al.inn i q
      · rw [if_neg q]; exact fun _ _ x => by cases x
  exact JA.mk' h2
end Sx
end Go.Proofs.Ytkofbanncacamaa
