/- A small layer of separation logic over Code.wp and Calls: heaplets, atoms, symbolic slots; rules for code. -/
import Derived.Tactics
import Derived.Orders
import Derived.OrdersHeld
namespace Go.Proofs.Ytkofbanncacamaa
namespace Sx

/-! ### Heaplets -/
abbrev Hl := Nat → Option Obj
abbrev HP := Hl → Prop
def Hl.Dj (g h : Hl) : Prop := ∀ k, g k = none ∨ h k = none
def Hl.In (h : Hl) (w : World) : Prop := ∀ k o, h k = some o → w.heap[k]? = some o
def one (b : Nat) (o : Obj) : Hl := fun k => if k = b then some o else none
def pts (b : Nat) (o : Obj) : HP := fun h => h = one b o
def ex (g : Hl) : HP := fun h => h = g
def emp : HP := fun _ => True
def nth (As : List HP) (i : Nat) : HP := As.getD i emp

theorem Hl.Dj.symm {g h : Hl} (d : g.Dj h) : h.Dj g := fun k => (d k).symm
theorem one_self (b : Nat) (o : Obj) : one b o b = some o := by simp [one]
theorem one_some {b : Nat} {o : Obj} {k : Nat} {o' : Obj} (h : one b o k = some o') : k = b ∧ o' = o := by
  unfold one at h; split at h
  · rename_i e; exact ⟨e, by simpa using h.symm⟩
  · cases h
theorem one_dj {b b' : Nat} {o o' : Obj} (h : b ≠ b') : (one b o).Dj (one b' o') := fun k => by
  unfold one; by_cases e : k = b
  · subst e; exact .inr (if_neg h)
  · exact .inl (if_neg e)

structure Al (w : World) (As : List HP) (H : Nat → Hl) : Prop where
  ok : ∀ (i : Nat) (A : HP), As[i]? = some A → A (H i)
  dj : ∀ (i j : Nat), i < As.length → j < As.length → i ≠ j → (H i).Dj (H j)
  inn : ∀ (i : Nat), i < As.length → (H i).In w
def Sat (w : World) (As : List HP) : Prop := ∃ H, Al w As H

theorem lt_of_get {α : Type _} {l : List α} {i : Nat} {x : α} (h : l[i]? = some x) : i < l.length := (List.getElem?_eq_some_iff.1 h).1

theorem Sat.get {w : World} {As : List HP} (h : Sat w As) (i : Nat) {b : Nat} {o : Obj} (hi : As[i]? = some (pts b o)) : w.heap[b]? = some o := by
  obtain ⟨H, a⟩ := h
  have e : H i = one b o := a.ok i _ hi
  exact a.inn i (lt_of_get hi) b o (by rw [e]; exact one_self b o)

theorem Sat.getEx {w : World} {As : List HP} (h : Sat w As) (i : Nat) {g : Hl} {k : Nat} {o : Obj} (hi : As[i]? = some (ex g)) (hk : g k = some o) : w.heap[k]? = some o := by
  obtain ⟨H, a⟩ := h
  have e : H i = g := a.ok i _ hi
  exact a.inn i (lt_of_get hi) k o (by rw [e]; exact hk)

theorem Sat.ne {w : World} {As : List HP} (h : Sat w As) (i j : Nat) {b b' : Nat} {o o' : Obj} (hi : As[i]? = some (pts b o)) (hj : As[j]? = some (pts b' o')) (hij : i ≠ j) : b ≠ b' := by
  obtain ⟨H, a⟩ := h
  have e : H i = one b o := a.ok i _ hi
  have e' : H j = one b' o' := a.ok j _ hj
  intro hb; subst hb
  have := a.dj i j (lt_of_get hi) (lt_of_get hj) hij b
  rw [e, e'] at this; simp [one] at this

theorem Sat.lt {w : World} {As : List HP} (h : Sat w As) (i : Nat) {b : Nat} {o : Obj} (hi : As[i]? = some (pts b o)) : b < w.heap.size :=
  (Array.getElem?_eq_some_iff.1 (h.get i hi)).1

theorem Sat.replace {w w' : World} {As : List HP} {i : Nat} {A' : HP} (h : Sat w As)
    (hr : ∀ H, Al w As H → ∃ g : Hl, A' g ∧ (∀ j, j < As.length → j ≠ i → g.Dj (H j)) ∧ g.In w' ∧ ∀ j, j < As.length → j ≠ i → (H j).In w') : Sat w' (As.set i A') := by
  obtain ⟨H, a⟩ := h
  obtain ⟨g, h1, h2, h3, h4⟩ := hr H a
  refine ⟨fun j => if j = i then g else H j, fun j A hj => ?_, fun j k hj hk hjk => ?_, fun j hj => ?_⟩
  · by_cases e : j = i
    · subst e
      have hl : j < As.length := by simpa using lt_of_get hj
      rw [List.getElem?_set_self (by simpa using hl)] at hj
      simp only [Option.some.injEq] at hj; subst hj; simpa using h1
    · rw [List.getElem?_set_ne (Ne.symm e)] at hj
      simp only [if_neg e]; exact a.ok j A hj
  · simp only [List.length_set] at hj hk
    try dsimp only
    by_cases e : j = i
    · rw [if_pos e, if_neg (fun e' => hjk (e.trans e'.symm))]
      exact h2 k hk (fun e' => hjk (e.trans e'.symm))
    · rw [if_neg e]
      by_cases e' : k = i
      · rw [if_pos e']; exact (h2 j hj e).symm
      · rw [if_neg e']; exact a.dj j k hj hk hjk
  · simp only [List.length_set] at hj
    try dsimp only
    by_cases e : j = i
    · rw [if_pos e]; exact h3
    · rw [if_neg e]; exact h4 j hj e

/-- One block turned. -/
theorem Sat.setHeap {w w' : World} {As : List HP} (h : Sat w As) (i : Nat) {b : Nat} {o o' : Obj} (hi : As[i]? = some (pts b o))
    (hb : w'.heap[b]? = some o') (hk : ∀ k, k ≠ b → w'.heap[k]? = w.heap[k]?) : Sat w' (As.set i (pts b o')) := by
  refine h.replace fun H a => ?_
  have e : H i = one b o := a.ok i _ hi
  have hd : ∀ j, j < As.length → j ≠ i → H j b = none := fun j hj hji => by
    have := a.dj i j (lt_of_get hi) hj (Ne.symm hji) b
    rw [e] at this; simpa [one] using this
  refine ⟨one b o', rfl, fun j hj hji k => ?_, fun k o1 hk1 => ?_, fun j hj hji k o1 hk1 => ?_⟩
  · by_cases ek : k = b
    · subst ek; exact .inr (hd j hj hji)
    · exact .inl (by simp [one, ek])
  · obtain ⟨rfl, rfl⟩ := one_some hk1; exact hb
  · have ek : k ≠ b := fun ek => by subst ek; rw [hd j hj hji] at hk1; cases hk1
    rw [hk k ek]; exact a.inn j hj k o1 hk1

theorem Al.lt {w : World} {As : List HP} {H : Nat → Hl} (a : Al w As H) {i : Nat} (hi : i < As.length) {k : Nat} {o : Obj} (h : H i k = some o) : k < w.heap.size :=
  (Array.getElem?_eq_some_iff.1 (a.inn i hi k o h)).1

/-- Old blocks stand. -/
theorem Sat.keep {w w' : World} {As : List HP} (h : Sat w As) (hk : ∀ k, k < w.heap.size → w'.heap[k]? = w.heap[k]?) : Sat w' As := by
  obtain ⟨H, a⟩ := h
  exact ⟨H, a.ok, a.dj, fun i hi k o hko => (hk k (a.lt hi hko)).trans (a.inn i hi k o hko)⟩

/-- A new block. -/
theorem Sat.push {w w' : World} {As : List HP} (h : Sat w As) {o : Obj} (hb : w'.heap[w.heap.size]? = some o) (hk : ∀ k, k < w.heap.size → w'.heap[k]? = w.heap[k]?) :
    Sat w' (As ++ [pts w.heap.size o]) := by
  obtain ⟨H, a⟩ := h
  have hn : ∀ j, j < As.length → H j w.heap.size = none := fun j hj => by
    cases e : H j w.heap.size with
    | none => rfl
    | some o1 => have := a.lt hj e; omega
  refine ⟨fun j => if j < As.length then H j else one w.heap.size o, fun j A hj => ?_, fun j k hj hk' hjk => ?_, fun j hj => ?_⟩
  · by_cases e : j < As.length
    · rw [List.getElem?_append_left e] at hj
      simp only [if_pos e]; exact a.ok j A hj
    · have hj' : j = As.length := by have := lt_of_get hj; simp at this; omega
      subst hj'
      simp at hj; subst hj
      simp [pts]
  · simp only [List.length_append, List.length_cons, List.length_nil] at hj hk'
    try dsimp only
    by_cases e : j < As.length
    · rw [if_pos e]
      by_cases e' : k < As.length
      · rw [if_pos e']; exact a.dj j k e e' hjk
      · rw [if_neg e']; intro m
        by_cases em : m = w.heap.size
        · subst em; exact .inl (hn j e)
        · exact .inr (by simp [one, em])
    · have e' : k < As.length := by omega
      rw [if_neg e, if_pos e']; intro m
      by_cases em : m = w.heap.size
      · subst em; exact .inr (hn k e')
      · exact .inl (by simp [one, em])
  · simp only [List.length_append, List.length_cons, List.length_nil] at hj
    try dsimp only
    by_cases e : j < As.length
    · rw [if_pos e]; intro k o1 hk1
      exact (hk k (a.lt e hk1)).trans (a.inn j e k o1 hk1)
    · rw [if_neg e]; intro k o1 hk1
      obtain ⟨rfl, rfl⟩ := one_some hk1; exact hb

/-- Some of the atoms, in another order. -/
def okIdx : List Nat → Nat → Bool
  | [], _ => true
  | i :: is, n => Nat.ble (i + 1) n && !(is.contains i) && okIdx is n
theorem okIdx_lt : ∀ {is : List Nat} {n : Nat}, okIdx is n = true → ∀ (j i : Nat), is[j]? = some i → i < n := by
  intro is; induction is with
  | nil => intro n _ j i h; simp at h
  | cons x is ih =>
    intro n h j i hj
    simp only [okIdx, Bool.and_eq_true] at h
    cases j with
    | zero => simp at hj; subst hj; exact Nat.le_of_ble_eq_true h.1.1
    | succ j => simp at hj; exact ih h.2 j i hj
theorem okIdx_inj : ∀ {is : List Nat} {n : Nat}, okIdx is n = true → ∀ (j k i : Nat), is[j]? = some i → is[k]? = some i → j = k := by
  intro is; induction is with
  | nil => intro n _ j k i h; simp at h
  | cons x is ih =>
    intro n h j k i hj hk
    simp only [okIdx, Bool.and_eq_true] at h
    have hx : x ∉ is := by simpa using h.1.2
    cases j with
    | zero =>
      simp at hj; subst hj
      cases k with
      | zero => rfl
      | succ k => simp at hk; exact absurd (List.mem_of_getElem? hk) hx
    | succ j =>
      cases k with
      | zero => simp at hk; subst hk; simp at hj; exact absurd (List.mem_of_getElem? hj) hx
      | succ k => simp at hj hk; rw [ih h.2 j k i hj hk]

theorem nth_get {As : List HP} {i : Nat} (h : i < As.length) : As[i]? = some (nth As i) := by
  simp [nth, List.getD, List.getElem?_eq_getElem h]

def picks (is : List Nat) (As : List HP) : List HP := is.map (nth As)

theorem Sat.picks {w : World} {As : List HP} (h : Sat w As) (is : List Nat) (hok : okIdx is As.length = true) : Sat w (picks is As) := by
  obtain ⟨H, a⟩ := h
  refine ⟨fun j => H (is.getD j 0), fun j A hj => ?_, fun j k hj hk hjk => ?_, fun j hj => ?_⟩
  · simp only [Sx.picks, List.getElem?_map] at hj
    cases e : is[j]? with
    | none => rw [e] at hj; cases hj
    | some i =>
      rw [e] at hj; simp at hj; subst hj
      have := okIdx_lt hok j i e
      simp only [List.getD, e, Option.getD_some]
      exact a.ok i _ (nth_get this)
  · simp only [Sx.picks, List.length_map] at hj hk
    have ej := List.getElem?_eq_getElem hj
    have ek := List.getElem?_eq_getElem hk
    simp only [List.getD, ej, ek, Option.getD_some]
    refine a.dj _ _ (okIdx_lt hok j _ ej) (okIdx_lt hok k _ ek) (fun e => hjk ?_)
    exact okIdx_inj hok j k is[j] ej (e ▸ ek)
  · simp only [Sx.picks, List.length_map] at hj
    have ej := List.getElem?_eq_getElem hj
    simp only [List.getD, ej, Option.getD_some]
    exact a.inn _ (okIdx_lt hok j _ ej)

/-! ### An atom turned in place -/
theorem Sat.imp {w : World} {As : List HP} (h : Sat w As) (i : Nat) {A B : HP} (hi : As[i]? = some A) (hab : ∀ g, A g → B g) : Sat w (As.set i B) :=
  h.replace fun H a => ⟨H i, hab _ (a.ok i A hi), fun j hj hji => a.dj i j (lt_of_get hi) hj (Ne.symm hji), a.inn i (lt_of_get hi), fun j hj _ => a.inn j hj⟩

theorem Sat.take {w : World} {As : List HP} (h : Sat w As) (i : Nat) {A : HP} (hi : As[i]? = some A) : ∃ g, A g ∧ Sat w (As.set i (ex g)) := by
  obtain ⟨H, a⟩ := h
  refine ⟨H i, a.ok i A hi, H, fun j B hj => ?_, fun j k hj hk => a.dj j k (by simpa using hj) (by simpa using hk), fun j hj => a.inn j (by simpa using hj)⟩
  by_cases e : j = i
  · subst e
    rw [List.getElem?_set_self (by simpa using lt_of_get hi)] at hj
    simp only [Option.some.injEq] at hj; subst hj; rfl
  · rw [List.getElem?_set_ne (Ne.symm e)] at hj; exact a.ok j B hj

/-- 'there is an x', at atom i. -/
def Ex {α : Type} (A : α → HP) : HP := fun h => ∃ x, A x h
def Pu (p : Prop) (A : HP) : HP := fun h => p ∧ A h
def star (A B : HP) : HP := fun h => ∃ f g : Hl, f.Dj g ∧ (∀ k, h k = (f k).or (g k)) ∧ A f ∧ B g

theorem Sat.getEx1 {w : World} {As : List HP} {α : Type} {A : α → HP} (h : Sat w As) (i : Nat) (hi : As[i]? = some (Ex A)) : ∃ x, Sat w (As.set i (A x)) := by
  obtain ⟨g, ⟨x, hx⟩, hs⟩ := h.take i hi
  refine ⟨x, ?_⟩
  have := hs.imp i (A := ex g) (B := A x) (by rw [List.getElem?_set_self (lt_of_get hi)]) (fun g' (e : g' = g) => e ▸ hx)
  rwa [List.set_set] at this
theorem Sat.getPu {w : World} {As : List HP} {p : Prop} {A : HP} (h : Sat w As) (i : Nat) (hi : As[i]? = some (Pu p A)) : p ∧ Sat w (As.set i A) := by
  obtain ⟨g, ⟨hp, _⟩, _⟩ := h.take i hi
  exact ⟨hp, h.imp i hi fun _ x => x.2⟩

theorem or_some {a b : Option Obj} {o : Obj} (h : a.or b = some o) : a = some o ∨ b = some o := by
  cases a <;> simp_all

theorem Sat.split {w : World} {As : List HP} (h : Sat w As) (i : Nat) {A B : HP} (hi : As[i]? = some (star A B)) : Sat w (As.set i A ++ [B]) := by
  obtain ⟨H, a⟩ := h
  have hl := lt_of_get hi
  obtain ⟨f, g, hd, hu, hA, hB⟩ := a.ok i _ hi
  have hf : ∀ k o, f k = some o → H i k = some o := fun k o e => by rw [hu, e]; rfl
  have hg : ∀ k o, g k = some o → H i k = some o := fun k o e => by
    rw [hu]; rcases hd k with e' | e'
    · rw [e', e]; rfl
    · rw [e] at e'; cases e'
  have djf : ∀ j, j < As.length → j ≠ i → f.Dj (H j) := fun j hj hji k => by
    rcases a.dj i j hl hj (Ne.symm hji) k with e | e
    · left; cases e' : f k with
      | none => rfl
      | some o => rw [hf k o e'] at e; cases e
    · exact .inr e
  have djg : ∀ j, j < As.length → j ≠ i → g.Dj (H j) := fun j hj hji k => by
    rcases a.dj i j hl hj (Ne.symm hji) k with e | e
    · left; cases e' : g k with
      | none => rfl
      | some o => rw [hg k o e'] at e; cases e
    · exact .inr e
  refine ⟨fun j => if j = i then f else if j = As.length then g else H j, fun j C hj => ?_, fun j k hj hk hjk => ?_, fun j hj => ?_⟩
  · by_cases e : j < As.length
    · rw [List.getElem?_append_left (by simpa using e)] at hj
      by_cases e' : j = i
      · subst e'
        rw [List.getElem?_set_self hl] at hj
        simp only [Option.some.injEq] at hj; subst hj; simpa using hA
      · rw [List.getElem?_set_ne (Ne.symm e')] at hj
        simp only [if_neg e', if_neg (Nat.ne_of_lt e)]; exact a.ok j C hj
    · have hj' : j = As.length := by have := lt_of_get hj; simp at this; omega
      subst hj'
      have : ¬ As.length = i := by omega
      simp at hj; subst hj
      simpa [this] using hB
  · simp only [List.length_append, List.length_set, List.length_cons, List.length_nil] at hj hk
    try dsimp only
    by_cases ej : j = i
    · rw [if_pos ej]
      by_cases ek : k = As.length
      · rw [if_neg (by omega), if_pos ek]; exact hd
      · rw [if_neg (fun e => hjk (ej.trans e.symm)), if_neg ek]; exact djf k (by omega) (fun e => hjk (ej.trans e.symm))
    · rw [if_neg ej]
      by_cases ej' : j = As.length
      · rw [if_pos ej']
        by_cases ek : k = i
        · rw [if_pos ek]; exact hd.symm
        · rw [if_neg ek, if_neg (by omega)]; exact djg k (by omega) ek
      · rw [if_neg ej']
        by_cases ek : k = i
        · rw [if_pos ek]; exact (djf j (by omega) ej).symm
        · rw [if_neg ek]
          by_cases ek' : k = As.length
          · rw [if_pos ek']; exact (djg j (by omega) ej).symm
          · rw [if_neg ek']; exact a.dj j k (by omega) (by omega) hjk
  · simp only [List.length_append, List.length_set, List.length_cons, List.length_nil] at hj
    try dsimp only
    by_cases ej : j = i
    · rw [if_pos ej]; exact fun k o e => a.inn i hl k o (hf k o e)
    · rw [if_neg ej]
      by_cases ej' : j = As.length
      · rw [if_pos ej']; exact fun k o e => a.inn i hl k o (hg k o e)
      · rw [if_neg ej']; exact a.inn j (by omega)

/-- Two atoms made one: at i; j becomes emp. -/
theorem Sat.join {w : World} {As : List HP} (h : Sat w As) (i j : Nat) {A B : HP} (hi : As[i]? = some A) (hj : As[j]? = some B) (hij : i ≠ j) :
    Sat w ((As.set i (star A B)).set j emp) := by
  obtain ⟨H, a⟩ := h
  have hli := lt_of_get hi
  have hlj := lt_of_get hj
  refine ⟨fun k => if k = j then fun _ => none else if k = i then fun m => (H i m).or (H j m) else H k, fun k C hk => ?_, fun k l hk hl hkl => ?_, fun k hk => ?_⟩
  · by_cases e : k = j
    · subst e
      rw [List.getElem?_set_self (by simpa using hlj)] at hk
      simp only [Option.some.injEq] at hk; subst hk; trivial
    · rw [List.getElem?_set_ne (Ne.symm e)] at hk
      simp only [if_neg e]
      by_cases e' : k = i
      · subst e'
        rw [List.getElem?_set_self hli] at hk
        simp only [Option.some.injEq] at hk; subst hk
        simp only [if_pos]
        exact ⟨H k, H j, a.dj k j hli hlj hij, fun _ => rfl, a.ok k _ hi, a.ok j _ hj⟩
      · rw [List.getElem?_set_ne (Ne.symm e')] at hk
        simp only [if_neg e']; exact a.ok k C hk
  · simp only [List.length_set] at hk hl
    try dsimp only
    by_cases e : k = j
    · rw [if_pos e]; exact fun _ => .inl rfl
    · rw [if_neg e]
      by_cases f : l = j
      · rw [if_pos f]; exact fun _ => .inr rfl
      · rw [if_neg f]
        by_cases e' : k = i
        · rw [if_pos e', if_neg (fun x => hkl (e'.trans x.symm))]
          intro m
          rcases a.dj i l hli hl (fun x => hkl (e'.trans x)) m with x | x
          · rcases a.dj j l hlj hl (Ne.symm f) m with y | y
            · exact .inl (by simp [x, y])
            · exact .inr y
          · exact .inr x
        · rw [if_neg e']
          by_cases f' : l = i
          · rw [if_pos f']; intro m
            rcases a.dj k i hk hli e' m with x | x
            · exact .inl x
            · rcases a.dj k j hk hlj e m with y | y
              · exact .inl y
              · exact .inr (by simp [x, y])
          · rw [if_neg f']; exact a.dj k l hk hl hkl
  · simp only [List.length_set] at hk
    try dsimp only
    by_cases e : k = j
    · rw [if_pos e]; exact fun _ _ h => by cases h
    · rw [if_neg e]
      by_cases e' : k = i
      · rw [if_pos e']; intro m o hm
        rcases or_some hm with x | x
        · exact a.inn i hli m o x
        · exact a.inn j hlj m o x
      · rw [if_neg e']; exact a.inn k hk

/-! ### A part handed to a callee and taken back -/
def putBack : List Nat → List HP → List HP → List HP
  | [], Q, As => As ++ Q
  | i :: is, q :: Q, As => putBack is Q (As.set i q)
  | i :: is, [], As => putBack is [] (As.set i emp)

theorem putBack_sat {w : World} : ∀ (is : List Nat) (Q As : List HP) (H G : Nat → Hl),
    (∀ (i : Nat) (A : HP), i ∉ is → As[i]? = some A → A (H i)) → (∀ (i j : Nat), i ∉ is → j ∉ is → i < As.length → j < As.length → i ≠ j → (H i).Dj (H j)) → (∀ (i : Nat), i ∉ is → i < As.length → (H i).In w) →
    (∀ (i : Nat) (A : HP), Q[i]? = some A → A (G i)) → (∀ (i j : Nat), i < Q.length → j < Q.length → i ≠ j → (G i).Dj (G j)) → (∀ (i : Nat), i < Q.length → (G i).In w) →
    (∀ (i j : Nat), i ∉ is → i < As.length → j < Q.length → (H i).Dj (G j)) → Sat w (putBack is Q As) := by
  intro is
  induction is with
  | nil =>
    intro Q As H G h1 h2 h3 g1 g2 g3 hg
    refine ⟨fun j => if j < As.length then H j else G (j - As.length), fun j A hj => ?_, fun j k hj hk hjk => ?_, fun j hj => ?_⟩
    · simp only [putBack] at hj
      by_cases e : j < As.length
      · rw [List.getElem?_append_left e] at hj; simp only [if_pos e]; exact h1 j A (by simp) hj
      · rw [List.getElem?_append_right (by omega)] at hj; simp only [if_neg e]; exact g1 _ A hj
    · simp only [putBack, List.length_append] at hj hk
      try dsimp only
      by_cases e : j < As.length
      · rw [if_pos e]
        by_cases e' : k < As.length
        · rw [if_pos e']; exact h2 j k (by simp) (by simp) e e' hjk
        · rw [if_neg e']; exact hg j _ (by simp) e (by omega)
      · rw [if_neg e]
        by_cases e' : k < As.length
        · rw [if_pos e']; exact (hg k _ (by simp) e' (by omega)).symm
        · rw [if_neg e']; exact g2 _ _ (by omega) (by omega) (by omega)
    · simp only [putBack, List.length_append] at hj
      try dsimp only
      by_cases e : j < As.length
      · rw [if_pos e]; exact h3 j (by simp) e
      · rw [if_neg e]; exact g3 _ (by omega)
  | cons i is ih =>
    intro Q As H G h1 h2 h3 g1 g2 g3 hg
    have key : ∀ (q : HP) (Q' : List HP) (g : Hl) (G' : Nat → Hl), q g → g.In w → (∀ (k : Nat), k ∉ i :: is → k < As.length → (H k).Dj g) →
        (∀ (i : Nat) (A : HP), Q'[i]? = some A → A (G' i)) → (∀ (i j : Nat), i < Q'.length → j < Q'.length → i ≠ j → (G' i).Dj (G' j)) → (∀ (i : Nat), i < Q'.length → (G' i).In w) →
        (∀ (k j : Nat), k ∉ i :: is → k < As.length → j < Q'.length → (H k).Dj (G' j)) → (∀ (j : Nat), j < Q'.length → g.Dj (G' j)) → Sat w (putBack is Q' (As.set i q)) := by
      intro q Q' g G' hq hqin hqd g1' g2' g3' hg' hgg
      refine ih Q' (As.set i q) (fun k => if k = i then g else H k) G' ?_ ?_ ?_ g1' g2' g3' ?_
      · intro k A hk hA
        by_cases e : k = i
        · subst e
          have hl : k < As.length := by simpa using lt_of_get hA
          rw [List.getElem?_set_self hl] at hA
          simp only [Option.some.injEq] at hA; subst hA; simpa using hq
        · rw [List.getElem?_set_ne (Ne.symm e)] at hA
          simp only [if_neg e]; exact h1 k A (by simp [e, hk]) hA
      · intro k l hk hl hk' hl' hkl
        simp only [List.length_set] at hk' hl'
        try dsimp only
        by_cases e : k = i
        · rw [if_pos e, if_neg (fun x => hkl (e.trans x.symm))]
          exact (hqd l (by simp only [List.mem_cons, not_or]; exact ⟨fun x => hkl (e.trans x.symm), hl⟩) hl').symm
        · rw [if_neg e]
          by_cases e' : l = i
          · rw [if_pos e']; exact hqd k (by simp [e, hk]) hk'
          · rw [if_neg e']; exact h2 k l (by simp [e, hk]) (by simp [e', hl]) hk' hl' hkl
      · intro k hk hk'
        simp only [List.length_set] at hk'
        try dsimp only
        by_cases e : k = i
        · rw [if_pos e]; exact hqin
        · rw [if_neg e]; exact h3 k (by simp [e, hk]) hk'
      · intro k j hk hk' hj
        simp only [List.length_set] at hk'
        try dsimp only
        by_cases e : k = i
        · rw [if_pos e]; exact hgg j hj
        · rw [if_neg e]; exact hg' k j (by simp [e, hk]) hk' hj
    cases Q with
    | nil =>
      simp only [putBack]
      exact key emp [] (fun _ => none) G trivial (fun _ _ h => by cases h) (fun _ _ _ _ => .inr rfl) (fun _ _ h => by simp at h) (fun _ _ h => by simp at h) (fun _ h => by simp at h) (fun _ _ _ _ h => by simp at h) (fun _ h => by simp at h)
    | cons q Q =>
      simp only [putBack]
      exact key q Q (G 0) (fun j => G (j + 1)) (g1 0 q (by simp)) (g3 0 (by simp)) (fun k hk hk' => hg k 0 hk hk' (by simp)) (fun j A hj => g1 (j + 1) A (by simpa using hj))
        (fun j k hj hk hjk => g2 (j + 1) (k + 1) (by simpa using hj) (by simpa using hk) (by omega)) (fun j hj => g3 (j + 1) (by simpa using hj))
        (fun k j hk hk' hj => hg k (j + 1) hk hk' (by simpa using hj)) (fun j hj => g2 0 (j + 1) (by simp) (by simpa using hj) (by omega))

def uni (H : Nat → Hl) (is : List Nat) : Nat → Hl
  | 0 => fun _ => none
  | n + 1 => fun k => if n ∈ is then uni H is n k else (H n k).or (uni H is n k)

theorem uni_some {H : Nat → Hl} {is : List Nat} : ∀ {n k : Nat} {o : Obj}, uni H is n k = some o → ∃ i, i < n ∧ i ∉ is ∧ H i k = some o := by
  intro n; induction n with
  | zero => intro k o h; cases h
  | succ n ih =>
    intro k o h
    simp only [uni] at h
    split at h
    · obtain ⟨i, a, b⟩ := ih h; exact ⟨i, by omega, b⟩
    · rename_i hn
      rcases or_some h with h | h
      · exact ⟨n, by omega, hn, h⟩
      · obtain ⟨i, a, b⟩ := ih h; exact ⟨i, by omega, b⟩

theorem uni_in {w : World} {As : List HP} {H : Nat → Hl} (a : Al w As H) (is : List Nat) : ∀ (n i : Nat) (k : Nat) (o : Obj), n ≤ As.length → i < n → i ∉ is → H i k = some o → uni H is n k = some o := by
  intro n; induction n with
  | zero => intro i k o _ h; omega
  | succ n ih =>
    intro i k o hn hi his h
    simp only [uni]
    by_cases e : i = n
    · subst e; rw [if_neg his, h]; rfl
    · split
      · exact ih i k o (by omega) (by omega) his h
      · have hh : H n k = none := by
          rcases a.dj i n (by omega) (by omega) e k with x | x
          · rw [h] at x; cases x
          · exact x
        rw [hh]; exact ih i k o (by omega) (by omega) his h

/-- The world outside a call: the part that the callee gets, and one heaplet with all the rest. -/
theorem Sat.lend {w : World} {As : List HP} (h : Sat w As) (is : List Nat) (hok : okIdx is As.length = true) :
    ∃ hf : Hl, Sat w (ex hf :: Sx.picks is As) ∧ ∀ w' Q, Sat w' (ex hf :: Q) → Sat w' (putBack is Q As) := by
  obtain ⟨H, a⟩ := h
  obtain ⟨G, g⟩ := (Sat.picks ⟨H, a⟩ is hok)
  refine ⟨uni H is As.length, ?_, fun w' Q ⟨H', a'⟩ => ?_⟩
  · refine ⟨fun j => match j with | 0 => uni H is As.length | j + 1 => H (is.getD j 0), fun j A hj => ?_, fun j k hj hk hjk => ?_, fun j hj => ?_⟩
    · cases j with
      | zero => simp at hj; subst hj; rfl
      | succ j =>
        simp only [List.getElem?_cons_succ, Sx.picks, List.getElem?_map] at hj
        cases e : is[j]? with
        | none => rw [e] at hj; cases hj
        | some i =>
          rw [e] at hj; simp at hj; subst hj
          have := okIdx_lt hok j i e
          simp only [List.getD, e, Option.getD_some]
          exact a.ok i _ (nth_get this)
    · have hz : ∀ j, j < is.length → (uni H is As.length).Dj (H (is.getD j 0)) := fun j hj k => by
        have ej := List.getElem?_eq_getElem hj
        have hlt := okIdx_lt hok j _ ej
        cases e : uni H is As.length k with
        | none => exact .inl rfl
        | some o =>
          obtain ⟨i, hi, his, hh⟩ := uni_some e
          right
          simp only [List.getD, ej, Option.getD_some]
          rcases a.dj i is[j] hi hlt (fun x => his (x ▸ List.getElem_mem hj)) k with x | x
          · rw [hh] at x; cases x
          · exact x
      have hzz : ∀ j k, j < is.length → k < is.length → j ≠ k → (H (is.getD j 0)).Dj (H (is.getD k 0)) := fun j k hj hk hjk => by
        have ej := List.getElem?_eq_getElem hj
        have ek := List.getElem?_eq_getElem hk
        simp only [List.getD, ej, ek, Option.getD_some]
        exact a.dj _ _ (okIdx_lt hok j _ ej) (okIdx_lt hok k _ ek) (fun e => hjk (okIdx_inj hok j k is[j] ej (e ▸ ek)))
      simp only [List.length_cons, Sx.picks, List.length_map] at hj hk
      cases j with
      | zero =>
        cases k with
        | zero => exact absurd rfl hjk
        | succ k => exact hz k (by omega)
      | succ j =>
        cases k with
        | zero => exact (hz j (by omega)).symm
        | succ k => exact hzz j k (by omega) (by omega) (by omega)
    · simp only [List.length_cons, Sx.picks, List.length_map] at hj
      cases j with
      | zero => intro k o hk; obtain ⟨i, hi, _, hh⟩ := uni_some hk; exact a.inn i hi k o hh
      | succ j =>
        have ej := List.getElem?_eq_getElem (show j < is.length by omega)
        simp only [List.getD, ej, Option.getD_some]
        exact a.inn _ (okIdx_lt hok j _ ej)
  · have e0 : H' 0 = uni H is As.length := a'.ok 0 _ rfl
    have hin0 := a'.inn 0 (by simp)
    rw [e0] at hin0
    refine putBack_sat is Q As H (fun j => H' (j + 1)) (fun i A _ hA => a.ok i A hA) (fun i j _ _ hi hj hij => a.dj i j hi hj hij)
      (fun i his hi k o hk => hin0 k o (uni_in a is _ i k o (Nat.le_refl _) hi his hk)) (fun i A hA => a'.ok (i + 1) A (by simpa using hA))
      (fun i j hi hj hij => a'.dj (i + 1) (j + 1) (by simpa using hi) (by simpa using hj) (by omega)) (fun i hi => a'.inn (i + 1) (by simpa using hi)) ?_
    intro i j his hi hj k
    cases e : H i k with
    | none => exact .inl rfl
    | some o =>
      right
      have := a'.dj 0 (j + 1) (by simp) (by simpa using hj) (by omega) k
      rw [e0, uni_in a is _ i k o (Nat.le_refl _) hi his e] at this
      rcases this with x | x
      · cases x
      · exact x
end Sx
end Go.Proofs.Ytkofbanncacamaa
