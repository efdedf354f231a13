/- Rows of records: focus on one element; slices that only are read. -/
import Derived.Test.YtkofbanncacamaaSxE
namespace Go.Proofs.Ytkofbanncacamaa
namespace Sx

/-- the block's cells: pre, then the cells in focus (from place o on), then post -/
def rowF (b : Nat) (t : TypeId) (o : Nat) (cs pre post : List Value) : HP := fun h => pre.length = o ∧ row b t (pre ++ cs ++ post) h

section
variable {C : Cx} {ds : List Deferred} {env : Env} {As : List HP} {d : Option Tmp} {ty : TypeId} {pos : String} {af : Array Edge} {gd : Option (Nat × Bool)} {t t' : TypeId} {x y : Operand}

theorem Sat.focGet {w : World} (h : Sat w As) (i : Nat) {b : Nat} {t : TypeId} {o : Nat} {cs pre post : List Value} (hi : As[i]? = some (rowF b t o cs pre post)) : pre.length = o ∧ ∃ As', Sat w As' ∧ As'[i]? = some (row b t (pre ++ cs ++ post)) := by
  obtain ⟨g, hg, _⟩ := h.take i hi
  exact ⟨hg.1, _, h.imp i hi (fun _ q => q.2), by rw [List.getElem?_set_self (lt_of_get hi)]⟩
theorem Sat.focCell {w : World} (h : Sat w As) (i : Nat) {b : Nat} {t : TypeId} {o : Nat} {cs pre post : List Value} (hi : As[i]? = some (rowF b t o cs pre post)) {j : Nat} (hj : j < cs.length) : w.cell? ⟨b, o + j, none⟩ = cs[j]? := by
  obtain ⟨h1, As', h2, h3⟩ := h.focGet i hi
  rw [h2.cell i h3, ← h1, List.append_assoc, List.getElem?_append_right (by omega), List.getElem?_append_left (by omega)]
  congr 1; omega
theorem ov_loadF {b o j : Nat} {v : Value} (i : Nat) {tb : TypeId} {cs pre post : List Value} (ha : tyAgg C.P t = some (false, 1)) (hx : evo env x = some (.pointer (some ⟨b, o + j, none⟩))) (hi : As[i]? = some (rowF b tb o cs pre post)) (hv : cs[j]? = some v) : OpV C ds env As ⟨d, .load t x, ty, pos, af, gd⟩ v :=
  ov_load ha hx fun _ hs => (hs.focCell i hi (lt_of_get hv)).trans hv
theorem wr_mid (pre post : List Value) : ∀ (vs cs : List Value) (j : Nat), j + vs.length ≤ cs.length → wr (pre ++ cs ++ post) (pre.length + j) vs = pre ++ wr cs j vs ++ post := by
  intro vs; induction vs with
  | nil => intro cs j _; rfl
  | cons v r ih =>
    intro cs j h
    simp only [List.length_cons] at h
    simp only [wr]
    have : (pre ++ cs ++ post).set (pre.length + j) v = pre ++ cs.set j v ++ post := by
      rw [List.append_assoc, List.set_append_right _ _ (by omega), show pre.length + j - pre.length = j from by omega, List.set_append_left _ _ (by omega)]; simp
    rw [this, Nat.add_assoc, ih _ _ (by simp; omega)]
theorem ou_storeF {b o j : Nat} {vs : List Value} {v : Value} {g : Bool} {tb : TypeId} {cs cs' pre post : List Value} {n : Nat} {As' : List HP} (ha : tyAgg C.P t = some (g, n)) (hx : evo env x = some (.pointer (some ⟨b, o + j, none⟩))) (hy : evo env y = some v)
    (hv : CellsOf v vs) (hn : vs.length = n) (hone : (vs.all fun u => u.oneCell') = true) (hw : Wr cs j vs cs') (hi : Rep As (rowF b tb o cs pre post) (rowF b tb o cs' pre post) As') : OpU C ds env As ⟨d, .store t x y, ty, pos, af, gd⟩ undef As' := fun c w hc hs => by
  obtain ⟨i, h1, h2⟩ := hi.spec
  obtain ⟨e, hlt⟩ := hw.spec
  have hli := lt_of_get h1
  obtain ⟨hpre, _⟩ := hs.focGet i h1
  have hs1 := hs.imp i (B := row b tb (pre ++ cs ++ post)) h1 (fun _ q => q.2)
  have hget : (As.set i (row b tb (pre ++ cs ++ post)))[i]? = some (row b tb (pre ++ cs ++ post)) := by rw [List.getElem?_set_self hli]
  obtain ⟨_, _, w', ⟨rfl, rfl⟩, hrun, hs2, hsame⟩ := ou_storeL (C := C) (ds := ds) (env := env) (d := d) (ty := ty) (pos := pos) (af := af) (gd := gd) i ha hx hy hv.spec hn (by simpa using hone) hget (by simp; omega) c w hc hs1
  refine ⟨_, _, w', ⟨rfl, rfl⟩, hrun, ?_, hsame⟩
  rw [List.set_set, ← hpre, wr_mid _ _ _ _ _ hlt, e] at hs2
  have := hs2.imp i (B := rowF b tb o cs' pre post) (by rw [List.getElem?_set_self hli]) (fun _ q => ⟨hpre, q⟩)
  rw [List.set_set, h2] at this; exact this

/-- records in a row -/
def flat (es : List (List Value)) : List Value := es.flatten
theorem flat_len {sz : Nat} : ∀ {es : List (List Value)}, (∀ e ∈ es, e.length = sz) → (flat es).length = es.length * sz := by
  intro es; induction es with
  | nil => intro _; simp [flat]
  | cons e r ih =>
    intro h
    have := ih fun e he => h e (by simp [he])
    simp only [flat, List.flatten_cons, List.length_append, List.length_cons] at this ⊢
    rw [this, h e (by simp), Nat.add_mul]; omega
theorem flat_split {es : List (List Value)} {i : Nat} {e : List Value} (hi : es[i]? = some e) : flat es = flat (es.take i) ++ e ++ flat (es.drop (i + 1)) := by
  have h1 : es = es.take i ++ e :: es.drop (i + 1) := by
    have hl := lt_of_get hi
    have : es[i] = e := (List.getElem?_eq_some_iff.1 hi).2
    rw [← this]; simp
  conv => lhs; rw [h1]
  simp [flat]
theorem flat_set {es : List (List Value)} {i : Nat} {e : List Value} (hi : i < es.length) : flat (es.set i e) = flat (es.take i) ++ e ++ flat (es.drop (i + 1)) := by
  have := flat_split (es := es.set i e) (i := i) (e := e) (by rw [List.getElem?_set_self hi])
  rw [this]
  simp [List.take_set, List.drop_set, List.set_eq_of_length_le (l := es.take i) (i := i) (a := e) (by simp; omega)]
theorem flat_get {sz : Nat} {es : List (List Value)} (h : ∀ e ∈ es, e.length = sz) {i j : Nat} {e : List Value} {v : Value} (hi : es[i]? = some e) (hj : e[j]? = some v) : (flat es)[i * sz + j]? = some v := by
  rw [flat_split hi]
  have hl : (flat (es.take i)).length = i * sz := by
    rw [flat_len (fun e he => h e (List.mem_of_mem_take he))]; simp; have := lt_of_get hi; rw [Nat.min_eq_left (by omega)]
  have := lt_of_get hj
  rw [List.append_assoc, List.getElem?_append_right (by omega), hl, show i * sz + j - i * sz = j from by omega, List.getElem?_append_left this]; exact hj
/-- into focus, and out of it -/
theorem foc_in {b : Nat} {t : TypeId} {sz : Nat} {es : List (List Value)} {extra : List Value} (h : ∀ e ∈ es, e.length = sz) {i : Nat} {e : List Value} (hi : es[i]? = some e) : ∀ g, row b t (flat es ++ extra) g → rowF b t (0 + i * sz) e (flat (es.take i)) (flat (es.drop (i + 1)) ++ extra) g := by
  intro g hg
  refine ⟨?_, ?_⟩
  · rw [flat_len (fun e he => h e (List.mem_of_mem_take he))]; simp; have := lt_of_get hi; rw [Nat.min_eq_left (by omega)]
  · rw [flat_split hi] at hg; simpa using hg
theorem foc_out {b : Nat} {t : TypeId} {o : Nat} {es : List (List Value)} {extra : List Value} {i : Nat} {e : List Value} (hi : i < es.length) : ∀ g, rowF b t o e (flat (es.take i)) (flat (es.drop (i + 1)) ++ extra) g → row b t (flat (es.set i e) ++ extra) g := by
  rintro g ⟨_, hg⟩
  rw [flat_set hi]; simpa using hg

/-- The owned slice opened: nil, or a row. -/
theorem KW.own {K : Act → World → Prop} (i : Nat) {e : TypeId} {sz n : Nat} {v : Value} {xs : List Value} (hi : As[i]? = some (ownS e sz v n xs)) (h0 : v = .slice none 0 0 → n = 0 → xs = [] → KW C ds K env As)
    (h1 : ∀ b c extra, v = .slice (some ⟨b, 0, none⟩) n c → n ≤ c → xs.length = n * sz → (xs ++ extra).length = c * sz → KW C ds K env (As.set i (row b e (xs ++ extra)))) : KW C ds K env As := by
  intro a w ha hs hw
  obtain ⟨g, ⟨hl, hc⟩, hs2⟩ := hs.take i hi
  rcases hc with ⟨hv, hn⟩ | ⟨b, c, extra, hv, hnc, hcl, hr⟩
  · subst hn
    exact h0 hv rfl (List.eq_nil_of_length_eq_zero (by simpa using hl)) a w ha hs hw
  · refine h1 b c extra hv hnc hl hcl a w ha ?_ hw
    have := hs2.imp i (B := row b e (xs ++ extra)) (by rw [List.getElem?_set_self (lt_of_get hi)]) (fun g' q => by rw [show g' = g from q]; exact hr)
    rwa [List.set_set] at this
theorem own_row {e : TypeId} {sz n b c : Nat} {xs extra : List Value} (hnc : n ≤ c) (hl : xs.length = n * sz) (hcl : (xs ++ extra).length = c * sz) : ∀ g, row b e (xs ++ extra) g → ownS e sz (.slice (some ⟨b, 0, none⟩) n c) n xs g :=
  fun _ hg => ⟨hl, .inr ⟨b, c, extra, rfl, hnc, hcl, hg⟩⟩

/-- A slice literal. -/
theorem ob_buildSlice {e : TypeId} {sz bs n : Nat} {parts : Array (Nat × Operand)} {ps : List (Nat × Value)} {zs cs : List Value} {As' : Nat → List HP} (hu : sliceOf C.P t = some (e, sz, bs)) (hz : zeroCells' C.P e = some zs) (hp : evps env parts.toList = some ps)
    (hn : n * sz ≤ 1000 ∧ 0 < n * sz) (hzs : zs.length = sz) (hb : Bl ((List.range n).map fun i => (i * sz, sz)) ((List.replicate n zs).flatten) ps cs) (hA : ∀ b, App As (row b e cs) (As' b)) :
    OpBA C ds env As ⟨d, .buildSlice t n parts, ty, pos, af, gd⟩ (fun b => .slice (some ⟨b, 0, none⟩) n n) As' := fun a w ha hs => by
  obtain ⟨h1, q, h2, h3, h4⟩ := sliceOf_spec hu
  obtain ⟨z, hz', hzc⟩ := zeroCells_spec hz
  have hparts : (parts.map fun (i, x) => (i, a.eval x)).toList = ps := by rw [← ha.evalps hp]; simp
  have hzz : z.cells = zs.toArray := by rw [← hzc]
  refine ⟨_, _, { w with heap := w.heap.push (.cells cs.toArray e) }, ⟨w.heap.size, rfl, rfl⟩, .inl ?_, (hA _).spec ▸ hs.rowPush (fr := (0, 0)) (by simp) (pushNew w _) (pushOld w _), ⟨rfl, rfl, rfl⟩⟩
  have hrep : (Array.range (n * sz)).map (fun i => zs.toArray[i % zs.toArray.size]!) = ((List.replicate n zs).flatten).toArray := by
    apply Array.ext'
    simp only [Array.toList_map, Array.toList_range, List.size_toArray]
    have key : ∀ n, (List.range (n * sz)).map (fun i => zs.toArray[i % zs.length]!) = (List.replicate n zs).flatten := by
      intro n; induction n with
      | zero => simp
      | succ n ih =>
        rw [Nat.add_mul, Nat.one_mul, List.range_add, List.map_append, ih, List.replicate_succ', List.flatten_append]
        congr 1
        apply List.ext_getElem?
        intro k
        simp only [List.flatten_cons, List.flatten_nil, List.append_nil, List.map_map, List.getElem?_map]
        by_cases hk : k < sz
        · rw [List.getElem?_range hk]
          simp only [Option.map_some, Function.comp]
          rw [hzs, Nat.add_comm, Nat.add_mul_mod_self_right, Nat.mod_eq_of_lt hk]
          rw [List.getElem?_eq_getElem (by omega)]
          simp [hzs, hk]
        · rw [List.getElem?_eq_none (by simp; omega), List.getElem?_eq_none (by omega)]; rfl
    exact key n
  have hfill := fill_bl hb
  have hpl : ∀ i x, ((List.range n).map fun i => (i * sz, sz)).toArray[i]? = some x → some (i * sz, sz) = some x := by
    intro i x h
    simp only [List.getElem?_toArray, List.getElem?_map] at h
    cases e : (List.range n)[i]? with
    | none => rw [e] at h; cases h
    | some j =>
      have := List.getElem?_range (lt_of_get e |> fun h => by simpa using h)
      rw [this] at e; simp at e; subst e
      rw [this] at h; simpa using h
  have hfill2 : ∀ (cells : Array Value) (l : List (Nat × Value)) (r : Array Value), Instr.fill (((List.range n).map fun i => (i * sz, sz)).toArray[·]?) cells l = some r → Instr.fill (fun i => some (i * sz, sz)) cells l = some r := by
    intro cells l; induction l generalizing cells with
    | nil => intro r h; exact h
    | cons p l ih =>
      intro r h
      obtain ⟨i, v⟩ := p
      simp only [Instr.fill] at h ⊢
      cases e : ((List.range n).map fun i => (i * sz, sz)).toArray[i]? with
      | none => rw [e] at h; cases h
      | some x =>
        have := hpl i x e
        simp only [Option.some.injEq] at this; subst this
        rw [e] at h
        simp only at h
        split at h
        · cases h
        · rename_i hc; rw [if_neg hc]; exact ih _ _ h
  simp only [execOp, Instr.buildSlice, Sem.run_bind, run_underlying h1, Result.andThen_ok, sizeOf, typeInfo, run_program, h2, Sem.run_pure, h3, Sem.run_ite]
  rw [if_neg (by omega)]
  have hz0 : ¬ n * sz = 0 := by omega
  · simp only [if_neg hz0, Sem.run_bind, zeroOf_spec hz', Result.andThen_ok, Sem.run_pure, hzz, hparts]
    rw [hrep, hfill2 _ _ _ hfill]
    rfl
end
end Sx
end Go.Proofs.Ytkofbanncacamaa
