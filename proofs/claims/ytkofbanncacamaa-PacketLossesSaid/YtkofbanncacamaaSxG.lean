/- More operations: structs compared, make, copy, unsafe.String. -/
import Derived.Test.YtkofbanncacamaaSxF
import Derived.Laws.StructEq
import Derived.Laws.MakeOwn
import Derived.Lib.UnsafeStr
namespace Go.Proofs.Ytkofbanncacamaa
namespace Sx

/-! ### Structs of scalars -/
inductive Kd where
  | b | i (k : IntKind) | s
def kdOf (P : Program) (t : TypeId) : Option Kd := match P.underlying t with
  | some .bool => some .b
  | some (.int k) => some (.i k)
  | some .string => some .s
  | _ => none
def flatF (P : Program) : List Field → Nat → Option (List Kd)
  | [], _ => some []
  | f :: fs, n => match kdOf P f.type, tyAgg P f.type, flatF P fs (n + 1) with
    | some k, some (false, 1), some r => if f.offset = n ∧ f.name ≠ "_" then some (k :: r) else none
    | _, _, _ => none
def flatK (P : Program) (t : TypeId) : Option (List Kd) := match P.underlying t with
  | some (.struct fs) => if P.stoodInHeld t || P.eqGuardType P.depth t then none else flatF P fs.toList 0
  | _ => none
inductive Scs : List Kd → List Value → Prop where
  | n : Scs [] []
  | b {x : Bool} {ks : List Kd} {vs : List Value} (h : Scs ks vs) : Scs (.b :: ks) (.bool x :: vs)
  | i {k : IntKind} {x : Int} {ks : List Kd} {vs : List Value} (h : Scs ks vs) : Scs (.i k :: ks) (.int k x :: vs)
  | s {x : ByteArray} {ks : List Kd} {vs : List Value} (h : Scs ks vs) : Scs (.s :: ks) (.string x :: vs)

theorem run_part1 {P : Program} {w : World} {t : TypeId} {xs : Array Value} {o : Nat} {v : Value} (ht : tyAgg P t = some (false, 1)) (hv : xs[o]? = some v) : (part t xs o).run P w = .ok v w := by
  have h1 := (tyAgg_spec ht w).1
  simp [part, h1, hv]
theorem kd_eq {P : Program} {w : World} {t : TypeId} {k : Kd} {x y : Value} {ks : List Kd} {xs ys : List Value} (d : Nat) (hk : kdOf P t = some k) (hx : Scs (k :: ks) (x :: xs)) (hy : Scs (k :: ks) (y :: ys)) :
    ∃ r : Bool, (Op.equalIn (d + 1) t x y).run P w = .ok r w ∧ (r = true ↔ x = y) ∧ Scs ks xs ∧ Scs ks ys := by
  unfold kdOf at hk
  cases hx with
  | b h1 => cases hy with
    | b h2 =>
      split at hk <;> cases hk
      rename_i hu
      exact ⟨_, run_equalIn_bool' w d t _ _ hu, by simp, h1, h2⟩
  | i h1 => cases hy with
    | i h2 =>
      split at hk <;> cases hk
      rename_i hu
      exact ⟨_, run_equalIn_int w d t _ _ _ _ hu, by simp, h1, h2⟩
  | s h1 => cases hy with
    | s h2 =>
      split at hk <;> cases hk
      rename_i hu
      refine ⟨_, run_equalIn_string w d t _ _ hu, ?_, h1, h2⟩
      rw [← beq_toListBytes]
      have key : ∀ a b : ByteArray, (a == b) = true ↔ a = b := by
        rintro ⟨⟨a⟩⟩ ⟨⟨b⟩⟩
        show ((⟨a⟩ : Array UInt8) == ⟨b⟩) = true ↔ _
        simp
      rw [key]; simp
theorem Scs.len {ks : List Kd} {vs : List Value} (h : Scs ks vs) : vs.length = ks.length := by
  induction h with
  | n => rfl
  | b _ ih => simp [ih]
  | i _ ih => simp [ih]
  | s _ ih => simp [ih]
theorem flat_eqF {P : Program} {w : World} (d : Nat) : ∀ (fs : List Field) (n : Nat) (ks : List Kd) (px py xs ys : List Value), flatF P fs n = some ks → px.length = n → py.length = n → Scs ks xs → Scs ks ys →
    ∃ r : Bool, (Op.eqFields (d + 1) (px ++ xs).toArray (py ++ ys).toArray fs).run P w = .ok r w ∧ (r = true ↔ xs = ys) := by
  intro fs; induction fs with
  | nil =>
    intro n ks px py xs ys hf _ _ hx hy
    simp only [flatF, Option.some.injEq] at hf; subst hf
    cases hx; cases hy
    exact ⟨true, by simp [Op.eqFields], by simp⟩
  | cons f fs ih =>
    intro n ks px py xs ys hf hpx hpy hx hy
    simp only [flatF] at hf
    split at hf
    · rename_i k r h1 h2 h3
      split at hf
      · rename_i ho
        simp only [Option.some.injEq] at hf; subst hf
        cases xs with
        | nil => cases hx
        | cons x xs =>
          cases ys with
          | nil => cases hy
          | cons y ys =>
            obtain ⟨q, e1, e2, hx', hy'⟩ := kd_eq (w := w) d h1 hx hy
            have p1 : (part f.type (px ++ x :: xs).toArray f.offset).run P w = .ok x w := run_part1 h2 (by rw [ho.1]; simp [← hpx])
            have p2 : (part f.type (py ++ y :: ys).toArray f.offset).run P w = .ok y w := run_part1 h2 (by rw [ho.1]; simp [← hpy])
            obtain ⟨r2, g1, g2⟩ := ih (n + 1) r (px ++ [x]) (py ++ [y]) xs ys h3 (by simp [hpx]) (by simp [hpy]) hx' hy'
            simp only [List.append_assoc, List.singleton_append] at g1
            simp only [Op.eqFields, if_pos ho.2, Sem.run_bind, p1, p2, e1, Result.andThen_ok, Sem.run_ite]
            cases q with
            | false =>
              refine ⟨false, by simp, ?_⟩
              have : x ≠ y := fun e => by simpa using e2.2 e
              simp [this]
            | true =>
              have : x = y := e2.1 rfl
              subst this
              exact ⟨r2, by simpa using g1, by simp [g2]⟩
      · cases hf
    · cases hf
theorem run_aggEq {P : Program} {w : World} {t : TypeId} {ks : List Kd} {xs ys : List Value} (hf : flatK P t = some ks) (hx : Scs ks xs) (hy : Scs ks ys) :
    ∃ r : Bool, (Op.equalIn 10000 t (.agg xs.toArray) (.agg ys.toArray)).run P w = .ok r w ∧ (r = true ↔ xs = ys) ∧ P.eqGuardType P.depth t = false := by
  unfold flatK at hf
  split at hf
  · rename_i fs hu
    split at hf
    · cases hf
    · rename_i hn
      simp only [Bool.or_eq_true, not_or, Bool.not_eq_true] at hn
      have hfo : P.fieldsOf t = fs := by simp [Program.fieldsOf, hu]
      obtain ⟨r, h1, h2⟩ := flat_eqF (P := P) (w := w) 9998 fs.toList 0 ks [] [] xs ys hf rfl rfl hx hy
      refine ⟨r, ?_, h2, hn.2⟩
      rw [run_equalIn_struct w 9999 t _ _ (by rw [hfo]; exact hu) hn.1, hfo]
      simpa using h1
  · cases hf
section
variable {C : Cx} {ds : List Deferred} {env : Env} {As : List HP} {d : Option Tmp} {ty : TypeId} {pos : String} {af : Array Edge} {gd : Option (Nat × Bool)} {t t' e : TypeId} {x y : Operand}
theorem ov_aggEql {ks : List Kd} {xs ys : List Value} {p : Prop} [dp : Decidable p] (hf : flatK C.P t = some ks) (hx : evo env x = some (.agg xs.toArray)) (hy : evo env y = some (.agg ys.toArray)) (h1 : Scs ks xs) (h2 : Scs ks ys) (hp : xs = ys ↔ p) :
    OpV C ds env As ⟨d, .binOp .eql t x y t', ty, pos, af, gd⟩ (.bool (decide p)) := fun a w ha hs => by
  obtain ⟨r, g1, g2, g3⟩ := run_aggEq (P := C.P) (w := w) hf h1 h2
  have hr : r = decide p := by
    by_cases q : p
    · simp [q, g2.2 (hp.2 q)]
    · simp only [q, decide_false]
      cases r with
      | false => rfl
      | true => exact absurd (hp.1 (g2.1 rfl)) q
  refine binOp_eq ha hx hy (fun b1 b2 => run_eqGuard_agg w .eql t b1 b2 _ _ g3) ?_
  rw [run_eql_struct, g1, ← hr]; rfl
theorem ov_aggNeq {ks : List Kd} {xs ys : List Value} {p : Prop} [dp : Decidable p] (hf : flatK C.P t = some ks) (hx : evo env x = some (.agg xs.toArray)) (hy : evo env y = some (.agg ys.toArray)) (h1 : Scs ks xs) (h2 : Scs ks ys) (hp : xs = ys ↔ p) :
    OpV C ds env As ⟨d, .binOp .neq t x y t', ty, pos, af, gd⟩ (.bool (!decide p)) := fun a w ha hs => by
  obtain ⟨r, g1, g2, g3⟩ := run_aggEq (P := C.P) (w := w) hf h1 h2
  have hr : r = decide p := by
    by_cases q : p
    · simp [q, g2.2 (hp.2 q)]
    · simp only [q, decide_false]
      cases r with
      | false => rfl
      | true => exact absurd (hp.1 (g2.1 rfl)) q
  refine binOp_eq ha hx hy (fun b1 b2 => run_eqGuard_agg w .neq t b1 b2 _ _ g3) ?_
  rw [run_neq_struct, g1, ← hr]; rfl
theorem ov_aggEqR {ks : List Kd} {xs ys : List Value} (hf : flatK C.P t = some ks) (hx : evo env x = some (.agg xs.toArray)) (hy : evo env y = some (.agg ys.toArray)) (h1 : Scs ks xs) (h : xs = ys) :
    OpV C ds env As ⟨d, .binOp .eql t x y t', ty, pos, af, gd⟩ (.bool true) := by
  subst h; exact ov_aggEql (p := True) hf hx hy h1 h1 (by simp)
theorem ov_aggNeR {ks : List Kd} {xs ys : List Value} (hf : flatK C.P t = some ks) (hx : evo env x = some (.agg xs.toArray)) (hy : evo env y = some (.agg ys.toArray)) (h1 : Scs ks xs) (h : xs = ys) :
    OpV C ds env As ⟨d, .binOp .neq t x y t', ty, pos, af, gd⟩ (.bool false) := by
  subst h; exact ov_aggNeq (p := True) hf hx hy h1 h1 (by simp)

/-! ### An operation that yields a value and turns atoms -/
variable {ops : Array Oper} {Q : Exit → Act → World → Prop} {o : Oper} {rest : List Oper} {op : Op} {dt : Tmp}
theorem LW.opW {v : Value} {As' : List HP} (hv : OpU C ds env As ⟨some dt, op, ty, pos, af, gd⟩ v As') (hg : wantedE ops env ⟨some dt, op, ty, pos, af, gd⟩ = some true) (hd : Nat.ble (dt + 1) C.N = true)
    (h : LW C ds ops Q rest ((dt, v) :: env) As') : LW C ds ops Q (⟨some dt, op, ty, pos, af, gd⟩ :: rest) env As := LW.opR hv hg hd (by rintro u _ ⟨rfl, rfl⟩; exact h)
theorem DO.opW {Bs : List HP} {fuel : Nat} {listed l' : Array Bool} {i : Nat} {v : Value} {As' : List HP} (js : List Nat) (hi : ops[i]? = some ⟨some dt, op, ty, pos, af, gd⟩) (hv : OpU C ds env As ⟨some dt, op, ty, pos, af, gd⟩ v As') (hg : wantedE ops env ⟨some dt, op, ty, pos, af, gd⟩ = some true) (hd : Nat.ble (dt + 1) C.N = true)
    (hok : okIdx js As'.length = true) (hB : picks js As' = Bs) (hl : listed.setIfInBounds i true = l') (h : DW C ds ops Q Bs fuel l' ((dt, v) :: env) As') : DO C ds ops Q Bs fuel listed i env As :=
  DO.opR js hi hv hg hd (by rintro u _ ⟨rfl, rfl⟩; exact ⟨hok, hB⟩) hl (by rintro u _ ⟨rfl, rfl⟩; exact h)

/-! ### make, copy, unsafe.String -/
theorem replR (zs : List Value) (sz n : Nat) (hzs : zs.length = sz) : (Array.range (n * sz)).map (fun i => zs.toArray[i % zs.toArray.size]!) = ((List.replicate n zs).flatten).toArray := by
  apply Array.ext'
  simp only [Array.toList_map, Array.toList_range, List.size_toArray]
  induction n with
  | zero => simp
  | succ n ih =>
    rw [Nat.add_mul, Nat.one_mul, List.range_add, List.map_append, ih, List.replicate_succ', List.flatten_append]
    congr 1
    apply List.ext_getElem?
    intro k
    simp only [List.flatten_cons, List.flatten_nil, List.append_nil, List.map_map, List.getElem?_map]
    by_cases hk : k < sz
    · rw [List.getElem?_range hk]
      simp only [Option.map_some, Function.comp]
      rw [hzs, Nat.add_comm, Nat.add_mul_mod_self_right, Nat.mod_eq_of_lt hk]
      rw [List.getElem?_eq_getElem (by omega)]
      simp [hzs, hk]
    · rw [List.getElem?_eq_none (by simp; omega), List.getElem?_eq_none (by omega)]; rfl
/-- make([]e, n): a row of its own -/
theorem ob_make {sz bs n : Nat} {k k' : IntKind} {zs : List Value} {As' : Nat → List HP} (hu : sliceOf C.P t = some (e, sz, bs)) (hz : zeroCells' C.P e = some zs) (hzs : zs.length = sz) (hx : evo env x = some (.int k n)) (hy : evo env y = some (.int k' n)) (hb : bs * n ≤ 281474976710656) (hn : n ≤ 4611686018427387904)
    (hA : ∀ b, App As (row b e (List.replicate n zs).flatten) (As' b)) : OpBA C ds env As ⟨d, .makeSlice t x y, ty, pos, af, gd⟩ (fun b => .slice (some ⟨b, 0, none⟩) n n) As' := fun a w ha hs => by
  obtain ⟨h1, q, h2, h3, h4⟩ := sliceOf_spec hu
  obtain ⟨z, hz', hzc⟩ := zeroCells_spec hz
  have hi : q.zero = some z := by unfold zeroOf at hz'; rw [h2] at hz'; exact hz'
  have hrun := run_make (P := C.P) w t e q z h1 h2 hi k k' n n (by omega) (by omega) (by rw [h4, ← Int.natCast_mul]; exact Int.ofNat_le.2 hb) (by omega)
  have hcells : (w.alloc (.cells (madeCells z.cells ((n : Int).toNat * q.size)) e)) = { w with heap := w.heap.push (.cells ((List.replicate n zs).flatten).toArray e) } := by
    have := replR zs sz n hzs
    rw [show z.cells = zs.toArray from by rw [← hzc], h3, Int.toNat_natCast, ← this]; rfl
  rw [hcells] at hrun
  refine ⟨_, _, { w with heap := w.heap.push (.cells ((List.replicate n zs).flatten).toArray e) }, ⟨w.heap.size, rfl, rfl⟩, .inl ?_, (hA _).spec ▸ hs.rowPush (fr := (0, 0)) (by simp) (pushNew w _) (pushOld w _), ⟨rfl, rfl, rfl⟩⟩
  simp only [execOp, ha.eval hx, ha.eval hy, Sem.run_bind, hrun, Result.andThen_ok, Sem.run_pure, Int.toNat_natCast]
/-- copy of a string's bytes into a row -/
theorem ow_copyS {bs b off n c : Nat} {l : List UInt8} {a1 a2 : Operand} {t2 : TypeId} {cs cs' : List Value} {tb : TypeId} {As' : List HP} (hu : sliceOf C.P t = some (e, 1, bs)) (hx : evo env a1 = some (.slice (some ⟨b, off, none⟩) n c)) (hy : evo env a2 = some (S l)) (hle : off + min l.length n ≤ cs.length)
    (hw : wr cs off ((l.take (min l.length n)).map bv) = cs') (hi : Rep As (row b tb cs) (row b tb cs') As') : OpU C ds env As ⟨d, .call ⟨.builtin .copy, #[a1, a2], #[t, t2]⟩, ty, pos, af, gd⟩ (.int .i64 (min l.length n : Nat)) As' := fun a w ha hs => by
  subst hw
  obtain ⟨i, h1, h2⟩ := hi.spec
  obtain ⟨g1, q, g2, g3, g4⟩ := sliceOf_spec hu
  obtain ⟨fr, hfr, hb⟩ := hs.rowGet i h1
  obtain ⟨w', k1, k2, k3, k4⟩ := storeCells_row (P := C.P) ((l.take (min l.length n)).map bv) 0 off cs w hb hfr (by simp; omega) (by intro v hv; obtain ⟨c, _, rfl⟩ := List.mem_map.1 hv; rfl)
  refine ⟨_, _, w', ⟨rfl, rfl⟩, .inl ?_, h2 ▸ hs.rowSet i h1 (wr_length _ _ _) hfr hb k2 k3, k4⟩
  have hfc : (Builtin.firstCells 1 (min l.length n) (S l)).run C.P w = .ok ((l.take (min l.length n)).map bv).toArray w := by
    have e : (⟨l.toArray⟩ : ByteArray).extract 0 (min l.length n) = ⟨(l.take (min l.length n)).toArray⟩ := by
      have := Lib.extract_eq ⟨l.toArray⟩ 0 (min l.length n)
      rw [this]; simp
    simp only [Builtin.firstCells, S, e, Sem.run_pure]
    simp; intros; rfl
  have hlen : (Builtin.lenOf (S l)).run C.P w = .ok l.length w := rfl
  simp only [execOp, resolve, invoke, builtin, List.map_toArray, List.map_cons, List.map_nil, ha.eval hx, ha.eval hy, Builtin.copy_, List.getElem?_toArray, List.getElem?_cons_zero, List.getElem?_cons_succ, Sem.run_bind, run_underlying g1, Result.andThen_ok, sizeOf, typeInfo, run_program, g2, Sem.run_pure, hlen, g3, Nat.min_def] at hfc ⊢
  rw [hfc]
  simp only [Result.andThen_ok, k1, Sem.run_bind, Sem.run_pure, goInt, Nat.min_def] at k1 ⊢
/-- unsafe.String of a whole row: it may be written no more -/
theorem ow_unsafeStr {b : Nat} {l : List UInt8} {a1 a2 : Operand} {t2 : TypeId} {As' : List HP} (hu : C.P.underlying t = some (.pointer e)) (hc : C.P.cellsOf e = 1) (hx : evo env a1 = some (.pointer (some ⟨b, 0, none⟩))) (hy : evo env a2 = some (.int .i64 l.length)) (hl : 0 < l.length) (hl2 : l.length ≤ 9223372036854775807)
    (hi : Rep As (row b e (l.map bv)) emp As') : OpU C ds env As ⟨d, .call ⟨.builtin .unsafeString, #[a1, a2], #[t, t2]⟩, ty, pos, af, gd⟩ (S l) As' := fun a w ha hs => by
  obtain ⟨i, h1, h2⟩ := hi.spec
  obtain ⟨fr, hfr, hb⟩ := hs.rowGet i h1
  have hsh : w.shape? b = some (e, l.length) := by simp [World.shape?, hb]
  have hrun := Lib.run_unsafeString_row (P := C.P) w t t2 ty e hu hc b l.length hsh l (by intro q; subst q; simp at hl) (Nat.le_refl _) hl2 (fun j v hj => by
    rw [addr_add, Nat.zero_add, cellOf hb, List.getElem?_map, hj]; rfl)
  obtain ⟨g, ⟨fr', hfr', hg⟩, hs2⟩ := hs.take i h1
  have hli := lt_of_get h1
  have hpt : (As.set i (ex g))[i]? = some (pts b (.cells ((l.map bv)).toArray e fr')) := by
    rw [List.getElem?_set_self hli]; subst hg; rfl
  have hbo := hs2.get i hpt
  let w' := w.freeze ⟨b, 0, none⟩ l.length
  have hh : ∀ k, k ≠ b → w'.heap[k]? = w.heap[k]? := by
    intro k hk; simp only [w', World.freeze]; split <;> simp [Array.getElem?_modify, Ne.symm hk]
  obtain ⟨o', ho'⟩ : ∃ o', w'.heap[b]? = some o' := by
    have : b < w'.heap.size := by
      have h3 : w'.heap.size = w.heap.size := by simp only [w', World.freeze]; split <;> simp
      rw [h3]; exact (Array.getElem?_eq_some_iff.1 hbo).1
    exact ⟨_, Array.getElem?_eq_getElem this⟩
  have h5 := (hs2.setHeap (w' := w') i hpt ho' hh).imp i (B := emp) (by rw [List.getElem?_set_self (by simpa using hli)]) (fun _ _ => trivial)
  rw [List.set_set, List.set_set, h2] at h5
  refine ⟨_, _, w', ⟨rfl, rfl⟩, .inl ?_, h5, ?_⟩
  · simp only [execOp, resolve, invoke, builtin, List.map_toArray, List.map_cons, List.map_nil, ha.eval hx, ha.eval hy, Sem.run_bind, hrun, Result.andThen_ok, Sem.run_pure]
    rfl
  · simp only [w', World.freeze]; split <;> exact ⟨rfl, rfl, rfl⟩
theorem ov_max {m n : Int} {k : IntKind} {ats : Array TypeId} (hx : evo env x = some (.int k m)) (hy : evo env y = some (.int k n)) : OpV C ds env As ⟨d, .call ⟨.builtin .max, #[x, y], ats⟩, ty, pos, af, gd⟩ (.int k (max m n)) := fun a w ha hs => by
  have : (if m < n then n else m) = max m n := by omega
  simp [execOp, resolve, invoke, builtin, ha.eval hx, ha.eval hy, Builtin.max_, Builtin.max2, this]
end
end Sx
end Go.Proofs.Ytkofbanncacamaa
