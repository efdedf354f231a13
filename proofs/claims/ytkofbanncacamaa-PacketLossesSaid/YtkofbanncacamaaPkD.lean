/- Package perigeeref09: the reference's joiner: at, Open, Feed; and packet's Open. -/
import Derived.Test.YtkofbanncacamaaPkC
namespace Go.Proofs.Ytkofbanncacamaa
namespace Sx

abbrev Re := Int × Int × Bool × List UInt8
def rcells (e : Re) : List Value := [.int .i64 e.1, .int .i64 e.2.1, .bool e.2.2.1, S e.2.2.2]
def rkn (e : Re) : Kn := ⟨e.2.1, if e.2.2.1 then some e.2.2.2 else none⟩
def stR (R : List Re) : List (Int × Kn) := R.map fun e => (e.1, rkn e)
def rflat (R : List Re) : List Value := flat (R.map rcells)
def RA (rb : Nat) (R : List Re) : HP := Ex fun p : Option Addr × Nat => star (row rb 29 [.slice p.1 R.length p.2]) (ownS 63 4 (.slice p.1 R.length p.2) R.length (rflat R))
theorem KW.openR {C : Cx} {ds : List Deferred} {env : Env} {As : List HP} {K : Act → World → Prop} {rb : Nat} {R : List Re} (i : Nat) (hi : As[i]? = some (RA rb R))
    (h : ∀ ad c, KW C ds K env (As.set i (row rb 29 [.slice ad R.length c]) ++ [ownS 63 4 (.slice ad R.length c) R.length (rflat R)])) : KW C ds K env As := by
  have hl := lt_of_get hi
  refine KW.turnEx i hi fun p => ?_
  intro a w ha hs hw
  have h1 := hs.split i (by rw [List.getElem?_set_self hl])
  rw [List.set_set] at h1
  exact h p.1 p.2 a w ha h1 hw
theorem RA.mk' {w : World} {rb : Nat} {R : List Re} {ad : Option Addr} {c : Nat} {Bs : List HP} (h : Sat w (Bs ++ [row rb 29 [.slice ad R.length c], ownS 63 4 (.slice ad R.length c) R.length (rflat R)])) : Sat w (Bs ++ [RA rb R]) := by
  have h1 := h.join Bs.length (Bs.length + 1) (A := row rb 29 [.slice ad R.length c]) (B := ownS 63 4 (.slice ad R.length c) R.length (rflat R)) (by simp) (by simp) (by omega)
  have h2 := h1.imp Bs.length (A := star (row rb 29 [.slice ad R.length c]) (ownS 63 4 (.slice ad R.length c) R.length (rflat R))) (B := RA rb R) (by simp) (fun g hg => ⟨(ad, c), hg⟩)
  have e : (((Bs ++ [row rb 29 [.slice ad R.length c], ownS 63 4 (.slice ad R.length c) R.length (rflat R)]).set Bs.length (star (row rb 29 [.slice ad R.length c]) (ownS 63 4 (.slice ad R.length c) R.length (rflat R)))).set (Bs.length + 1) emp).set Bs.length (RA rb R) = Bs ++ [RA rb R] ++ [emp] := by
    rw [List.set_append_right _ _ (by omega)]
    simp
  rw [e] at h2
  obtain ⟨H, al⟩ := h2
  exact ⟨H, fun i A hi => al.ok i A (by rw [List.getElem?_append_left (lt_of_get hi)]; exact hi), fun i j hi hj hij => al.dj i j (by rw [List.length_append]; omega) (by rw [List.length_append]; omega) hij, fun i hi => al.inn i (by rw [List.length_append]; omega)⟩
theorem rcells_len (R : List Re) : ∀ e ∈ R.map rcells, e.length = 4 := by
  intro e he; obtain ⟨r, _, rfl⟩ := List.mem_map.1 he; rfl
theorem rflat_get {R : List Re} {k : Nat} (hk : k < R.length) (extra : List Value) (j : Nat) (hj : j < 4) : (rflat R ++ extra)[0 + k * 4 + j]? = (rcells R[k])[j]? := by
  have h1 : (rflat R).length = R.length * 4 := by have := flat_len (rcells_len R); simpa [rflat] using this
  have h2 : (R.map rcells)[k]? = some (rcells R[k]) := by simp [hk]
  have h3 : j < (rcells R[k]).length := hj
  rw [List.getElem?_append_left (by omega), Nat.zero_add, List.getElem?_eq_getElem h3]
  exact flat_get (rcells_len R) h2 (List.getElem?_eq_getElem h3)

/-- the place of an APID, from k on -/
def rfind (a : Int) : List Re → Nat → Option Nat
  | [], _ => none
  | e :: r, k => if e.1 = a then some k else rfind a r (k + 1)
theorem rfind_drop {a : Int} {R : List Re} {k : Nat} (hk : k < R.length) : rfind a (R.drop k) k = if R[k].1 = a then some k else rfind a (R.drop (k + 1)) (k + 1) := by
  rw [List.drop_eq_getElem_cons hk]; rfl

theorem at_ok {rb : Nat} {R : List Re} {a : Int} (hR : R.length ≤ 1000000) : Fn Try.prog 20 #[.pointer (some ⟨rb, 0, none⟩), .int .i64 a] [RA rb R]
    (Ret fun v Q => match rfind a R 0 with
      | some i => v = .tuple #[.int .i64 i, .bool false] ∧ Q = [RA rb R]
      | none => v = .tuple #[.int .i64 R.length, .bool true] ∧ Q = [RA rb (R ++ [(a, 0, false, [])])]) := by
  refine Fn.of (args := _) Try.func20 rfl Try.ntmps20 rfl ?_
  intro w0 g0
  refine KW.openR 1 rfl fun ad c => ?_
  simp only [List.set_cons_succ, List.set_cons_zero, List.cons_append, List.nil_append]
  refine CW.seq ?_
  refine CW.region ?_
  refine LW.opV (ov_assign rfl) rfl rfl ?_
  refine LW.opV (ov_assign rfl) rfl rfl ?_
  refine LW.nil ?_
  refine KW.thenN ?_
  refine CW.seq ?_
  refine CW.seq ?_
  refine CW.region ?_
  refine LW.opV (ov_assign rfl) rfl rfl ?_
  refine LW.nil ?_
  refine KW.thenN ?_
  refine CW.block ?_
  refine CW.loopW (fun n env As => ∃ k : Nat, k + n = R.length ∧ rfind a (R.drop k) k = rfind a R 0 ∧ env = [(0, .pointer (some ⟨rb, 0, none⟩)), (1, .int .i64 a), (6, .int .i64 k)] ∧ As = [ex g0, row rb 29 [.slice ad R.length c], ownS 63 4 (.slice ad R.length c) R.length (rflat R)]) R.length [0, 1, 2] ⟨0, by simp, rfl, rfl, rfl⟩ ⟨rfl, rfl, rfl, trivial⟩ rfl rfl ?_
  rintro n _ _ ⟨k, hkn, hfd, rfl, rfl⟩
  refine CW.seq ?_
  refine CW.seq ?_
  refine CW.region ?_
  refine LW.opV (ov_move rfl) rfl rfl ?_
  refine LW.opV (ov_move rfl) rfl rfl ?_
  first | refine LW.opV (ov_nilP rfl) rfl rfl ?_ | refine LW.opV (ov_nilF rfl) rfl rfl ?_
  refine LW.opV (ov_fieldAddr fo29_0 rfl) rfl rfl ?_
  refine LW.opV (ov_loadR 1 ta27 rfl rfl rfl) rfl rfl ?_
  refine LW.opV (ov_lenL so27 rfl) rfl rfl ?_
  refine LW.opV (ov_lss rfl rfl) rfl rfl ?_
  refine LW.nil ?_
  refine KW.thenN ?_
  refine CW.condD (by rfl) (fun h => ?_) (fun h => ?_)
  · have hk : k < R.length := by omega
    rw [rfind_drop hk] at hfd
    refine KW.own 2 rfl (fun _ h0 => by omega) fun b c' extra hv hnc hxl hcl => ?_
    obtain ⟨rfl, rfl⟩ : ad = some ⟨b, 0, none⟩ ∧ c = c' := by simpa using hv
    simp only [List.set_cons_succ, List.set_cons_zero]
    refine CW.skip ?_
    refine KW.thenN ?_
    refine CW.seq ?_
    refine CW.block ?_
    refine CW.seq ?_
    refine CW.region ?_
    refine LW.opV (ov_move rfl) rfl rfl ?_
    first | refine LW.opV (ov_nilP rfl) rfl rfl ?_ | refine LW.opV (ov_nilF rfl) rfl rfl ?_
    refine LW.opV (ov_fieldAddr fo29_0 rfl) rfl rfl ?_
    refine LW.opV (ov_loadR 1 ta27 rfl rfl rfl) rfl rfl ?_
    refine LW.opV (ov_move rfl) rfl rfl ?_
    refine LW.opV (ov_idxL so27 rfl rfl rfl (by omega)) rfl rfl ?_
    refine LW.opV (ov_fieldAddr fo63_0 rfl) rfl rfl ?_
    refine LW.opV (ov_load ta3 rfl (fun w hs => (hs.cell 2 rfl _).trans (rflat_get hk extra 0 (by omega)))) rfl rfl ?_
    refine LW.opV (ov_move rfl) rfl rfl ?_
    refine LW.opV (ov_eql rfl rfl) rfl rfl ?_
    refine LW.nil ?_
    refine KW.thenN ?_
    refine CW.condD (by rfl) (fun ha => ?_) (fun ha => ?_)
    · refine CW.seq ?_
      refine CW.region ?_
      refine LW.opV (ov_move rfl) rfl rfl ?_
      refine LW.opV (ov_assign rfl) rfl rfl ?_
      refine LW.opV (ov_assign rfl) rfl rfl ?_
      refine LW.nil ?_
      refine KW.thenN ?_
      refine CW.ret ?_
      refine KW.blockR ?_
      refine KW.thenR ?_
      refine KW.thenR ?_
      refine KW.blockR ?_
      refine KW.thenR ?_
      rw [if_pos ha] at hfd
      rw [← hfd]
      exact KW.retE (.cons (.tmp rfl) (.cons (.tmp rfl) .nil)) fun w hs hw => ⟨_, ⟨rfl, rfl⟩, RA.mk' (Bs := [ex g0]) (hs.imp 2 rfl (own_row hnc hxl hcl)), hw⟩
    · rw [if_neg ha] at hfd
      refine KW.turn (fun w hs => hs.imp 2 rfl (own_row hnc hxl hcl)) ?_
      simp only [List.set_cons_succ, List.set_cons_zero]
      refine CW.skip ?_
      refine KW.blockN ?_
      refine KW.thenN ?_
      refine CW.region ?_
      refine LW.opV (ov_move rfl) rfl rfl ?_
      first | refine LW.opV (ov_add rfl rfl (by omega)) rfl rfl ?_ | refine LW.opV (ov_addW rfl rfl) rfl rfl ?_
      refine LW.opV (ov_assign rfl) rfl rfl ?_
      refine LW.nil ?_
      exact KW.again (n - 1) [0, 1, 2] (by omega) ⟨k + 1, by omega, hfd, rfl, rfl⟩ ⟨rfl, rfl, rfl, trivial⟩ rfl rfl
  · have hk : k = R.length := by omega
    subst hk
    refine CW.exit ?_
    refine KW.thenX ?_
    refine KW.thenX ?_
    refine KW.hit ?_
    refine KW.thenN ?_
    refine CW.seq ?_
    refine CW.region ?_
    refine LW.opV (ov_move rfl) rfl rfl ?_
    refine LW.opV (ov_move rfl) rfl rfl ?_
    first | refine LW.opV (ov_nilP rfl) rfl rfl ?_ | refine LW.opV (ov_nilF rfl) rfl rfl ?_
    refine LW.opV (ov_fieldAddr fo29_0 rfl) rfl rfl ?_
    refine LW.opV (ov_loadR 1 ta27 rfl rfl rfl) rfl rfl ?_
    refine LW.opV (ov_move rfl) rfl rfl ?_
    refine LW.opV (ov_build zc63 pl63 rfl (.c rfl (.one rfl) rfl (.h (.n)) (.n))) rfl rfl ?_
    refine LW.opBA (ob_buildSlice so27 zc63 rfl (by decide) rfl (.c rfl .agg rfl (.h (.h (.h (.h (.n))))) (.n)) (fun _ => .c (.c (.c (.n))))) rfl rfl (fun b34 => ?_)
    refine LW.opX (ox_appR 3 so27 zo63 rfl so27 rfl rfl rfl rfl rfl (by omega) (by omega) (by omega) (fun _ => (.t (.t (.h))))) rfl rfl (fun a35 c35 => ?_)
    first | refine LW.opV (ov_nilP rfl) rfl rfl ?_ | refine LW.opV (ov_nilF rfl) rfl rfl ?_
    refine LW.opV (ov_fieldAddr fo29_0 rfl) rfl rfl ?_
    refine LW.opU (ou_storeW ta27 rfl rfl (.one rfl) rfl rfl (.h (.n)) (.t (.h))) rfl ?_
    refine LW.nil ?_
    refine KW.thenN ?_
    refine CW.seq ?_
    refine CW.region ?_
    refine LW.opV (ov_move rfl) rfl rfl ?_
    first | refine LW.opV (ov_nilP rfl) rfl rfl ?_ | refine LW.opV (ov_nilF rfl) rfl rfl ?_
    refine LW.opV (ov_fieldAddr fo29_0 rfl) rfl rfl ?_
    refine LW.opV (ov_loadR 1 ta27 rfl rfl rfl) rfl rfl ?_
    refine LW.opV (ov_lenL so27 rfl) rfl rfl ?_
    first | refine LW.opV (ov_sub rfl rfl (by omega)) rfl rfl ?_ | refine LW.opV (ov_subW rfl rfl) rfl rfl ?_
    refine LW.opV (ov_assign rfl) rfl rfl ?_
    refine LW.opV (ov_assign rfl) rfl rfl ?_
    refine LW.nil ?_
    refine KW.thenN ?_
    refine CW.ret ?_
    rw [← hfd]
    simp only [List.drop_length, rfind]
    refine KW.retE (.cons (.tmp rfl) (.cons (.tmp rfl) .nil)) fun w hs hw => ⟨_, ⟨?_, rfl⟩, RA.mk' (Bs := [ex g0]) (R := R ++ [(a, 0, false, [])]) (ad := a35) (c := c35) ?_, hw⟩
    · simp [packV]
    · have := hs.picks [0, 1, 2] rfl
      simpa [rflat, flat, picks, nth, rcells] using this

theorem RValid_ok (p : Pk) : Fn Try.prog 19 #[pkv p] [] (Ret fun v Q => v = .bool (decide p.ok) ∧ Q = []) := by
  refine Fn.of (args := _) Try.func19 rfl Try.ntmps19 rfl ?_
  intro w0 g0
  refine CW.seq ?_
  refine CW.region ?_
  refine LW.opBA (ob_box rfl .agg (fun _ => .c (.n))) rfl rfl (fun b1 => ?_)
  refine LW.opV (ov_assign rfl) rfl rfl ?_
  refine LW.nil ?_
  refine KW.thenN ?_
  refine CW.seq ?_
  refine CW.region ?_
  refine LW.opV (ov_fieldAddr fo34_1 rfl) rfl rfl ?_
  refine LW.opV (ov_loadR 1 ta3 rfl rfl rfl) rfl rfl ?_
  refine LW.opV (ov_geq rfl rfl) rfl rfl ?_
  refine LW.opV (ov_move rfl) rfl rfl ?_
  first | refine KW.splitD 6 rfl (fun h6 => ?_) (fun h6 => ?_) | refine KW.split 6 rfl (fun h6 => ?_) (fun h6 => ?_)
  · refine LW.opV (ov_fieldAddr fo34_1 rfl) rfl rfl ?_
    refine LW.opV (ov_loadR 1 ta3 rfl rfl rfl) rfl rfl ?_
    refine LW.opV (ov_leq rfl rfl) rfl rfl ?_
    first | refine LW.opV (ov_pickT rfl rfl) rfl rfl ?_ | refine LW.opV (ov_pickF rfl rfl) rfl rfl ?_ | refine LW.opV (ov_pick rfl rfl rfl) rfl rfl ?_
    refine LW.opV (ov_move rfl) rfl rfl ?_
    first | refine KW.splitD 11 rfl (fun h11 => ?_) (fun h11 => ?_) | refine KW.split 11 rfl (fun h11 => ?_) (fun h11 => ?_)
    · refine LW.opV (ov_fieldAddr fo34_2 rfl) rfl rfl ?_
      refine LW.opV (ov_loadR 1 ta3 rfl rfl rfl) rfl rfl ?_
      refine LW.opV (ov_geq rfl rfl) rfl rfl ?_
      first | refine LW.opV (ov_pickT rfl rfl) rfl rfl ?_ | refine LW.opV (ov_pickF rfl rfl) rfl rfl ?_ | refine LW.opV (ov_pick rfl rfl rfl) rfl rfl ?_
      refine LW.opV (ov_move rfl) rfl rfl ?_
      first | refine KW.splitD 16 rfl (fun h16 => ?_) (fun h16 => ?_) | refine KW.split 16 rfl (fun h16 => ?_) (fun h16 => ?_)
      · refine LW.opV (ov_fieldAddr fo34_2 rfl) rfl rfl ?_
        refine LW.opV (ov_loadR 1 ta3 rfl rfl rfl) rfl rfl ?_
        refine LW.opV (ov_leq rfl rfl) rfl rfl ?_
        first | refine LW.opV (ov_pickT rfl rfl) rfl rfl ?_ | refine LW.opV (ov_pickF rfl rfl) rfl rfl ?_ | refine LW.opV (ov_pick rfl rfl rfl) rfl rfl ?_
        refine LW.opV (ov_move rfl) rfl rfl ?_
        first | refine KW.splitD 21 rfl (fun h21 => ?_) (fun h21 => ?_) | refine KW.split 21 rfl (fun h21 => ?_) (fun h21 => ?_)
        · refine LW.opV (ov_fieldAddr fo34_3 rfl) rfl rfl ?_
          refine LW.opV (ov_loadR 1 ta3 rfl rfl rfl) rfl rfl ?_
          refine LW.opV (ov_geq rfl rfl) rfl rfl ?_
          first | refine LW.opV (ov_pickT rfl rfl) rfl rfl ?_ | refine LW.opV (ov_pickF rfl rfl) rfl rfl ?_ | refine LW.opV (ov_pick rfl rfl rfl) rfl rfl ?_
          refine LW.opV (ov_move rfl) rfl rfl ?_
          first | refine KW.splitD 26 rfl (fun h26 => ?_) (fun h26 => ?_) | refine KW.split 26 rfl (fun h26 => ?_) (fun h26 => ?_)
          · refine LW.opV (ov_fieldAddr fo34_3 rfl) rfl rfl ?_
            refine LW.opV (ov_loadR 1 ta3 rfl rfl rfl) rfl rfl ?_
            refine LW.opV (ov_leq rfl rfl) rfl rfl ?_
            first | refine LW.opV (ov_pickT rfl rfl) rfl rfl ?_ | refine LW.opV (ov_pickF rfl rfl) rfl rfl ?_ | refine LW.opV (ov_pick rfl rfl rfl) rfl rfl ?_
            refine LW.opV (ov_move rfl) rfl rfl ?_
            first | refine KW.splitD 31 rfl (fun h31 => ?_) (fun h31 => ?_) | refine KW.split 31 rfl (fun h31 => ?_) (fun h31 => ?_)
            · refine LW.opV (ov_fieldAddr fo34_4 rfl) rfl rfl ?_
              refine LW.opV (ov_loadR 1 ta9 rfl rfl rfl) rfl rfl ?_
              refine LW.opV (ov_lenS un9 rfl) rfl rfl ?_
              refine LW.opV (ov_geq rfl rfl) rfl rfl ?_
              first | refine LW.opV (ov_pickT rfl rfl) rfl rfl ?_ | refine LW.opV (ov_pickF rfl rfl) rfl rfl ?_ | refine LW.opV (ov_pick rfl rfl rfl) rfl rfl ?_
              refine LW.opV (ov_move rfl) rfl rfl ?_
              first | refine KW.splitD 37 rfl (fun h37 => ?_) (fun h37 => ?_) | refine KW.split 37 rfl (fun h37 => ?_) (fun h37 => ?_)
              · refine LW.opV (ov_fieldAddr fo34_4 rfl) rfl rfl ?_
                refine LW.opV (ov_loadR 1 ta9 rfl rfl rfl) rfl rfl ?_
                refine LW.opV (ov_lenS un9 rfl) rfl rfl ?_
                refine LW.opV (ov_leq rfl rfl) rfl rfl ?_
                first | refine LW.opV (ov_pickT rfl rfl) rfl rfl ?_ | refine LW.opV (ov_pickF rfl rfl) rfl rfl ?_ | refine LW.opV (ov_pick rfl rfl rfl) rfl rfl ?_
                refine LW.opV (ov_assign rfl) rfl rfl ?_
                refine LW.nil ?_
                refine KW.thenN ?_
                refine CW.ret ?_
                exact KW.retF (.cons (.tmp rfl) .nil) [] rfl rfl ⟨congrArg Value.bool (by first | exact (decide_eq_false (by unfold Pk.ok; omega)).symm | exact decide_eq_decide.2 (by unfold Pk.ok; omega)), rfl⟩
              · refine LW.skip rfl rfl ?_
                refine LW.skip rfl rfl ?_
                refine LW.skip rfl rfl ?_
                refine LW.skip rfl rfl ?_
                first | refine LW.opV (ov_pickT rfl rfl) rfl rfl ?_ | refine LW.opV (ov_pickF rfl rfl) rfl rfl ?_ | refine LW.opV (ov_pick rfl rfl rfl) rfl rfl ?_
                refine LW.opV (ov_assign rfl) rfl rfl ?_
                refine LW.nil ?_
                refine KW.thenN ?_
                refine CW.ret ?_
                exact KW.retF (.cons (.tmp rfl) .nil) [] rfl rfl ⟨congrArg Value.bool (by first | exact (decide_eq_false (by unfold Pk.ok; omega)).symm | exact decide_eq_decide.2 (by unfold Pk.ok; omega)), rfl⟩
            · refine LW.skip rfl rfl ?_
              refine LW.skip rfl rfl ?_
              refine LW.skip rfl rfl ?_
              refine LW.skip rfl rfl ?_
              first | refine LW.opV (ov_pickT rfl rfl) rfl rfl ?_ | refine LW.opV (ov_pickF rfl rfl) rfl rfl ?_ | refine LW.opV (ov_pick rfl rfl rfl) rfl rfl ?_
              refine LW.opV (ov_move rfl) rfl rfl ?_
              refine LW.skip rfl rfl ?_
              refine LW.skip rfl rfl ?_
              refine LW.skip rfl rfl ?_
              refine LW.skip rfl rfl ?_
              first | refine LW.opV (ov_pickT rfl rfl) rfl rfl ?_ | refine LW.opV (ov_pickF rfl rfl) rfl rfl ?_ | refine LW.opV (ov_pick rfl rfl rfl) rfl rfl ?_
              refine LW.opV (ov_assign rfl) rfl rfl ?_
              refine LW.nil ?_
              refine KW.thenN ?_
              refine CW.ret ?_
              exact KW.retF (.cons (.tmp rfl) .nil) [] rfl rfl ⟨congrArg Value.bool (by first | exact (decide_eq_false (by unfold Pk.ok; omega)).symm | exact decide_eq_decide.2 (by unfold Pk.ok; omega)), rfl⟩
          · refine LW.skip rfl rfl ?_
            refine LW.skip rfl rfl ?_
            refine LW.skip rfl rfl ?_
            first | refine LW.opV (ov_pickT rfl rfl) rfl rfl ?_ | refine LW.opV (ov_pickF rfl rfl) rfl rfl ?_ | refine LW.opV (ov_pick rfl rfl rfl) rfl rfl ?_
            refine LW.opV (ov_move rfl) rfl rfl ?_
            refine LW.skip rfl rfl ?_
            refine LW.skip rfl rfl ?_
            refine LW.skip rfl rfl ?_
            refine LW.skip rfl rfl ?_
            first | refine LW.opV (ov_pickT rfl rfl) rfl rfl ?_ | refine LW.opV (ov_pickF rfl rfl) rfl rfl ?_ | refine LW.opV (ov_pick rfl rfl rfl) rfl rfl ?_
            refine LW.opV (ov_move rfl) rfl rfl ?_
            refine LW.skip rfl rfl ?_
            refine LW.skip rfl rfl ?_
            refine LW.skip rfl rfl ?_
            refine LW.skip rfl rfl ?_
            first | refine LW.opV (ov_pickT rfl rfl) rfl rfl ?_ | refine LW.opV (ov_pickF rfl rfl) rfl rfl ?_ | refine LW.opV (ov_pick rfl rfl rfl) rfl rfl ?_
            refine LW.opV (ov_assign rfl) rfl rfl ?_
            refine LW.nil ?_
            refine KW.thenN ?_
            refine CW.ret ?_
            exact KW.retF (.cons (.tmp rfl) .nil) [] rfl rfl ⟨congrArg Value.bool (by first | exact (decide_eq_false (by unfold Pk.ok; omega)).symm | exact decide_eq_decide.2 (by unfold Pk.ok; omega)), rfl⟩
        · refine LW.skip rfl rfl ?_
          refine LW.skip rfl rfl ?_
          refine LW.skip rfl rfl ?_
          first | refine LW.opV (ov_pickT rfl rfl) rfl rfl ?_ | refine LW.opV (ov_pickF rfl rfl) rfl rfl ?_ | refine LW.opV (ov_pick rfl rfl rfl) rfl rfl ?_
          refine LW.opV (ov_move rfl) rfl rfl ?_
          refine LW.skip rfl rfl ?_
          refine LW.skip rfl rfl ?_
          refine LW.skip rfl rfl ?_
          first | refine LW.opV (ov_pickT rfl rfl) rfl rfl ?_ | refine LW.opV (ov_pickF rfl rfl) rfl rfl ?_ | refine LW.opV (ov_pick rfl rfl rfl) rfl rfl ?_
          refine LW.opV (ov_move rfl) rfl rfl ?_
          refine LW.skip rfl rfl ?_
          refine LW.skip rfl rfl ?_
          refine LW.skip rfl rfl ?_
          refine LW.skip rfl rfl ?_
          first | refine LW.opV (ov_pickT rfl rfl) rfl rfl ?_ | refine LW.opV (ov_pickF rfl rfl) rfl rfl ?_ | refine LW.opV (ov_pick rfl rfl rfl) rfl rfl ?_
          refine LW.opV (ov_move rfl) rfl rfl ?_
          refine LW.skip rfl rfl ?_
          refine LW.skip rfl rfl ?_
          refine LW.skip rfl rfl ?_
          refine LW.skip rfl rfl ?_
          first | refine LW.opV (ov_pickT rfl rfl) rfl rfl ?_ | refine LW.opV (ov_pickF rfl rfl) rfl rfl ?_ | refine LW.opV (ov_pick rfl rfl rfl) rfl rfl ?_
          refine LW.opV (ov_assign rfl) rfl rfl ?_
          refine LW.nil ?_
          refine KW.thenN ?_
          refine CW.ret ?_
          exact KW.retF (.cons (.tmp rfl) .nil) [] rfl rfl ⟨congrArg Value.bool (by first | exact (decide_eq_false (by unfold Pk.ok; omega)).symm | exact decide_eq_decide.2 (by unfold Pk.ok; omega)), rfl⟩
      · refine LW.skip rfl rfl ?_
        refine LW.skip rfl rfl ?_
        refine LW.skip rfl rfl ?_
        first | refine LW.opV (ov_pickT rfl rfl) rfl rfl ?_ | refine LW.opV (ov_pickF rfl rfl) rfl rfl ?_ | refine LW.opV (ov_pick rfl rfl rfl) rfl rfl ?_
        refine LW.opV (ov_move rfl) rfl rfl ?_
        refine LW.skip rfl rfl ?_
        refine LW.skip rfl rfl ?_
        refine LW.skip rfl rfl ?_
        first | refine LW.opV (ov_pickT rfl rfl) rfl rfl ?_ | refine LW.opV (ov_pickF rfl rfl) rfl rfl ?_ | refine LW.opV (ov_pick rfl rfl rfl) rfl rfl ?_
        refine LW.opV (ov_move rfl) rfl rfl ?_
        refine LW.skip rfl rfl ?_
        refine LW.skip rfl rfl ?_
        refine LW.skip rfl rfl ?_
        first | refine LW.opV (ov_pickT rfl rfl) rfl rfl ?_ | refine LW.opV (ov_pickF rfl rfl) rfl rfl ?_ | refine LW.opV (ov_pick rfl rfl rfl) rfl rfl ?_
        refine LW.opV (ov_move rfl) rfl rfl ?_
        refine LW.skip rfl rfl ?_
        refine LW.skip rfl rfl ?_
        refine LW.skip rfl rfl ?_
        refine LW.skip rfl rfl ?_
        first | refine LW.opV (ov_pickT rfl rfl) rfl rfl ?_ | refine LW.opV (ov_pickF rfl rfl) rfl rfl ?_ | refine LW.opV (ov_pick rfl rfl rfl) rfl rfl ?_
        refine LW.opV (ov_move rfl) rfl rfl ?_
        refine LW.skip rfl rfl ?_
        refine LW.skip rfl rfl ?_
        refine LW.skip rfl rfl ?_
        refine LW.skip rfl rfl ?_
        first | refine LW.opV (ov_pickT rfl rfl) rfl rfl ?_ | refine LW.opV (ov_pickF rfl rfl) rfl rfl ?_ | refine LW.opV (ov_pick rfl rfl rfl) rfl rfl ?_
        refine LW.opV (ov_assign rfl) rfl rfl ?_
        refine LW.nil ?_
        refine KW.thenN ?_
        refine CW.ret ?_
        exact KW.retF (.cons (.tmp rfl) .nil) [] rfl rfl ⟨congrArg Value.bool (by first | exact (decide_eq_false (by unfold Pk.ok; omega)).symm | exact decide_eq_decide.2 (by unfold Pk.ok; omega)), rfl⟩
    · refine LW.skip rfl rfl ?_
      refine LW.skip rfl rfl ?_
      refine LW.skip rfl rfl ?_
      first | refine LW.opV (ov_pickT rfl rfl) rfl rfl ?_ | refine LW.opV (ov_pickF rfl rfl) rfl rfl ?_ | refine LW.opV (ov_pick rfl rfl rfl) rfl rfl ?_
      refine LW.opV (ov_move rfl) rfl rfl ?_
      refine LW.skip rfl rfl ?_
      refine LW.skip rfl rfl ?_
      refine LW.skip rfl rfl ?_
      first | refine LW.opV (ov_pickT rfl rfl) rfl rfl ?_ | refine LW.opV (ov_pickF rfl rfl) rfl rfl ?_ | refine LW.opV (ov_pick rfl rfl rfl) rfl rfl ?_
      refine LW.opV (ov_move rfl) rfl rfl ?_
      refine LW.skip rfl rfl ?_
      refine LW.skip rfl rfl ?_
      refine LW.skip rfl rfl ?_
      first | refine LW.opV (ov_pickT rfl rfl) rfl rfl ?_ | refine LW.opV (ov_pickF rfl rfl) rfl rfl ?_ | refine LW.opV (ov_pick rfl rfl rfl) rfl rfl ?_
      refine LW.opV (ov_move rfl) rfl rfl ?_
      refine LW.skip rfl rfl ?_
      refine LW.skip rfl rfl ?_
      refine LW.skip rfl rfl ?_
      first | refine LW.opV (ov_pickT rfl rfl) rfl rfl ?_ | refine LW.opV (ov_pickF rfl rfl) rfl rfl ?_ | refine LW.opV (ov_pick rfl rfl rfl) rfl rfl ?_
      refine LW.opV (ov_move rfl) rfl rfl ?_
      refine LW.skip rfl rfl ?_
      refine LW.skip rfl rfl ?_
      refine LW.skip rfl rfl ?_
      refine LW.skip rfl rfl ?_
      first | refine LW.opV (ov_pickT rfl rfl) rfl rfl ?_ | refine LW.opV (ov_pickF rfl rfl) rfl rfl ?_ | refine LW.opV (ov_pick rfl rfl rfl) rfl rfl ?_
      refine LW.opV (ov_move rfl) rfl rfl ?_
      refine LW.skip rfl rfl ?_
      refine LW.skip rfl rfl ?_
      refine LW.skip rfl rfl ?_
      refine LW.skip rfl rfl ?_
      first | refine LW.opV (ov_pickT rfl rfl) rfl rfl ?_ | refine LW.opV (ov_pickF rfl rfl) rfl rfl ?_ | refine LW.opV (ov_pick rfl rfl rfl) rfl rfl ?_
      refine LW.opV (ov_assign rfl) rfl rfl ?_
      refine LW.nil ?_
      refine KW.thenN ?_
      refine CW.ret ?_
      exact KW.retF (.cons (.tmp rfl) .nil) [] rfl rfl ⟨congrArg Value.bool (by first | exact (decide_eq_false (by unfold Pk.ok; omega)).symm | exact decide_eq_decide.2 (by unfold Pk.ok; omega)), rfl⟩
  · refine LW.skip rfl rfl ?_
    refine LW.skip rfl rfl ?_
    refine LW.skip rfl rfl ?_
    first | refine LW.opV (ov_pickT rfl rfl) rfl rfl ?_ | refine LW.opV (ov_pickF rfl rfl) rfl rfl ?_ | refine LW.opV (ov_pick rfl rfl rfl) rfl rfl ?_
    refine LW.opV (ov_move rfl) rfl rfl ?_
    refine LW.skip rfl rfl ?_
    refine LW.skip rfl rfl ?_
    refine LW.skip rfl rfl ?_
    first | refine LW.opV (ov_pickT rfl rfl) rfl rfl ?_ | refine LW.opV (ov_pickF rfl rfl) rfl rfl ?_ | refine LW.opV (ov_pick rfl rfl rfl) rfl rfl ?_
    refine LW.opV (ov_move rfl) rfl rfl ?_
    refine LW.skip rfl rfl ?_
    refine LW.skip rfl rfl ?_
    refine LW.skip rfl rfl ?_
    first | refine LW.opV (ov_pickT rfl rfl) rfl rfl ?_ | refine LW.opV (ov_pickF rfl rfl) rfl rfl ?_ | refine LW.opV (ov_pick rfl rfl rfl) rfl rfl ?_
    refine LW.opV (ov_move rfl) rfl rfl ?_
    refine LW.skip rfl rfl ?_
    refine LW.skip rfl rfl ?_
    refine LW.skip rfl rfl ?_
    first | refine LW.opV (ov_pickT rfl rfl) rfl rfl ?_ | refine LW.opV (ov_pickF rfl rfl) rfl rfl ?_ | refine LW.opV (ov_pick rfl rfl rfl) rfl rfl ?_
    refine LW.opV (ov_move rfl) rfl rfl ?_
    refine LW.skip rfl rfl ?_
    refine LW.skip rfl rfl ?_
    refine LW.skip rfl rfl ?_
    first | refine LW.opV (ov_pickT rfl rfl) rfl rfl ?_ | refine LW.opV (ov_pickF rfl rfl) rfl rfl ?_ | refine LW.opV (ov_pick rfl rfl rfl) rfl rfl ?_
    refine LW.opV (ov_move rfl) rfl rfl ?_
    refine LW.skip rfl rfl ?_
    refine LW.skip rfl rfl ?_
    refine LW.skip rfl rfl ?_
    refine LW.skip rfl rfl ?_
    first | refine LW.opV (ov_pickT rfl rfl) rfl rfl ?_ | refine LW.opV (ov_pickF rfl rfl) rfl rfl ?_ | refine LW.opV (ov_pick rfl rfl rfl) rfl rfl ?_
    refine LW.opV (ov_move rfl) rfl rfl ?_
    refine LW.skip rfl rfl ?_
    refine LW.skip rfl rfl ?_
    refine LW.skip rfl rfl ?_
    refine LW.skip rfl rfl ?_
    first | refine LW.opV (ov_pickT rfl rfl) rfl rfl ?_ | refine LW.opV (ov_pickF rfl rfl) rfl rfl ?_ | refine LW.opV (ov_pick rfl rfl rfl) rfl rfl ?_
    refine LW.opV (ov_assign rfl) rfl rfl ?_
    refine LW.nil ?_
    refine KW.thenN ?_
    refine CW.ret ?_
    exact KW.retF (.cons (.tmp rfl) .nil) [] rfl rfl ⟨congrArg Value.bool (by first | exact (decide_eq_false (by unfold Pk.ok; omega)).symm | exact decide_eq_decide.2 (by unfold Pk.ok; omega)), rfl⟩

theorem at_state (a : Int) (R : List Re) : ∃ (i : Nat) (R1 : List Re) (e0 : Re), (match rfind a R 0 with
      | some j => j = i ∧ R1 = R ∧ (look (stR R) a).isSome = true
      | none => R.length = i ∧ R1 = R ++ [(a, 0, false, [])] ∧ (look (stR R) a).isSome = false) ∧ R1[i]? = some e0 ∧ e0.1 = a ∧ rkn e0 = (look (stR R) a).getD ⟨0, none⟩ ∧ R1.length ≤ R.length + 1 ∧
      ∀ e' : Re, e'.1 = a → stR (R1.set i e') = putk (stR R) a (rkn e') := by
  have key : ∀ (R : List Re) (k : Nat), ∃ (i : Nat) (R1 : List Re) (e0 : Re), (match rfind a R k with
      | some j => j = i + k ∧ R1 = R ∧ (look (stR R) a).isSome = true
      | none => R.length = i ∧ R1 = R ++ [(a, 0, false, [])] ∧ (look (stR R) a).isSome = false) ∧ R1[i]? = some e0 ∧ e0.1 = a ∧ rkn e0 = (look (stR R) a).getD ⟨0, none⟩ ∧ R1.length ≤ R.length + 1 ∧
      ∀ e' : Re, e'.1 = a → stR (R1.set i e') = putk (stR R) a (rkn e') := by
    intro R; induction R with
    | nil => intro k; exact ⟨0, [(a, 0, false, [])], (a, 0, false, []), by simp [rfind, stR, look], rfl, rfl, by simp [stR, look, rkn], by simp, fun e' he => by simp [stR, putk, he]⟩
    | cons e r ih =>
      intro k
      by_cases h : e.1 = a
      · exact ⟨0, e :: r, e, by simp [rfind, h, stR, look], rfl, h, by simp [stR, look, h], by simp, fun e' he => by simp [stR, putk, h, he]⟩
      · obtain ⟨i, R1, e0, h1, h2, h3, h4, h5, h6⟩ := ih (k + 1)
        refine ⟨i + 1, e :: R1, e0, ?_, by simpa using h2, h3, by simpa [stR, look, h] using h4, by simpa using h5, fun e' he => ?_⟩
        · simp only [rfind, if_neg h]
          cases q : rfind a r (k + 1) with
          | some j => rw [q] at h1; simp only at h1 ⊢; exact ⟨by omega, by rw [h1.2.1], by simpa [stR, look, h] using h1.2.2⟩
          | none => rw [q] at h1; simp only at h1 ⊢; exact ⟨by simp; omega, by rw [h1.2.1]; rfl, by simpa [stR, look, h] using h1.2.2⟩
        · have := h6 e' he
          simp only [stR, List.set_cons_succ, List.map_cons, putk, if_neg h] at this ⊢
          rw [this]
  obtain ⟨i, R1, e0, h⟩ := key R 0
  exact ⟨i, R1, e0, by simpa using h⟩
end Sx
end Go.Proofs.Ytkofbanncacamaa
