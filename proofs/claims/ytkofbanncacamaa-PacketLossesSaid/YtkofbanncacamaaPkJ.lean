/- The joiners' contracts joined; the law's first calls. -/
import Derived.Test.YtkofbanncacamaaPkI
namespace Go.Proofs.Ytkofbanncacamaa
namespace Sx

theorem Fn.rmono {P : Program} {f : FuncId} {args : Array Value} {pre : List HP} {R R' : Value → List HP → Prop} (h : Fn P f args pre (Ret R)) (k : ∀ v Q, R v Q → R' v Q) : Fn P f args pre (Ret R') :=
  h.mono fun e Q he => by
    cases e with
    | returned v => exact k _ _ he
    | panicked _ => exact he
    | outgrown => exact he

theorem KnOk_feedK {k : Option Kn} {p : Pk} (hp : p.ok) (hk : KnOk (k.getD ⟨0, none⟩)) : KnOk (feedK k p).2 := by
  obtain ⟨hp0, hp1, hp2, hp3, hp4, hp5, hp6, hp7⟩ := hp
  refine ⟨by simp only [feedK]; omega, by simp only [feedK]; omega, fun l hl => ?_⟩
  simp only [feedK] at hl
  generalize feedB (k.getD ⟨0, none⟩).txt (feedM k p) p = br at hl
  have ht : ∀ l, (if br then none else (k.getD ⟨0, none⟩).txt) = some l → l.length ≤ 16384 := by
    intro l h
    cases br with
    | true => cases h
    | false => exact hk.2.2 l h
  generalize (if br then none else (k.getD ⟨0, none⟩).txt) = t at hl ht
  simp only [feedF] at hl
  split at hl
  · exact ht l hl
  split at hl
  · cases hl; omega
  cases t with
  | none => cases hl
  | some u =>
    simp only at hl
    split at hl
    · cases hl
    split at hl
    · cases hl
    · cases hl; rw [List.length_append]; omega
theorem StOk_put {st : List (Int × Kn)} {a : Int} {k : Kn} (h : StOk st) (hk : KnOk k) : StOk (putk st a k) := by
  induction st with
  | nil => intro e he; simp only [putk, List.mem_singleton] at he; subst he; exact hk
  | cons x r ih =>
    obtain ⟨b, k'⟩ := x
    intro e he
    simp only [putk] at he
    split at he
    · rcases List.mem_cons.1 he with rfl | he
      · exact hk
      · exact h e (by simp [he])
    · rcases List.mem_cons.1 he with rfl | he
      · exact h (b, k') (by simp)
      · exact ih (fun e he => h e (by simp [he])) e he
theorem StOk_feedJ {st : List (Int × Kn)} {p : Pk} (h : StOk st) : StOk (feedJ st p).2 := by
  unfold feedJ
  split
  · exact h
  split
  · exact h
  · rename_i hp _
    exact StOk_put h (KnOk_feedK (by simpa using hp) (look_ok h))
theorem putk_len (st : List (Int × Kn)) (a : Int) (k : Kn) : (putk st a k).length ≤ st.length + 1 := by
  induction st with
  | nil => simp [putk]
  | cons x r ih =>
    obtain ⟨b, k'⟩ := x
    simp only [putk]; split <;> simp <;> omega
theorem feedJ_len (st : List (Int × Kn)) (p : Pk) : (feedJ st p).2.length ≤ st.length + 1 := by
  unfold feedJ
  split
  · simp
  split
  · simp
  · exact putk_len _ _ _

theorem Feed_ok {jb : Nat} {st : List (Int × Kn)} {p : Pk} (hst : StOk st) : Fn Try.prog 7 #[.pointer (some ⟨jb, 0, none⟩), pkv p] [JA jb st]
    (Ret fun v Q => v = .tuple #[pcv (feedJ st p).1.1, .int .i64 (feedJ st p).1.2] ∧ Q = [JA jb (feedJ st p).2]) := by
  by_cases h : p.ok
  · by_cases hi : p.apid = 2047
    · have e : feedJ st p = ((pc0, 0), st) := by rw [feedJ, if_neg (by simpa using h), if_pos hi]
      rw [e]; exact Feed_idle h hi
    · have e : feedJ st p = (((feedK (look st p.apid) p).1, 0), putk st p.apid (feedK (look st p.apid) p).2) := by rw [feedJ, if_neg (by simpa using h), if_neg hi]
      rw [e]; exact Feed_main h hi hst
  · have e : feedJ st p = ((pc0, 2), st) := by rw [feedJ, if_pos h]
    rw [e]; exact Feed_bad h
theorem RFeed_ok {rb : Nat} {R : List Re} {p : Pk} (hR : R.length ≤ 1000000) (hst : StOk (stR R)) : Fn Try.prog 8 #[.pointer (some ⟨rb, 0, none⟩), pkv p] [RA rb R]
    (Ret fun v Q => ∃ R', v = .tuple #[pcv (feedJ (stR R) p).1.1, .int .i64 (feedJ (stR R) p).1.2] ∧ stR R' = (feedJ (stR R) p).2 ∧ Q = [RA rb R']) := by
  by_cases h : p.ok
  · by_cases hi : p.apid = 2047
    · have e : feedJ (stR R) p = ((pc0, 0), stR R) := by rw [feedJ, if_neg (by simpa using h), if_pos hi]
      rw [e]; exact (RFeed_idle h hi).rmono fun v Q hv => ⟨R, hv.1, rfl, hv.2⟩
    · have e : feedJ (stR R) p = (((feedK (look (stR R) p.apid) p).1, 0), putk (stR R) p.apid (feedK (look (stR R) p.apid) p).2) := by rw [feedJ, if_neg (by simpa using h), if_neg hi]
      rw [e]; exact (RFeed_main h hi hR hst).rmono fun v Q ⟨R', h1, h2, _, h3⟩ => ⟨R', h1, h2, h3⟩
  · have e : feedJ (stR R) p = ((pc0, 2), stR R) := by rw [feedJ, if_pos h]
    rw [e]; exact (RFeed_bad h).rmono fun v Q hv => ⟨R, hv.1, rfl, hv.2⟩

/-! ### What the law asks first -/
set_option maxRecDepth 20000
theorem put1 : Fn Try.prog 15 #[pkv ⟨false, 5, 3, 1, [65]⟩] [] (Ret fun v Q => v = .tuple #[S [0, 5, 0xc0, 1, 0, 0, 65], .int .i64 0] ∧ Q = []) :=
  (Put_ok _).rmono fun v Q h => ⟨h.1.trans (by rw [if_pos (by decide)]; rfl), h.2⟩
theorem take1 : Fn Try.prog 16 #[S [0, 5, 0xc0, 1, 0, 0, 65, 66]] [] (Ret fun v Q => v = .tuple #[pkv ⟨false, 5, 3, 1, [65]⟩, .int .i64 7, .int .i64 0] ∧ Q = []) :=
  (Take_ok (by decide)).rmono fun v Q h => ⟨h.1.trans (by rfl), h.2⟩
theorem take2 : Fn Try.prog 16 #[S [0, 5, 0xc0]] [] (Ret fun v Q => v = .tuple #[pkv pk0, .int .i64 0, .int .i64 4] ∧ Q = []) :=
  (Take_ok (by decide)).rmono fun v Q h => ⟨h.1.trans (by rfl), h.2⟩
theorem take3 : Fn Try.prog 16 #[S [0x20]] [] (Ret fun v Q => v = .tuple #[pkv pk0, .int .i64 0, .int .i64 6] ∧ Q = []) :=
  (Take_ok (by decide)).rmono fun v Q h => ⟨h.1.trans (by rfl), h.2⟩
abbrev spl : List Pk := [⟨false, 5, 1, 16383, [97, 98]⟩, ⟨false, 5, 0, 0, [99, 100]⟩, ⟨false, 5, 2, 1, [101]⟩]
theorem split1 : Fn Try.prog 12 #[.bool false, .int .i64 5, .int .i64 16383, S [97, 98, 99, 100, 101], .int .i64 2] [] (Ret fun v Q => ∃ (ad : Option Addr) (c : Nat), v = .tuple #[.slice ad 3 c, .int .i64 0] ∧ Q = [ownS 34 5 (.slice ad 3 c) 3 (pkS spl)]) :=
  (Split_ok (cmd := false) (apid := 5) (count := 16383) (most := 2) (l := [97, 98, 99, 100, 101]) (by decide) (by decide) (by decide) (by decide)).rmono fun v Q h => by
    have e : splitK false 5 16383 2 [97, 98, 99, 100, 101] = spl := by rfl
    rw [e] at h; exact h
theorem fd1 : feedJ [] ⟨false, 5, 1, 16383, [97, 98]⟩ = ((⟨false, [], 0, false⟩, 0), [(5, ⟨0, some [97, 98]⟩)]) := by rfl
theorem fd2 : feedJ [(5, ⟨0, some [97, 98]⟩)] ⟨false, 5, 0, 0, [99, 100]⟩ = ((⟨false, [], 0, false⟩, 0), [(5, ⟨1, some [97, 98, 99, 100]⟩)]) := by rfl
theorem fd3 : feedJ [(5, ⟨1, some [97, 98, 99, 100]⟩)] ⟨false, 5, 2, 1, [101]⟩ = ((⟨true, [97, 98, 99, 100, 101], 0, false⟩, 0), [(5, ⟨2, none⟩)]) := by rfl
end Sx
end Go.Proofs.Ytkofbanncacamaa
